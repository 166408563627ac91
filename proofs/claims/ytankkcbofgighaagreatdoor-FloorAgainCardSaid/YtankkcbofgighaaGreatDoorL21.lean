import Derived.Test.YtankkcbofgighaaGreatDoorL20
import Derived.BigQuiet
import Derived.Deep.DeepCutAuto
import Derived.BigRegion
import Derived.Handy
set_option linter.all false
set_option maxRecDepth 100000
set_option maxHeartbeats 40000000
namespace Go.Proofs.YtankkcbofgighaaGreatDoor
section
open Go.RowKit
open Le
def ranK(b2:Int)(l:List Int)(k:Nat):List Int:=(l.take k).map (·+b2)++l.drop k
theorem zf8(b2:Int)(l:List Int){k:Nat}:(ranK b2 l k).length=l.length:=by
 unfold ranK;rw[qD,List.length_map,<- qD,List.take_append_drop]
theorem znP(b2:Int){l:List Int}{k:Nat}{r:Int}(h:l[k]?=some r):(ranK b2 l k)[k]?=some r/\l.drop k=r :: l.drop (k+1)/\(ranK b2 l k).set k (r+b2)=ranK b2 l (k+1):=by
 have hk:=(qO.1 h).1
 have e:l[k]=r:=(qO.1 h).2
 have hd:l.drop k=r :: l.drop (k+1):=by rw[List.drop_eq_getElem_cons hk,e]
 have hm:((l.take k).map (·+b2)).length=k:=by rw[List.length_map,List.length_take];omega
 refine⟨?_,hd,?_⟩
 .unfold ranK;rw[List.getElem?_append_right (by omega),hm,Nat.sub_self,hd];rfl
 .unfold ranK
  rw[List.set_append_right _ _ (by omega),hm,Nat.sub_self,hd,qK,List.take_add_one,List.map_append,h,List.append_assoc]
  rfl
theorem znQ(b2:Int)(l:List Int):ranK b2 l l.length=l.map (·+b2):=by unfold ranK;rw[List.take_length,List.drop_length,List.append_nil]
structure RMk(w:World)(f:Nat)(R:Nat->Rw)(L:List Value)(d:Ru.Die)(ran:List Int)(b2:Int)(k:Nat)(far:Int)(W:World):Prop where
 hk:k<=ran.length
 m:Mid w W f R (upR R 1 { R 1 with xs:=(ranK b2 ran k).flatMap zad }) L
 fr:farS d b2 0 ran 0=farS d b2 k (ran.drop k) far
 bd:0<=far/\far<=1000000000
def RMkI(w:World)(f:Nat)(R:Nat->Rw)(L:List Value)(d:Ru.Die)(ran:List Int)(b2:Int)(fv iv:Value)(W:World):Prop:=∃(k:Nat) (far:Int),iv=.int .i64 k/\fv=.int .i64 far/\RMk w f R L d ran b2 k far W
theorem Mid.dieAt{O:Nat->Prop}{w V:World}{f:Nat}{R R':Nat->Rw}{L:List Value}{cs:List Cu.Cut}{ps:List Pq}{d:Ru.Die}{s:St}(h:Mid w V f R R' L)(fl:FlAt O w f R cs ps d s)(hd:Ru.dieS d=true):Ru.DieAt V V.heap.size d:=
 ⟨h.at_ fl.die (fun b x=>fl.sub b x),(FlAt.dieAt fl hd).l1⟩
theorem zjv{d:Ru.Die}{s:Bk}{a b2 far:Int}(h1:¬ 12<=s.made.length)(h2:¬(s.cuts.length:Int)<=a)(h3:1<=b2/\b2<=1000)(h:farS d b2 0 s.ran 0=.ok far) :
  doV d s .make [a,b2]=if d.bound<far then .error 11 else .ok ({ s with ran:=s.ran.map (·+b2),made:=s.made++[⟨a,b2⟩] },rep [wd zgD,.n ((s.made.length:Int)+1),wd Vb.off.name,.n far]):=by
 unfold doV;simp only[List.getD_cons_zero,List.getD_cons_succ]
 rw[if_neg h1,if_neg h2,if_neg (fun q=>q h3),h]
theorem zn5(O:Nat->Prop)(w:World)(f:Nat)(R:Nat->Rw)(cs:List Cu.Cut)(ps:List Pq)(d:Ru.Die)(s:St)(A:Option Addr)(c:Nat)(a:Int)(b2:Int)(hp:Pre O w f R cs ps d s A c [a,b2]) :
  Calls Tryz.prog 190 #[.pointer (some ⟨f,0,none⟩),.slice A 2 c] w (RetF O w f R d (resV d s .make [a,b2])):=by
 obtain⟨A0,c0,A1,c1,A2,c2,A3,c3,A4,c4,A5,c5,A6,c6,hs⟩:=hp.fl.sees
 obtain⟨b,off,rfl,aX,aA,na⟩:=hp.na.get (k:=0) (by simp)
 have na:w.cell? ⟨b,off,none⟩=some (.int .i64 a):=na
 obtain⟨b',off',e',-,-,na1⟩:=hp.na.get (k:=1) (by simp)
 injection e' with e'
 injection e' with e1 e2 _
 subst e1 e2
 have na1:w.cell? ⟨b,off+1,none⟩=some (.int .i64 b2):=na1
 have ar:b≠f:=fun e=>aA (hp.fl.sub b (.inl e))
 have aB:=qG ar
 have aY:=qG aA
 have ao:=qG na
 have af:=qG na1
 have bE:2<=c:=hp.nc
 clear aA ar aX
 have HP:=qG hp
 have HS:=qG hs
 clear hp hs
 have h0:0<=a:=(HP.o.nn a (qE ..)).1
 have bF:=qG (HP.o.nn a (qE ..))
 have bG:=qG (HP.o.nn b2 (by simp))
 obtain⟨g0,aJ⟩:=HS.o.addr0 HP.o.fl
 have ac:=qG (show ¬ zao f R b from fun k=>aY.o (HP.o.fl.sub b k))
 have aw:=qG (Mid.sees HP.o.fl HS.o)
 have F1:=HS.o.x.c 1 _ rfl
 have f3:=HS.o.x.c 3 _ rfl
 by_cases hl:12<=s.b.made.length
 .have hd:decide ((s.b.made.length:Int)<12)=false:=decide_eq_false (by omega)
  go_enter Tryz.func190,Tryz.ntmps190
  go_wp2_with fail
  refine(zak 9 w).mono ?_
  rintro e w' ⟨rfl,rfl⟩
  rw[show resV d s .make [a,b2]=.error 9 from by unfold resV doV;simp only[List.getD_cons_zero,List.getD_cons_succ];rw[if_pos hl]]
  exact⟨rfl,zau HP.o.fl (Below.refl _ _) rfl⟩
 .have hd:decide ((s.b.made.length:Int)<12)=true:=decide_eq_true (by omega)
  have bH:(0:Int)<2:=by omega
  have bI:(1:Int)<2:=by omega
  go_enter Tryz.func190,Tryz.ntmps190
  go_wp2_with fail
  refine(zat 9 w).mono ?_
  rintro e w' ⟨rfl,rfl⟩
  have HL:=qG hl
  clear hd hl f3
  go_wp2_with fail
  refine(zfc f a g0 0 s.b.cuts.length c0 A0 w h0 aJ F1).mono ?_
  rintro e w' ⟨rfl,⟨h,rfl⟩|⟨h,rfl⟩⟩
  .have ax:=qG h
   clear h aJ F1
   go_wp2_with fail
   refine(zam b2 1 1000 w).mono ?_
   rintro e w' ⟨rfl,rfl⟩
   go_wp2_with fail
   rw[<- Bool.decide_and]
   refine(zlA (1<=b2/\b2<=1000) 2 w).mono ?_
   rintro e w' ⟨rfl,⟨h,rfl⟩|⟨h,rfl⟩⟩
   .have ay:=qG h
    have f2:=aw.o.x.c 2 _ rfl
    have aZ:=qG (show ∀(k:Nat) (r:Int),s.b.ran[k]?=some r->0<=r/\r<=7000 from fun k r hr=>HP.o.ok.b.rn r (List.mem_of_getElem? hr))
    have a7:=qG (show s.b.ran.length<=10 from by
     have h1:=HP.o.ok.b.nr
     have h2:=HP.o.ok.dd
     unfold Ru.dieS Ru.inS at h2
     simp only[Bool.and_eq_true,qC] at h2
     omega)
    have a8:=qG (show RMk w f R (seL d s A0 c0 A1 c1 A2 c2 A3 c3 A4 c4 A5 c5 A6 c6) d s.b.ran b2 0 0 w from⟨Nat.zero_le _,by
     have hr:upR R 1 { R 1 with xs:=(ranK b2 s.b.ran 0).flatMap zad }=R:=by
      funext j
      by_cases e:j=1
      .subst e;rw[zaU]
       have h1:(R 1).xs=s.b.ran.flatMap zad:=HP.o.fl.h.ro.r1.2.2.2
       show({ R 1 with xs:=s.b.ran.flatMap zad }:Rw)=R 1
       rw[<- h1]
      .rw[zaY _ _ e]
     rw[hr];exact aw.o,rfl,by omega⟩)
    clear h na na1
    go_upto_region 6 with fail
    clear f2
    go_loopw [5,35] (fun fv iv wr=>RMkI w f R (seL d s A0 c0 A1 c1 A2 c2 A3 c3 A4 c4 A5 c5 A6 c6) d s.b.ran b2 fv iv wr) (fun _ iv _=>s.b.ran.length-(intOf iv).toNat)
    case atStart=>exact⟨0,0,rfl,rfl,a8.o⟩
    case round=>
     obtain⟨k,far,rfl,rfl,hI⟩:=hrel
     have HI:=qG hI
     have hk:=hI.hk
     have ar:=hI.bd
     clear hI
     by_cases hlt:k<s.b.ran.length
     .obtain⟨r,hr⟩:∃ r,s.b.ran[k]?=some r:=⟨_,qN hlt⟩
      obtain⟨aK,aL,aM⟩:=znP b2 hr
      have aN:=qG aL
      have a9:=qG aM
      have ba:=aZ.o k r hr
      have bf:=ay.o
      have bJ:=qG hr
      have aV:=qG (show(upR R 1 { R 1 with xs:=(ranK b2 s.b.ran k).flatMap zad } 1).e=3/\(upR R 1 { R 1 with xs:=(ranK b2 s.b.ran k).flatMap zad } 1).size=1/\(upR R 1 { R 1 with xs:=(ranK b2 s.b.ran k).flatMap zad } 1).n=(ranK b2 s.b.ran k).length/\(upR R 1 { R 1 with xs:=(ranK b2 s.b.ran k).flatMap zad } 1).xs=(ranK b2 s.b.ran k).flatMap zad from by
       rw[zaU];have ro:=HP.o.fl.h.ro.r1;exact⟨ro.1,ro.2.1,by rw[zf8];exact ro.2.2.1,rfl⟩)
      obtain⟨g,cap,eb,ev,aC⟩:=Rw.ok.elem (HI.o.m.o.row 1 (by decide)) aV.o zbp (by decide) aK
      rw[zf8] at ev
      have aO:=qG (show(R 1).v=.slice (some ⟨g,0,none⟩) s.b.ran.length (cap+1) from by rw[zaU] at ev;exact ev)
      have bh:=qG eb
      have aD:A1=some ⟨g,0,none⟩/\c1=cap+1:=by have:=HS.o.e1;rw[aO.o] at this;injection this with q1 _ q2;exact⟨q1.symm,q2.symm⟩
      have bi:=qG (show wr.cell? ⟨f,2,none⟩=some (.slice (some ⟨g,0,none⟩) s.b.ran.length (cap+1)) from by have:=HI.o.m.x.c 2 _ rfl;rw[aD.1,aD.2] at this;exact this)
      have x1:wr.cell? ⟨g,k,none⟩=some (.int .i64 r):=by have:=(aC 0 _ rfl).1;rw[Nat.mul_one,Nat.add_zero] at this;exact this
      have x2:wr.frozen? ⟨g,k,none⟩=false:=by have:=(aC 0 _ rfl).2;rw[Nat.mul_one,Nat.add_zero] at this;exact this
      have f2:=bi.o
      have n1:=HI.o.m.cell ac.o af.o
      have bj:IntKind.i64.wrap (r+b2)=r+b2:=qF _ (by omega)
      have bk:wrap64 (r+b2)=r+b2:=IntWalk.wrap64_in _ (by omega)
      have bK:(k:Int)<(s.b.ran.length:Int):=by omega
      clear aK aL aM hr eb ev aC aD
      go_upto_region 8 with fail
      go_region
      have hj:k<(upR R 1 { R 1 with xs:=(ranK b2 s.b.ran k).flatMap zad } 1).xs.length:=by rw[zaU];show k<((ranK b2 s.b.ran k).flatMap zad).length;rw[zbr zbp,zf8];omega
      have aE:=(HI.o.m.setR (k:=1) (by decide) bh.o hj (.int .i64 (r+b2))).drew
      have aP:upR (upR R 1 { R 1 with xs:=(ranK b2 s.b.ran k).flatMap zad }) 1 { upR R 1 { R 1 with xs:=(ranK b2 s.b.ran k).flatMap zad } 1 with xs:=(upR R 1 { R 1 with xs:=(ranK b2 s.b.ran k).flatMap zad } 1).xs.set k (.int .i64 (r+b2)) }=upR R 1 { R 1 with xs:=(ranK b2 s.b.ran (k+1)).flatMap zad }:=by
       funext j
       by_cases e:j=1
       .subst e;rw[zaU,zaU,zaU];show({ R 1 with xs:=((ranK b2 s.b.ran k).flatMap zad).set k (.int .i64 (r+b2)) }:Rw)=_;rw[zdK,a9.o]
       .rw[zaY _ _ e,zaY _ _ e,zaY _ _ e]
      rw[aP] at aE
      have an:=qG aE
      have ag:=qG (show(wr.setCell ⟨g,k,none⟩ (.int .i64 (r+b2))).drew.cell? ⟨g,k,none⟩=some (.int .i64 (r+b2)) from by show(wr.setCell ⟨g,k,none⟩ (.int .i64 (r+b2))).cell? ⟨g,k,none⟩=_;rw[World.cell?_setCell_same _ _ _ (by rw[x1])])
      generalize(wr.setCell ⟨g,k,none⟩ (.int .i64 (r+b2))).drew=V2 at *
      have ah:=qG (show V2.cell? ⟨f,2,none⟩=some (.slice (some ⟨g,0,none⟩) s.b.ran.length (cap+1)) from by have h9:=an.o.x.c 2 _ rfl;have h8:=HS.o.e1;rw[aO.o] at h8;injection h8 with q1 _ q2;rw[<- q1,<- q2] at h9;exact h9)
      have ai:=qG (an.o.x.c 13 _ rfl)
      have aj:=qG (an.o.x.c 14 _ rfl)
      have ak:=qG (an.o.x.c 15 _ rfl)
      have am:=qG (an.o.x.c 16 _ rfl)
      have aQ:=qG (an.o.dieAt HP.o.fl HP.o.ok.dd)
      clear x1 x2 f2 n1 bj bk hj aP aE ba bf
      go_upto_region 9 with fail
      go_cut [7,8] (fun s7 s8 wx=>zko ((Ru.offS d (k:Int) (r+b2)).1.1) ((Ru.offS d (k:Int) (r+b2)).1.2) ((Ru.offS d (k:Int) (r+b2)).2) V2 s7 s8 wx)
      case first=>
       refine wp_region_noPanic ?_
       refine wp_region_held_drew (S:=(fun W=>W.cell? ⟨f,2,none⟩=some (.slice (some ⟨g,0,none⟩) s.b.ran.length (cap+1))/\W.cell? ⟨g,k,none⟩=some (.int .i64 (r+b2))/\W.cell? ⟨f,13,none⟩=some (.slice d.A d.blades.length d.c)/\W.cell? ⟨f,14,none⟩=some (.int .i64 d.bound)/\W.cell? ⟨f,15,none⟩=some (.int .i64 d.stop)/\W.cell? ⟨f,16,none⟩=some (.int .i64 d.bend))) (by kernel_rfl) ?_ (fun aa=>?_)
       ·(try dsimp only);exact⟨ah.o,ag.o,ai.o,aj.o,ak.o,am.o⟩
       refine ht 0 (h:=?_)
       refine ht 1 (h:=?_)
       refine ht 2 (h:=?_)
       refine ht 3 (h:=?_)
       refine ht 4 (h:=?_)
       refine ht 5 (h:=?_)
       refine ht 6 (h:=?_)
       refine ht 7 (h:=?_)
       refine ht 8 (h:=?_)
       refine ht 9 (h:=?_)
       refine ht 10 (h:=?_)
       refine ht 11 (h:=?_)
       refine ht 12 (h:=?_)
       refine ht 13 (h:=?_)
       refine wpAnyH_ready (rs:=[14,18]) (by kernel_rfl) (by simp) ?_
       refine zab rfl (fun K hK=>?_) (zab rfl (fun K hK=>?_) (AllReadyH.nil))
       go_simp
       refine(Ru.zfG d (k:Int) (r+b2) _ (aQ.o.next (by first|exact(Below.refl _ V2).drew|exact(nxA V2 _).drew))).mono ?_;rintro e V ⟨rfl,ab⟩;have HB:=qG (show Below V2.heap.size V2 V from by first|exact(Below.refl _ V2).drew.trans ab|exact(nxA V2 (.cells #[.int .i64 0,.int .i64 0] 61)).drew.trans (ab.mono (by simp)));(try have ae:=qG ((Bx.new V2 #[.int .i64 0,.int .i64 0] 61).drew.next ab);have z0:=ae.o.c 0 _ rfl;have z1:=ae.o.c 1 _ rfl;have y0:=ae.o.fr 0;have y1:=ae.o.fr 1;have zl:=ae.o.lt);clear ab;simp only[Ru.zdZ]
       refine hK.out _ _ ?_ (fun aa=>?_)
       ·(try dsimp only);exact⟨n2 HB.o ah.o,n2 HB.o ag.o,n2 HB.o ai.o,n2 HB.o aj.o,n2 HB.o ak.o,n2 HB.o am.o⟩
       clear hK K
       try simp only[qW]
       refine ht 15 (h:=?_)
       refine ht 16 (h:=?_)
       refine ht 17 (h:=?_)
       refine r1 (i:=18) (by kernel_rfl) rfl fun K hK=>?_
       go_simp
       refine hK.out _ _ ?_ (fun aa=>?_)
       ·(try dsimp only);first|exact⟨(n3 V (n2 HB.o ah.o)).trans rfl,(n3 V (n2 HB.o ag.o)).trans rfl,(n3 V (n2 HB.o ai.o)).trans rfl,(n3 V (n2 HB.o aj.o)).trans rfl,(n3 V (n2 HB.o ak.o)).trans rfl,(n3 V (n2 HB.o am.o)).trans rfl⟩|exact⟨(n3 V2 ah.o).trans rfl,(n3 V2 ag.o).trans rfl,(n3 V2 ai.o).trans rfl,(n3 V2 aj.o).trans rfl,(n3 V2 ak.o).trans rfl,(n3 V2 am.o).trans rfl⟩
       clear hK K
       try simp only[qW]
       rotate_left
       go_simp
       refine hK.out _ _ ?_ (fun aa=>?_)
       ·(try dsimp only);first|exact⟨(n3 V (n2 HB.o ah.o)).trans rfl,(n3 V (n2 HB.o ag.o)).trans rfl,(n3 V (n2 HB.o ai.o)).trans rfl,(n3 V (n2 HB.o aj.o)).trans rfl,(n3 V (n2 HB.o ak.o)).trans rfl,(n3 V (n2 HB.o am.o)).trans rfl⟩|exact⟨(n3 V2 ah.o).trans rfl,(n3 V2 ag.o).trans rfl,(n3 V2 ai.o).trans rfl,(n3 V2 aj.o).trans rfl,(n3 V2 ak.o).trans rfl,(n3 V2 am.o).trans rfl⟩
       clear hK K
       try simp only[qW]
       refine r1 (i:=14) (by kernel_rfl) rfl fun K hK=>?_
       go_simp
       refine(Ru.zfG d (k:Int) (r+b2) _ (aQ.o.next (by first|exact(Below.refl _ V2).drew|exact(nxA V2 _).drew))).mono ?_;rintro e V ⟨rfl,ab⟩;have HB:=qG (show Below V2.heap.size V2 V from by first|exact(Below.refl _ V2).drew.trans ab|exact(nxA V2 (.cells #[.int .i64 0,.int .i64 0] 61)).drew.trans (ab.mono (by simp)));(try have ae:=qG ((Bx.new V2 #[.int .i64 0,.int .i64 0] 61).drew.next ab);have z0:=ae.o.c 0 _ rfl;have z1:=ae.o.c 1 _ rfl;have y0:=ae.o.fr 0;have y1:=ae.o.fr 1;have zl:=ae.o.lt);clear ab;simp only[Ru.zdZ]
       refine hK.out _ _ ?_ (fun aa=>?_)
       ·(try dsimp only);exact⟨n2 HB.o ah.o,n2 HB.o ag.o,n2 HB.o ai.o,n2 HB.o aj.o,n2 HB.o ak.o,n2 HB.o am.o⟩
       clear hK K
       try simp only[qW]
       refine ht 15 (h:=?_)
       refine ht 16 (h:=?_)
       refine ht 17 (h:=?_)
       all_goals
        refine r1 (i:=19) (by kernel_rfl) rfl fun K hK=>?_
        go_simp
        refine hK.out _ _ ?_ (fun aa=>?_)
        ·(try dsimp only);first|exact⟨(n3 V (n2 HB.o ah.o)).trans rfl,(n3 V (n2 HB.o ag.o)).trans rfl,(n3 V (n2 HB.o ai.o)).trans rfl,(n3 V (n2 HB.o aj.o)).trans rfl,(n3 V (n2 HB.o ak.o)).trans rfl,(n3 V (n2 HB.o am.o)).trans rfl⟩|exact⟨(zal (Nat.ne_of_lt (zaa ah.o))).trans (n2 HB.o ah.o),(zal (Nat.ne_of_lt (zaa ag.o))).trans (n2 HB.o ag.o),(zal (Nat.ne_of_lt (zaa ai.o))).trans (n2 HB.o ai.o),(zal (Nat.ne_of_lt (zaa aj.o))).trans (n2 HB.o aj.o),(zal (Nat.ne_of_lt (zaa ak.o))).trans (n2 HB.o ak.o),(zal (Nat.ne_of_lt (zaa am.o))).trans (n2 HB.o am.o)⟩
        clear hK K
        try simp only[qW]
        refine ht 20 (h:=?_)
        refine wpAnyH_done (by kernel_rfl) ?_ _
        refine NoPanic.normal ?_
       iterate 22 (try clear aa)
       all_goals
        go_wp2_with fail
        go_meet
        first
        |exact⟨rfl,_,rfl,Bx.new V #[.int .i64 ((Ru.offS d (k:Int) (r+b2)).1.1),.int .i64 ((Ru.offS d (k:Int) (r+b2)).1.2)] 61,HB.o.trans ((nxA V _).mono HB.o.size)⟩
        |exact⟨rfl,_,rfl,(ae.o.set (k:=0) (by simp) _).set (k:=1) (by simp) _,(HB.o.setCell (qQ _) _).setCell (qQ _) _⟩
      case rest=>
       obtain⟨rfl,b5,rfl,aR,aS⟩:=hcut
       have bp:=qG aR
       have HB:=qG aS
       clear aR aS
       go_wp2_with fail
       refine(zc3 _ wc).mono ?_
       rintro e w' ⟨rfl,⟨h,rfl⟩|⟨h,rfl⟩⟩
       .have bq:=qG (off_bd h)
        have w1:=bp.o.c 1 _ rfl
        have bu:=qG (show RMk w f R (seL d s A0 c0 A1 c1 A2 c2 A3 c3 A4 c4 A5 c5 A6 c6) d s.b.ran b2 (k+1) (max far (Ru.offS d (k:Int) (r+b2)).1.2) wc from⟨hlt,an.o.below HB.o,by rw[HI.o.fr,aN.o];exact if_neg (fun q=>q h),by have h1:=bq.o.2;have h2:=ar;omega⟩)
        have bL:(if far<(Ru.offS d (k:Int) (r+b2)).1.2 then(Ru.offS d (k:Int) (r+b2)).1.2 else far)=max far (Ru.offS d (k:Int) (r+b2)).1.2:=by split <;> omega
        have bM:IntKind.i64.wrap ((k:Int)+1)=(k:Int)+1:=qF _ (by have:=a7.o;omega)
        clear h
        generalize(Ru.offS d (k:Int) (r+b2)).1.2=hi at *
        go_wp2_with fail
        exact⟨⟨k+1,_,by go_num,rfl,bu.o⟩,by simp[intOf];omega⟩
       .refine⟨rfl,?_⟩
        rw[show resV d s .make [a,b2]=.error (Ru.offS d (k:Int) (r+b2)).2 from by unfold resV doV;simp only[List.getD_cons_zero,List.getD_cons_succ];rw[if_neg HL.o,if_neg (by have:=ax.o;omega),if_neg (fun q=>q ay.o),HI.o.fr,aN.o,show farS d b2 k (r :: s.b.ran.drop (k+1)) far=.error (Ru.offS d (k:Int) (r+b2)).2 from if_pos h]]
        exact an.o.late rfl (by simp[seL]) HB.o rfl
     .have bv:k=s.b.ran.length:=by omega
      subst bv
      have aT:=qG (show farS d b2 0 s.b.ran 0=.ok far from by rw[HI.o.fr,List.drop_length];rfl)
      have bw:=qG (show ranK b2 s.b.ran s.b.ran.length=s.b.ran.map (·+b2) from znQ b2 s.b.ran)
      have au:=qG (show Mid w wr f R (upR R 1 { R 1 with xs:=(s.b.ran.map (·+b2)).flatMap zad }) (seL d s A0 c0 A1 c1 A2 c2 A3 c3 A4 c4 A5 c5 A6 c6) from by rw[<- bw.o];exact HI.o.m)
      have aB:=qG ar
      have f14:=au.o.x.c 14 _ rfl
      clear hk ar hlt
      have aF:=qG (show RowsOk (upR R 1 { R 1 with xs:=(s.b.ran.map (·+b2)).flatMap zad }) cs ps { s.b with ran:=s.b.ran.map (·+b2) } from by
       have ro:=HP.o.fl.h.ro
       exact⟨ro.r0,⟨ro.r1.1,ro.r1.2.1,by show _=(s.b.ran.map _).length;rw[List.length_map];exact ro.r1.2.2.1,rfl⟩,ro.r2,ro.r3,ro.r4,ro.r5,ro.r6⟩)
      have aq:=qG (show ∀ j,(upR R 1 { R 1 with xs:=(s.b.ran.map (·+b2)).flatMap zad } j).v=(R j).v from fun j=>by
       by_cases e:j=1
       .subst e;rw[zaU]
       .rw[zaY _ _ e])
      generalize upR R 1 { R 1 with xs:=(s.b.ran.map (·+b2)).flatMap zad }=RC at *
      go_wp2_with fail
      refine(zlA (far<=d.bound) 11 wr).mono ?_
      rintro e w' ⟨rfl,⟨h,rfl⟩|⟨h,rfl⟩⟩
      .have bz:=qG h
       clear h f14
       have aw:=au
       go_upto_region 14 with fail
       go_cut [104] (fun _ wx=>ziS w f R RC (seL d s A0 c0 A1 c1 A2 c2 A3 c3 A4 c4 A5 c5 A6 c6) 2 3 65 2 (s.b.made.length+1) (s.b.made.flatMap btL++btL ⟨a,b2⟩) wx)
       case first=>
        obtain⟨i0,hi,bA,bB,bC⟩:=zbd znj
        have aG:=qG (show RC 2=⟨65,2,.slice A2 s.b.made.length c2,s.b.made.length,s.b.made.flatMap btL⟩ from zgH aF.o.r2 ((aq.o 2).trans HS.o.e2))
        have HM:=qG aw.o
        refine wp_region_noPanic ?_
        refine wp_region_held_drew (S:=(fun W=>W.cell? ⟨b,off,none⟩=some (.int .i64 a)/\W.cell? ⟨b,off+1,none⟩=some (.int .i64 b2))) (by kernel_rfl) ?_ (fun aa=>?_)
        ·(try dsimp only);exact⟨HM.o.cell ac.o ao.o,HM.o.cell ac.o af.o⟩
        refine ht 0 (h:=?_)
        refine ht 1 (h:=?_)
        refine ht 2 (h:=?_)
        refine ht 3 (h:=?_)
        refine ht 4 (h:=?_)
        refine ht 5 (h:=?_)
        refine ht 7 (h:=?_)
        refine ht 8 (h:=?_)
        refine ht 9 (h:=?_)
        refine ht 10 (h:=?_)
        refine ht 11 (h:=?_)
        refine ht 12 (h:=?_)
        refine ht 13 (h:=?_)
        refine wpAnyH_ready (rs:=[6,14]) (by kernel_rfl) (by simp) ?_
        refine zab rfl (fun K hK=>?_) (zab rfl (fun K hK=>?_) (AllReadyH.nil))
        have z5:=HM.o.x.c 3 _ rfl;go_simp;clear z5
        refine hK.out _ _ ?_ (fun aa=>?_)
        ·(try dsimp only);exact⟨HM.o.cell ac.o ao.o,HM.o.cell ac.o af.o⟩
        clear hK K
        try simp only[qW]
        refine r1 (i:=14) (by kernel_rfl) rfl fun K hK=>?_
        go_simp
        (first|refine hold_alloc (fun Wa q1 q2 q3=>?_)|refine zaJ (fun Wa q1 q2 q3=>?_));have aH:=qG (show Bx _ _ (btL ⟨a,b2⟩) from q2);replace HM:=qG (HM.o.below q1);clear q1 q2 q3
        refine hK.out _ _ ?_ (fun aa=>?_)
        ·(try dsimp only);exact⟨HM.o.cell ac.o ao.o,HM.o.cell ac.o af.o⟩
        clear hK K
        try simp only[qW]
        rotate_left
        go_simp
        (first|refine hold_alloc (fun Wa q1 q2 q3=>?_)|refine zaJ (fun Wa q1 q2 q3=>?_));have aH:=qG (show Bx _ _ (btL ⟨a,b2⟩) from q2);replace HM:=qG (HM.o.below q1);clear q1 q2 q3
        refine hK.out _ _ ?_ (fun aa=>?_)
        ·(try dsimp only);exact⟨HM.o.cell ac.o ao.o,HM.o.cell ac.o af.o⟩
        clear hK K
        try simp only[qW]
        refine r1 (i:=6) (by kernel_rfl) rfl fun K hK=>?_
        have z5:=HM.o.x.c 3 _ rfl;go_simp;clear z5
        refine hK.out _ _ ?_ (fun aa=>?_)
        ·(try dsimp only);exact⟨HM.o.cell ac.o ao.o,HM.o.cell ac.o af.o⟩
        clear hK K
        try simp only[qW]
        all_goals
         refine r1 (i:=15) (by kernel_rfl) rfl fun K hK=>?_
         refine zaI (r:=⟨65,2,.slice A2 s.b.made.length c2,s.b.made.length,s.b.made.flatMap btL⟩) rfl (.tmp 91) (.tmp 99) 36 rfl (aG.o▸HM.o.o.row 2 (by decide)) i0 _ 16 Tryz.underlying36 hi bA bB bC rfl (show 0<2 by decide) rfl ⟨_,0,none⟩ 1 1 (btL ⟨a,b2⟩) rfl (by decide) rfl aH.o.news (fun u hu=>by simp only[btL,List.mem_cons,List.not_mem_nil,or_false] at hu;rcases hu with rfl|rfl <;> rfl) (show s.b.made.length+1<=maxLen by have:=HL.o;unfold maxLen;omega) (show(s.b.made.length+1)*16<=_ by have:=HL.o;omega) ?_;intro v' w' aI az aU;replace HM:=qG (HM.o.app (k:=2) (r:=⟨65,2,v',s.b.made.length+1,s.b.made.flatMap btL++btL ⟨a,b2⟩⟩) (by decide) (by rw[aG.o];exact az) aI (by rw[aG.o];exact aU));obtain⟨A6',c6',e6,-⟩:∃ A c,v'=.slice A (s.b.made.length+1) c/\s.b.made.length+1<=c:=aI.form;subst e6;clear aI az aU aH
         refine hK.out _ _ ?_ (fun aa=>?_)
         ·(try dsimp only);exact⟨HM.o.cell ac.o ao.o,HM.o.cell ac.o af.o⟩
         clear hK K
         try simp only[qW]
         refine ht 16 (h:=?_)
         refine ht 17 (h:=?_)
         refine ht 18 (h:=?_)
         refine ht 19 (h:=?_)
         refine r1 (i:=20) (by kernel_rfl) rfl fun K hK=>?_
         have z5:=HM.o.x.c 3 _ rfl;have y5:=HM.o.x.fr 3;go_simp;clear z5 y5;replace HM:=qG (HM.o.setF (j:=3) (by simp[seL]) (.slice A6' (s.b.made.length+1) c6'))
         refine hK.out _ _ ?_ (fun aa=>?_)
         ·(try dsimp only);exact⟨HM.o.cell ac.o ao.o,HM.o.cell ac.o af.o⟩
         clear hK K
         try simp only[Act.put]
         refine wpAnyH_done (by kernel_rfl) ?_ _
         refine NoPanic.normal ?_
        iterate 22 (try clear aa)
        all_goals
         go_wp2_with fail
         go_meet
         exact⟨_,HM.o⟩
       case rest=>
        obtain⟨v',hm⟩:=hcut
        obtain⟨A9,c9,e9,-⟩:∃ A c,v'=.slice A (s.b.made.length+1) c/\s.b.made.length+1<=c:=(hm.o.row 2 (by decide)).form
        have HM:=qG hm
        clear hm
        have y3:wc.cell? ⟨f,3,none⟩=some (.slice A9 (s.b.made.length+1) c9):=by rw[<- e9];exact HM.o.x.c 3 _ rfl
        clear e9
        have aW:=qG (show ∀ x∈[Pa.w zgD,Pa.n ((s.b.made.length:Int)+1),Pa.w Vb.off.name,Pa.n (far)],x.ok from by simp only[List.forall_mem_cons];exact⟨by show _<=20;decide,⟨by omega,by have:=HL.o;omega⟩,by show _<=20;decide,⟨aB.o.1,by have:=aB.o.2;omega⟩,fun x hx=>by cases hx⟩)
        go_wp2_with fail
        refine(zbf wc [Pa.w zgD,Pa.n ((s.b.made.length:Int)+1),Pa.w Vb.off.name,Pa.n (far)] (HM.o.env HP.o) (by simp) (by simp) aW.o).mono ?_
        rintro e V9 ⟨rfl,ab⟩
        have bD:=qG ab
        clear ab
        go_wp2_with fail
        go_ret
        refine ?_
        rw[show resV d s .make [a,b2]=.ok (⟨{ s.b with ran:=s.b.ran.map (·+b2),made:=s.b.made++[⟨a,b2⟩] },s.plans,s.planned⟩,rep [Pa.w zgD,Pa.n ((s.b.made.length:Int)+1),Pa.w Vb.off.name,Pa.n (far)]) from by unfold resV;rw[zjv HL.o (by have:=ax.o;omega) ay.o aT.o,if_neg (by have:=bz.o;omega)];rfl]
        refine zbu (HP.o.fl.up1 (s':=⟨{ s.b with ran:=s.b.ran.map (·+b2),made:=s.b.made++[⟨a,b2⟩] },s.plans,s.planned⟩) HM.o.turn HM.o.o ?_ ?_ HP.o.fl.h.ec (fun c hc=>.inl hc) HP.o.fl.h.hp (fun x hx=>.inl hx)) HM.o.turn bD.o rfl
        .exact zcn ((aq.o 0).trans HS.o.e0) (v1:=.slice A1 (s.b.ran.map (·+b2)).length c1) (by rw[List.length_map];exact(aq.o 1).trans HS.o.e1) (v2:=v') rfl ((aq.o 3).trans HS.o.e3) ((aq.o 4).trans HS.o.e4) ((aq.o 5).trans HS.o.e5) ((aq.o 6).trans HS.o.e6) (by rw[List.length_map];exact HM.o.x)
        .have ro:=aF.o
         exact⟨ro.r0,ro.r1,⟨rfl,rfl,by show _=(s.b.made++[_]).length;rw[qD];rfl,by show _=(s.b.made++[_]).flatMap _;rw[List.flatMap_append];rfl⟩,ro.r3,ro.r4,ro.r5,ro.r6⟩
      .refine⟨rfl,?_⟩
       rw[show resV d s .make [a,b2]=.error 11 from by unfold resV;rw[zjv HL.o (by have:=ax.o;omega) ay.o aT.o,if_pos (by omega)]]
       exact au.o.late rfl (by simp[seL]) (Below.refl _ _) rfl
   .rw[show resV d s .make [a,b2]=.error 2 from by unfold resV doV;simp only[List.getD_cons_zero,List.getD_cons_succ];rw[if_neg HL.o,if_neg (by have:=ax.o;omega),if_pos h]]
    exact⟨rfl,zau HP.o.fl (Below.refl _ _) rfl⟩
  .rw[show resV d s .make [a,b2]=.error 2 from by unfold resV doV;simp only[List.getD_cons_zero,List.getD_cons_succ];rw[if_neg HL.o,if_pos (by omega)]]
   exact⟨rfl,zau HP.o.fl (Below.refl _ _) rfl⟩
theorem len1{n:List Int}(h:n.length=1):∃ a,n=[a]:=by
 match n,h with
|[a],_=>exact⟨a,rfl⟩
theorem len2{n:List Int}(h:n.length=2):∃ a b,n=[a,b]:=by
 match n,h with
|[a,b],_=>exact⟨a,b,rfl⟩
theorem len3{n:List Int}(h:n.length=3):∃ a b c,n=[a,b,c]:=by
 match n,h with
|[a,b,c],_=>exact⟨a,b,c,rfl⟩
theorem zbn{v:Vb}{n:List Int}{k:Nat}(h:zbF v n=true)(hv:v≠.cut)(hk:v.many=(k:Int)):n.length=k:=by
 unfold zbF at h
 rw[if_neg hv] at h
 have:=of_decide_eq_true h
 omega
theorem ziU{O:Nat->Prop}{w:World}{f:Nat}{R:Nat->Rw}{cs:List Cu.Cut}{ps:List Pq}{d:Ru.Die}{s:St}{A:Option Addr}{c:Nat}{n:List Int}{v:Vb}(hp:Pre O w f R cs ps d s A c n)(hm:zbF v n=true)(hc:v.clock=false) :
  Calls Tryz.prog (vbF v) #[.pointer (some ⟨f,0,none⟩),.slice A n.length c] w (RetF O w f R d (resV d s v n)):=by
 cases v
 case hour=>cases hc
 case drop=>cases hc
 case cut=>
  unfold zbF at hm
  rw[if_pos rfl] at hm
  simp only[Bool.and_eq_true,qC] at hm
  match n,hm,hp with
 |a :: b2 :: p,hm,hp=>
   have h1:=(hp.nn a (by simp)).1
   have h2:=(hp.nn b2 (by simp)).1
   obtain⟨-,h3,h4,h5⟩:=hm
   simp only[List.getD_cons_zero,List.getD_cons_succ,List.length_cons] at h3 h4 h5
   have h6:=zh9 h1 h2 h3 h4
   exact zqn O w f R cs ps d s A c a b2 p hp (by omega)
 case join=>obtain⟨a,b,e,rfl⟩:=len3 (zbn (k:=3) hm (by decide) rfl);exact zol O w f R cs ps d s A c a b e hp
 case lines=>obtain⟨a,rfl⟩:=len1 (zbn (k:=1) hm (by decide) rfl);exact zmL O w f R cs ps d s A c a hp
 case make=>obtain⟨a,b,rfl⟩:=len2 (zbn (k:=2) hm (by decide) rfl);exact zn5 O w f R cs ps d s A c a b hp
 case bend=>obtain⟨a,rfl⟩:=len1 (zbn (k:=1) hm (by decide) rfl);exact zo0 O w f R cs ps d s A c a hp
 case off=>obtain⟨a,rfl⟩:=len1 (zbn (k:=1) hm (by decide) rfl);exact zfr O w f R cs ps d s A c a hp
 case lend=>obtain⟨a,rfl⟩:=len1 (zbn (k:=1) hm (by decide) rfl);exact zof O w f R cs ps d s A c a hp
 case back=>
  have:=zbn (k:=0) hm (by decide) rfl
  have:n=[]:=List.length_eq_zero_iff.1 this
  subst this
  exact zo1 O w f R cs ps d s A c hp
 case seen=>obtain⟨a,b,rfl⟩:=len2 (zbn (k:=2) hm (by decide) rfl);exact znL O w f R cs ps d s A c a b hp
 case admit=>obtain⟨a,b,rfl⟩:=len2 (zbn (k:=2) hm (by decide) rfl);exact znu O w f R cs ps d s A c a b hp
 case who=>obtain⟨a,rfl⟩:=len1 (zbn (k:=1) hm (by decide) rfl);exact zpw O w f R cs ps d s A c a hp
 case lost=>obtain⟨a,rfl⟩:=len1 (zbn (k:=1) hm (by decide) rfl);exact zn6 O w f R cs ps d s A c a hp
theorem zkK(v:Vb)(x y:Value)(W:World):(callFunc (vbF v) #[x,y]).run Tryz.prog W=.ok (.enter (vbF v) #[x,y]) W:=by
 cases v <;> kernel_rfl
theorem zqi(be bf f:Nat)(e:En)(A:Option Addr)(c:Nat)(w:World)(Q:Ending->World->Prop)(aa:Bx w be [.int .i64 e.n.length,.func (.func (vbF e.v)) #[] #[],.bool e.v.clock,.slice A e.n.length c])(ac:w.cell? ⟨bf,0,none⟩=some (.pointer (some ⟨f,0,none⟩)))(hv:Calls Tryz.prog (vbF e.v) #[.pointer (some ⟨f,0,none⟩),.slice A e.n.length c] w Q)
  (hQ:∀ en w',Q en w'->(∃ t:Tx,en=.returned (tx t))\/∃ ch,en=.panicked ch) :
  Calls Tryz.prog 272 #[.pointer (some ⟨be,0,none⟩),.pointer (some ⟨bf,0,none⟩)] w Q:=by
 have ae:=zkK e.v (.pointer (some ⟨f,0,none⟩)) (.slice A e.n.length c)
 have x1:=aa.c 1 _ rfl
 have x3:=aa.c 3 _ rfl
 have HV:=qG hv
 have HQ:=qG hQ
 clear aa hv hQ
 go_enter Tryz.func272,Tryz.ntmps272
 go_wp2_with fail
 refine HV.o.mono ?_
 intro en w' hq
 rcases HQ.o en w' hq with ⟨t,rfl⟩|⟨ch,rfl⟩
 .have ab:=qG hq
  clear hq
  go_wp2_with fail
  exact ab.o
 .exact⟨rfl,hq⟩
theorem zeR{O:Nat->Prop}{w:World}{f:Nat}{R:Nat->Rw}{d:Ru.Die}{r:Res}(en:Ending)(w':World)(h:RetF O w f R d r en w'):(∃ t:Tx,en=.returned (tx t))\/∃ ch,en=.panicked ch:=by
 cases r with
|ok x=>exact .inl ⟨x.2,h.1⟩
|error c=>exact .inr ⟨_,h.1⟩
theorem zq4(O:Nat->Prop)(w:World)(f:Nat)(R:Nat->Rw)(cs:List Cu.Cut)(ps:List Pq)(d:Ru.Die)(s:St)(e:En)(A:Option Addr)(c:Nat)(hp:Pre O w f R cs ps d s A c e.n)(he:EnOk e) :
  Calls Tryz.prog 238 #[.pointer (some ⟨f,0,none⟩),.agg #[.int .i64 e.n.length,.func (.func (vbF e.v)) #[] #[],.bool e.v.clock,.slice A e.n.length c]] w (RetT O w f R d (resT s (resV d s e.v e.n))):=by
 have HP:=qG hp
 have HE:=qG he
 have n1:=nxA w (.cells #[.pointer (some ⟨f,0,none⟩)] 31)
 have y1:=Bx.new w #[.pointer (some ⟨f,0,none⟩)] 31
 have s1:(w.alloc (.cells #[.pointer (some ⟨f,0,none⟩)] 31)).heap.size=w.heap.size+1:=by simp
 have ah:∀(fn:Fn) (first cap:Array Value) (w:World),(Instr.makeFunc fn first cap).run Tryz.prog w=.ok (.func fn first cap) w:=fun _ _ _ _=>rfl
 clear hp he
 go_enter Tryz.func238,Tryz.ntmps238
 go_upto_region 1 with fail
 generalize w.alloc (.cells #[.pointer (some ⟨f,0,none⟩)] 31)=V1 at *
 have n2:=nxA V1 (.cells #[.int .i64 e.n.length,.func (.func (vbF e.v)) #[] #[],.bool e.v.clock,.slice A e.n.length c] 143)
 have y2:=Bx.new V1 #[.int .i64 e.n.length,.func (.func (vbF e.v)) #[] #[],.bool e.v.clock,.slice A e.n.length c] 143
 generalize V1.alloc (.cells #[.int .i64 e.n.length,.func (.func (vbF e.v)) #[] #[],.bool e.v.clock,.slice A e.n.length c] 143)=V2 at *
 rw[s1] at y2
 have x1:=y1.next n2
 have HB:=qG (n1.trans (n2.mono n1.size))
 obtain⟨b2,aa⟩:∃ b2,b2=w.heap.size:=⟨_,rfl⟩
 obtain⟨b3,ab⟩:∃ b3,b3=w.heap.size+1:=⟨_,rfl⟩
 rw[<- aa] at x1
 rw[<- ab] at y2
 rw[<- ab,<- aa]
 have X1:=qG x1
 have X2:=qG y2
 have f2:=x1.c 0 _ rfl
 clear n1 n2 y1 y2 s1 aa ab x1
 have HT:=qG (zkL O V2 f R cs ps d s (HP.o.fl.below HB.o) HP.o.ok 272 #[.pointer (some ⟨b3,0,none⟩),.pointer (some ⟨b2,0,none⟩)] (resV d s e.v e.n) (fun W=>by kernel_rfl) (fun O' w1 af hO hb=>by
  have ag:AtO O' w1 1 zad A e.n:=(HP.o.na.keep (O':=O) (P:=fun _=>False) (.of_below HB.o) (fun _ _ q=>q.elim) (fun _ _ q=>q)).keep (P:=fun _=>False) (.of_below hb) (fun _ _ q=>q.elim) (fun b hl ho=>(hO b ho).elim (fun x=>x) (fun x=>absurd hl (by omega)))
  have ac:=(HP.o.env.next HB.o).next hb
  have ae:Pre O' w1 f R cs ps d s A c e.n:=⟨ac,fun b ho=>(hO b ho).elim (fun x=>HP.o.o6 b x) (fun x=>by have:=(HP.o.env.next HB.o).sz;omega),af,HP.o.ok,ag,HP.o.nc,HP.o.nn⟩
  exact zqi b3 b2 f e A c w1 _ (X2.o.next hb) ((hb.cell (p:=⟨b2,0,none⟩) X1.o.lt).trans (X1.o.c 0 _ rfl)) (ziU ae HE.o.mn HE.o.cl) zeR))
 go_wp2_with fail
 refine HT.o.mono ?_
 rintro en w' ⟨rfl,R',cs',ps',h1,h2⟩
 have H1:=qG h1
 have H2:=qG h2
 clear h1 h2 f2
 go_wp2_with fail
 go_ret2
 exact⟨rfl,R',cs',ps',H1.o,(Turn.of_below HB.o).trans H2.o⟩
abbrev ltP:Pq->Pq->Bool:=ltQ Pq.p
theorem zl0(x y:Pq)(w:World):Calls Tryz.prog 334 #[.agg #[.int .i64 x.p.hour,.int .i64 x.p.num,.int .i64 x.p.e.n.length,.func (.func (vbF x.p.e.v)) #[] #[],.bool x.p.e.v.clock,.slice x.A x.p.e.n.length x.c],.agg #[.int .i64 y.p.hour,.int .i64 y.p.num,.int .i64 y.p.e.n.length,.func (.func (vbF y.p.e.v)) #[] #[],.bool y.p.e.v.clock,.slice y.A y.p.e.n.length y.c]] w (Ret (.bool (ltP x y)) w):=by
 obtain⟨r,hr⟩:∃ r,r=ltP x y:=⟨_,rfl⟩
 have HR:=qG hr
 clear hr
 rw[<- HR.o]
 have aa:=qG (nxA w (.cells #[.int .i64 x.p.hour,.int .i64 x.p.num,.int .i64 x.p.e.n.length,.func (.func (vbF x.p.e.v)) #[] #[],.bool x.p.e.v.clock,.slice x.A x.p.e.n.length x.c] 251))
 have af:=qG (Bx.new w #[.int .i64 x.p.hour,.int .i64 x.p.num,.int .i64 x.p.e.n.length,.func (.func (vbF x.p.e.v)) #[] #[],.bool x.p.e.v.clock,.slice x.A x.p.e.n.length x.c] 251)
 have s1:(w.alloc (.cells #[.int .i64 x.p.hour,.int .i64 x.p.num,.int .i64 x.p.e.n.length,.func (.func (vbF x.p.e.v)) #[] #[],.bool x.p.e.v.clock,.slice x.A x.p.e.n.length x.c] 251)).heap.size=w.heap.size+1:=by simp
 go_enter Tryz.func334,Tryz.ntmps334
 go_upto_region 1 with fail
 generalize(w.alloc (.cells #[.int .i64 x.p.hour,.int .i64 x.p.num,.int .i64 x.p.e.n.length,.func (.func (vbF x.p.e.v)) #[] #[],.bool x.p.e.v.clock,.slice x.A x.p.e.n.length x.c] 251))=V1 at *
 have ab:=qG (nxA V1 (.cells #[.int .i64 y.p.hour,.int .i64 y.p.num,.int .i64 y.p.e.n.length,.func (.func (vbF y.p.e.v)) #[] #[],.bool y.p.e.v.clock,.slice y.A y.p.e.n.length y.c] 251))
 have ac:=qG (s1▸Bx.new V1 #[.int .i64 y.p.hour,.int .i64 y.p.num,.int .i64 y.p.e.n.length,.func (.func (vbF y.p.e.v)) #[] #[],.bool y.p.e.v.clock,.slice y.A y.p.e.n.length y.c] 251)
 clear s1
 have ae:=qG (af.o.next ab.o)
 generalize(V1.alloc (.cells #[.int .i64 y.p.hour,.int .i64 y.p.num,.int .i64 y.p.e.n.length,.func (.func (vbF y.p.e.v)) #[] #[],.bool y.p.e.v.clock,.slice y.A y.p.e.n.length y.c] 251))=V2 at *
 have HB:=qG (aa.o.trans (ab.o.mono aa.o.size))
 have a0:=ae.o.c 0 _ rfl
 have a1:=ae.o.c 1 _ rfl
 have b0:=ac.o.c 0 _ rfl
 have b1:=ac.o.c 1 _ rfl
 by_cases h:x.p.hour=y.p.hour
 .have h1:(x.p.hour !=y.p.hour)=false:=by simp[h]
  have HE:=qG (show ltP x y=decide (x.p.num<y.p.num) from by unfold ltP ltQ Pn.lt;rw[if_neg (fun k=>k h)])
  clear h
  go_wp2_with fail
  go_ret
  exact⟨congrArg (fun b=>Ending.returned (.bool b)) (HE.o.symm.trans HR.o.symm),HB.o⟩
 .have h1:(x.p.hour !=y.p.hour)=true:=by simp[h]
  have HE:=qG (show ltP x y=decide (x.p.hour<y.p.hour) from by unfold ltP ltQ Pn.lt;rw[if_pos h])
  clear h
  go_wp2_with fail
  go_ret
  exact⟨congrArg (fun b=>Ending.returned (.bool b)) (HE.o.symm.trans HR.o.symm),HB.o⟩
def PqAt(W:World)(g i:Nat)(x:Pq):Prop:=W.cell? ⟨g,i*6,none⟩=some (.int .i64 x.p.hour)/\W.cell? ⟨g,i*6+1,none⟩=some (.int .i64 x.p.num)/\W.cell? ⟨g,i*6+2,none⟩=some (.int .i64 x.p.e.n.length)/\W.cell? ⟨g,i*6+3,none⟩=some (.func (.func (vbF x.p.e.v)) #[] #[])/\W.cell? ⟨g,i*6+4,none⟩=some (.bool x.p.e.v.clock)/\W.cell? ⟨g,i*6+5,none⟩=some (.slice x.A x.p.e.n.length x.c)
theorem PqAt.below{W W':World}{g i:Nat}{x:Pq}(h:PqAt W g i x)(b:Below W.heap.size W W'):PqAt W' g i x:=by
 obtain⟨h0,h1,h2,h3,h4,h5⟩:=h
 have k:∀ o v,W.cell? ⟨g,o,none⟩=some v->W'.cell? ⟨g,o,none⟩=some v:=fun o v e=>(b.cell (p:=⟨g,o,none⟩) (zaa e)).trans e
 exact⟨k _ _ h0,k _ _ h1,k _ _ h2,k _ _ h3,k _ _ h4,k _ _ h5⟩
structure Pile(w V:World)(f:Nat)(R Rb R':Nat->Rw)(Lb:List Value)(ps:List Pq):Prop where
 m:Mid w V f R R' (Lb.set 11 (R' 6).v)
 ll:11<Lb.length
 r:(R' 6).e=251/\(R' 6).size=6/\(R' 6).n=ps.length/\(R' 6).xs=ps.flatMap Pq.cells
 e:∀ j,j≠6->R' j=Rb j
 n8:ps.length<=100
def Pil(w V:World)(f:Nat)(R Rb:Nat->Rw)(Lb:List Value)(ps:List Pq):Prop:=∃ R',Pile w V f R Rb R' Lb ps
section
variable {w V V':World} {f:Nat} {R Rb R':Nat->Rw} {Lb:List Value} {ps:List Pq}
theorem Pile.below(h:Pile w V f R Rb R' Lb ps)(b:Below V.heap.size V V'):Pile w V' f R Rb R' Lb ps:=⟨h.m.below b,h.ll,h.r,h.e,h.n8⟩
theorem Pile.c11(h:Pile w V f R Rb R' Lb ps):V.cell? ⟨f,11,none⟩=some (R' 6).v:=h.m.x.c 11 _ (by rw[List.getElem?_set_self h.ll])
theorem Pile.form(h:Pile w V f R Rb R' Lb ps):∃ A c,(R' 6).v=.slice A ps.length c/\ps.length<=c:=by
 obtain⟨A,c,e,hc⟩:=(h.m.o.row 6 (by decide)).form
 rw[h.r.2.2.1] at e hc
 exact⟨A,c,e,hc⟩
theorem Pile.at_(h:Pile w V f R Rb R' Lb ps){k:Nat}{x:Pq}(hk:ps[k]?=some x):∃ g c,(R' 6).v=.slice (some ⟨g,0,none⟩) ps.length (c+1)/\blk (R' 6).v=some g/\PqAt V g k x/\(∀ o,V.frozen? ⟨g,o,none⟩=false):=by
 have hx:∀ j u,(Pq.cells x)[j]?=some u->(R' 6).xs[k*6+j]?=some u:=fun j u hu=>by
  rw[h.r.2.2.2];exact zaO zcd ps k x j u hk hu
 have hr:=h.m.o.row 6 (by decide)
 obtain⟨g,eg,⟨c,ev⟩,-,-⟩:=Rw.ok.cell hr (hx 0 _ rfl)
 have hc:∀ j u,(Pq.cells x)[j]?=some u->V.cell? ⟨g,k*6+j,none⟩=some u:=fun j u hu=>by
  obtain⟨g',e',-,h1,-⟩:=Rw.ok.cell hr (hx j u hu)
  have:g'=g:=Option.some.inj (e'.symm.trans eg)
  subst this
  exact h1
 refine⟨g,c,by rw[ev,h.r.2.2.1],eg,⟨hc 0 _ rfl,hc 1 _ rfl,hc 2 _ rfl,hc 3 _ rfl,hc 4 _ rfl,hc 5 _ rfl⟩,fun o=>?_⟩
 rcases hr.2 with ⟨A,e1,-⟩|⟨g',cap,cur,e1,hh,-⟩
 .rw[e1] at eg;cases A <;> cases eg
 .have:g'=g:=by rw[e1] at eg;injection eg
  subst this
  simp[World.frozen?,hh]
theorem Pile.swap(h:Pile w V f R Rb R' Lb ps){g i k:Nat}{x y:Pq}(hg:blk (R' 6).v=some g)(hx:ps[i]?=some x)(hy:ps[k]?=some y) :
  ∃ R'',Pile w (setCells (setCells V g (i*6) (Pq.cells y)) g (k*6) (Pq.cells x)) f R Rb R'' Lb (Hp.swapL ps i k)/\(R'' 6).v=(R' 6).v/\V.there g (i*6) 6/\(setCells V g (i*6) (Pq.cells y)).there g (k*6) 6:=by
 have hi:=(qO.1 hx).1
 have hk:=(qO.1 hy).1
 have ae:(R' 6).xs.length=ps.length*6:=by rw[h.r.2.2.2,zbr zcd]
 have af:i*6+6<=(R' 6).xs.length:=by rw[ae];omega
 have aj:k*6+6<=(R' 6).xs.length:=by rw[ae];omega
 obtain⟨R1,aa⟩:∃ R1,R1=upR R' 6 { R' 6 with xs:=putL (R' 6).xs (i*6) (Pq.cells y) }:=⟨_,rfl⟩
 have e1:R1 6={ R' 6 with xs:=putL (R' 6).xs (i*6) (Pq.cells y) }:=by rw[aa,zaU]
 have ab:=h.m.setRs (k:=6) (by decide) hg (Pq.cells y) (j:=i*6) af
 rw[<- aa] at ab
 have ag:blk (R1 6).v=some g:=by rw[e1];exact hg
 have ah:k*6+6<=(R1 6).xs.length:=by rw[e1];show _<=(putL _ _ _).length;rw[zjf];exact aj
 obtain⟨R2,ac⟩:∃ R2,R2=upR R1 6 { R1 6 with xs:=putL (R1 6).xs (k*6) (Pq.cells x) }:=⟨_,rfl⟩
 have e2:R2 6={ R1 6 with xs:=putL (R1 6).xs (k*6) (Pq.cells x) }:=by rw[ac,zaU]
 have ai:=ab.setRs (k:=6) (by decide) ag (Pq.cells x) (j:=k*6) ah
 rw[<- ac] at ai
 have ev:(R2 6).v=(R' 6).v:=by rw[e2,e1]
 refine⟨R2,⟨by rw[ev];exact ai,h.ll,?_,fun j hj=>?_,?_⟩,ev,(h.m.o.row 6 (by decide)).there hg af,(ab.o.row 6 (by decide)).there ag ah⟩
 .rw[e2,e1]
  refine⟨h.r.1,h.r.2.1,by rw[Hp.swapL_len];exact h.r.2.2.1,?_⟩
  show putL (putL (R' 6).xs (i*6) (Pq.cells y)) (k*6) (Pq.cells x)=_
  rw[h.r.2.2.2,zeu zcd (by decide) ps hi y,zeu zcd (by decide) _ (by rw[List.length_set];exact hk) x]
  unfold Hp.swapL
  rw[dif_pos ⟨hi,hk⟩]
  have e3:ps[i]=x:=by rw[qN hi] at hx;exact Option.some.inj hx
  have e4:ps[k]=y:=by rw[qN hk] at hy;exact Option.some.inj hy
  rw[e3,e4]
 .rw[ac,zaY _ _ hj,aa,zaY _ _ hj]
  exact h.e j hj
 .rw[Hp.swapL_len];exact h.n8
end
theorem zjF(g c n i k:Nat)(x y:Pq)(w:World)(hi:i<n)(hk:k<n)(hx:PqAt w g i x)(hy:PqAt w g k y) :
  Calls Tryz.prog 325 #[.slice (some ⟨g,0,none⟩) n (c+1),.int .i64 i,.int .i64 k] w (Ret (.bool (ltP x y)) w):=by
 have HX:=qG hx
 have HY:=qG hy
 have HK:=qG (show ∀ V:World,Below w.heap.size w V->PqAt V g i x/\PqAt V g k y from fun V hb=>⟨hx.below hb,hy.below hb⟩)
 have ab:(i:Int)<(n:Int):=by omega
 have ac:(k:Int)<(n:Int):=by omega
 clear hx hy
 go_enter Tryz.func325,Tryz.ntmps325
 go_upto_region 1 with fail
 refine wp_region_noPanic ?_
 refine wp_region_held_drew (S:=(fun W=>(W.cell? ⟨g,i*6,none⟩=some (.int .i64 x.p.hour)/\W.cell? ⟨g,i*6+1,none⟩=some (.int .i64 x.p.num)/\W.cell? ⟨g,i*6+2,none⟩=some (.int .i64 x.p.e.n.length)/\W.cell? ⟨g,i*6+3,none⟩=some (.func (.func (vbF x.p.e.v)) #[] #[])/\W.cell? ⟨g,i*6+4,none⟩=some (.bool x.p.e.v.clock)/\W.cell? ⟨g,i*6+5,none⟩=some (.slice x.A x.p.e.n.length x.c))/\(W.cell? ⟨g,k*6,none⟩=some (.int .i64 y.p.hour)/\W.cell? ⟨g,k*6+1,none⟩=some (.int .i64 y.p.num)/\W.cell? ⟨g,k*6+2,none⟩=some (.int .i64 y.p.e.n.length)/\W.cell? ⟨g,k*6+3,none⟩=some (.func (.func (vbF y.p.e.v)) #[] #[])/\W.cell? ⟨g,k*6+4,none⟩=some (.bool y.p.e.v.clock)/\W.cell? ⟨g,k*6+5,none⟩=some (.slice y.A y.p.e.n.length y.c)))) (by kernel_rfl) ?_ (fun aa=>?_)
 ·(try dsimp only);exact⟨HX.o,HY.o⟩
 refine ht 0 (h:=?_)
 refine ht 1 (h:=?_)
 refine ht 2 (h:=?_)
 refine ht 3 (h:=?_)
 refine ht 4 (h:=?_)
 refine ht 5 (h:=?_)
 refine ht 6 (h:=?_)
 refine ht 7 (h:=?_)
 refine ht 8 (h:=?_)
 refine r1 (i:=9) (by kernel_rfl) rfl fun K hK=>?_
 go_simp
 go_invoke;refine(zl0 x y _).mono ?_;rintro e V ⟨rfl,hb⟩;have HB:=qG (show Below w.heap.size w V from(Below.refl _ w).drew.trans hb);clear hb
 refine hK.out _ _ ?_ (fun aa=>?_)
 ·(try dsimp only);exact HK.o V HB.o
 clear hK K
 try simp only[qW]
 refine ht 10 (h:=?_)
 refine wpAnyH_done (by kernel_rfl) ?_ _
 refine NoPanic.normal ?_
 iterate 12 (try clear aa)
 go_wp2_with fail
 go_ret
 exact⟨rfl,HB.o⟩
theorem ziV(w V:World)(f:Nat)(R Rb R':Nat->Rw)(Lb:List Value)(ps:List Pq)(h:Pile w V f R Rb R' Lb ps)(g c i k:Nat)(hv:(R' 6).v=.slice (some ⟨g,0,none⟩) ps.length (c+1))(hi:i<ps.length)(hk:k<ps.length) :
  Calls Tryz.prog 326 #[.slice (some ⟨g,0,none⟩) ps.length (c+1),.int .i64 i,.int .i64 k] V (fun e V'=>e=.returned (.tuple #[])/\∃ R'',Pile w V' f R Rb R'' Lb (Hp.swapL ps i k)/\(R'' 6).v=(R' 6).v):=by
 obtain⟨x,hx⟩:=Hp.get_of hi
 obtain⟨y,hy⟩:=Hp.get_of hk
 have hc:ps.length<=c+1:=by
  obtain⟨A,c',e,hc⟩:=h.form
  rw[hv] at e
  injection e with _ _ e
  omega
 obtain⟨g1,c1,e1,eb,pi,aa⟩:=h.at_ hx
 obtain⟨g2,c2,e2,-,pk,-⟩:=h.at_ hy
 have h1:g1=g:=by rw[hv] at e1;injection e1 with e1 _ _;injection e1 with e1;injection e1 with e1;exact e1.symm
 have h2:g2=g:=by rw[hv] at e2;injection e2 with e2 _ _;injection e2 with e2;injection e2 with e2;exact e2.symm
 subst h1
 subst h2
 clear e1 e2
 have HH:=qG h
 have ah:=qG pi
 have ai:=qG pk
 have ae:=qG eb
 have HV:=qG hv
 have HX:=qG hx
 have HY:=qG hy
 obtain⟨x0,x1,x2,x3,x4,x5⟩:=pi
 obtain⟨y0,y1,y2,y3,y4,y5⟩:=pk
 have f00:=aa (i*6)
 have f01:=aa (i*6+1)
 have f02:=aa (i*6+2)
 have f03:=aa (i*6+3)
 have f04:=aa (i*6+4)
 have f05:=aa (i*6+5)
 have f10:=aa (k*6)
 have f11:=aa (k*6+1)
 have f12:=aa (k*6+2)
 have f13:=aa (k*6+3)
 have f14:=aa (k*6+4)
 have f15:=aa (k*6+5)
 have aj:(i:Int)<(ps.length:Int):=by omega
 have ak:(k:Int)<(ps.length:Int):=by omega
 clear h eb hv aa hx hy
 go_enter Tryz.func326,Tryz.ntmps326
 obtain⟨R'',h3,h4,h5,h6⟩:=(HH.o.below ((Below.refl _ V).drew)).swap ae.o HX.o HY.o
 have af:=qG h5
 rw[<- zbk] at h6 h3
 have ag:=qG h6
 rw[<- zbk] at h3
 have ac:=qG (And.intro h3 h4)
 clear h3 h4 h5 h6
 refine wp_region_noPanic ?_
 refine wp_region_held_drew (S:=(fun _=>True)) (by kernel_rfl) ?_ (fun ab=>?_)
 ·(try dsimp only);first|done|trivial
 refine ht 0 (h:=?_)
 refine ht 1 (h:=?_)
 refine ht 2 (h:=?_)
 refine ht 3 (h:=?_)
 refine ht 4 (h:=?_)
 refine ht 5 (h:=?_)
 refine ht 6 (h:=?_)
 refine ht 8 (h:=?_)
 refine ht 9 (h:=?_)
 refine ht 10 (h:=?_)
 refine wpAnyH_ready (rs:=[7,11]) (by kernel_rfl) (by simp) ?_
 refine zab rfl (fun K hK=>?_) (zab rfl (fun K hK=>?_) (AllReadyH.nil))
 go_simp
 refine hK.out _ _ ?_ (fun ab=>?_)
 ·(try dsimp only);first|done|trivial
 clear hK K
 try simp only[qW]
 refine r1 (i:=11) (by kernel_rfl) rfl fun K hK=>?_
 go_simp
 refine hK.out _ _ ?_ (fun ab=>?_)
 ·(try dsimp only);first|done|trivial
 clear hK K
 try simp only[qW]
 refine ht 12 (h:=?_)
 rotate_left
 go_simp
 refine hK.out _ _ ?_ (fun ab=>?_)
 ·(try dsimp only);first|done|trivial
 clear hK K
 try simp only[qW]
 refine r1 (i:=7) (by kernel_rfl) rfl fun K hK=>?_
 go_simp
 refine hK.out _ _ ?_ (fun ab=>?_)
 ·(try dsimp only);first|done|trivial
 clear hK K
 try simp only[qW]
 refine ht 12 (h:=?_)
 all_goals
  refine r1 (i:=13) (by kernel_rfl) rfl fun K hK=>?_
  refine zcj rfl 251 (.tmp 18) (.tmp 13) rfl g2 (i*6) (Pq.cells y).toArray rfl rfl af.o (by kernel_rfl) (by kernel_rfl) ?_
  refine hK.out _ _ ?_ (fun ab=>?_)
  ·(try dsimp only);first|done|trivial
  clear hK K
  try simp only[Act.put]
  refine ht 14 (h:=?_)
  refine r1 (i:=15) (by kernel_rfl) rfl fun K hK=>?_
  generalize V.drew.setCells g2 (i*6) (Pq.cells y)=V9 at *;refine zcj rfl 251 (.tmp 19) (.tmp 17) rfl g2 (k*6) (Pq.cells x).toArray rfl rfl ag.o (by kernel_rfl) (by kernel_rfl) ?_
  refine hK.out _ _ ?_ (fun ab=>?_)
  ·(try dsimp only);first|done|trivial
  clear hK K
  try simp only[Act.put]
  refine wpAnyH_done (by kernel_rfl) ?_ _
  refine NoPanic.normal ?_
 iterate 17 (try clear ab)
 all_goals
  go_wp2_with fail
  go_end0
  exact⟨rfl,_,ac.o.1,ac.o.2⟩
theorem zd4(A:Option Addr)(n c:Nat)(w:World):Calls Tryz.prog 324 #[.slice A n c] w (RetQ (.int .i64 n) w):=by
 go_enter Tryz.func324,Tryz.ntmps324
 go_wp2
 go_ret
 exact⟨rfl,rfl⟩
theorem zjg(x:Pq):∀ u∈Pq.cells x,u.oneCell'=true:=fun u hu=>by
 simp only[Pq.cells,enL,List.mem_cons,List.not_mem_nil,or_false] at hu
 rcases hu with rfl|rfl|rfl|rfl|rfl|rfl <;> rfl
theorem Pil.of{w V:World}{f:Nat}{R Rb R1:Nat->Rw}{Lb:List Value}{qs:List Pq}{v':Value}{n:Nat}{xs:List Value}(hm:Mid w V f R (upR R1 6 ⟨251,6,v',n,xs⟩) (Lb.set 11 v'))(hn:n=qs.length)(hx:xs=qs.flatMap Pq.cells)(ll:11<Lb.length)(e:∀ j,j≠6->R1 j=Rb j)(n8:qs.length<=100):Pil w V f R Rb Lb qs:=by
 subst hn hx
 refine⟨upR R1 6 ⟨251,6,v',qs.length,qs.flatMap Pq.cells⟩,⟨?_,ll,?_,fun j hj=>?_,n8⟩⟩
 .rw[zaU];exact hm
 .rw[zaU];exact⟨rfl,rfl,rfl,rfl⟩
 .rw[zaY _ _ hj];exact e j hj
theorem znS(w V:World)(f:Nat)(R Rb R':Nat->Rw)(Lb:List Value)(ps:List Pq)(h:Pile w V f R Rb R' Lb ps)(x:Pq)(hn:ps.length<100) :
  Calls Tryz.prog 333 #[.pointer (some ⟨f,11,none⟩),.iface 251 (.agg #[.int .i64 x.p.hour,.int .i64 x.p.num,.int .i64 x.p.e.n.length,.func (.func (vbF x.p.e.v)) #[] #[],.bool x.p.e.v.clock,.slice x.A x.p.e.n.length x.c])] V (fun e V'=>e=.returned (.tuple #[])/\Pil w V' f R Rb Lb (ps++[x])):=by
 obtain⟨A,c,ev,hc⟩:=h.form
 have HH:=qG h
 have HM:=qG h.m
 have ao:=qG ev
 have HN:=qG hn
 have ai:=qG (show ∀(V':World) (v':Value),Mid w V' f R (upR R' 6 ⟨251,6,v',ps.length+1,ps.flatMap Pq.cells++Pq.cells x⟩) ((Lb.set 11 (R' 6).v).set 11 v')->Pil w V' f R Rb Lb (ps++[x]) from fun V' v' hm=>by
  rw[List.set_set] at hm
  exact Pil.of hm (by rw[qD];rfl) (by rw[List.flatMap_append];show _=_++(Pq.cells x++[]);rw[List.append_nil]) h.ll h.e (by rw[qD,List.length_singleton];omega))
 have af:=qG (show R' 6=⟨251,6,.slice A ps.length c,ps.length,ps.flatMap Pq.cells⟩ from zgH h.r ev)
 have ab:=qG (show(Lb.set 11 (R' 6).v)[11]?=some (.slice A ps.length c) from by rw[List.getElem?_set_self h.ll,ev])
 have aj:=qG (show 11<(Lb.set 11 (R' 6).v).length from by rw[List.length_set];exact h.ll)
 obtain⟨i0,hi,ak,am,an⟩:=zbd zjj
 clear h ev hn hc
 generalize Lb.set 11 (R' 6).v=L at *
 go_enter Tryz.func333,Tryz.ntmps333
 refine wp_region_noPanic ?_
 refine wp_region_held_drew (S:=(fun _=>True)) (by kernel_rfl) ?_ (fun aa=>?_)
 ·(try dsimp only);first|done|trivial
 refine ht 0 (h:=?_)
 refine ht 1 (h:=?_)
 refine ht 2 (h:=?_)
 refine ht 4 (h:=?_)
 refine wpAnyH_ready (rs:=[3,5]) (by kernel_rfl) (by simp) ?_
 refine zab rfl (fun K hK=>?_) (zab rfl (fun K hK=>?_) (AllReadyH.nil))
 have z5:=HM.o.x.c 11 _ ab.o;go_simp;clear z5
 refine hK.out _ _ ?_ (fun aa=>?_)
 ·(try dsimp only);first|done|trivial
 clear hK K
 try simp only[qW]
 refine r1 (i:=5) (by kernel_rfl) rfl fun K hK=>?_
 go_simp
 refine hK.out _ _ ?_ (fun aa=>?_)
 ·(try dsimp only);first|done|trivial
 clear hK K
 try simp only[qW]
 refine r1 (i:=6) (by kernel_rfl) rfl fun K hK=>?_
 go_simp
 (first|refine hold_alloc (fun Wa q1 q2 q3=>?_)|refine zaJ (fun Wa q1 q2 q3=>?_));have ac:=qG (show Bx _ _ (Pq.cells x) from q2);replace HM:=qG (HM.o.below q1);clear q1 q2 q3
 refine hK.out _ _ ?_ (fun aa=>?_)
 ·(try dsimp only);first|done|trivial
 clear hK K
 try simp only[qW]
 rotate_left
 go_simp
 refine hK.out _ _ ?_ (fun aa=>?_)
 ·(try dsimp only);first|done|trivial
 clear hK K
 try simp only[qW]
 refine wpAnyH_ready (rs:=[3,6]) (by kernel_rfl) (by simp) ?_
 refine zab rfl (fun K hK=>?_) (zab rfl (fun K hK=>?_) (AllReadyH.nil))
 have z5:=HM.o.x.c 11 _ ab.o;go_simp;clear z5
 refine hK.out _ _ ?_ (fun aa=>?_)
 ·(try dsimp only);first|done|trivial
 clear hK K
 try simp only[qW]
 refine r1 (i:=6) (by kernel_rfl) rfl fun K hK=>?_
 go_simp
 (first|refine hold_alloc (fun Wa q1 q2 q3=>?_)|refine zaJ (fun Wa q1 q2 q3=>?_));have ac:=qG (show Bx _ _ (Pq.cells x) from q2);replace HM:=qG (HM.o.below q1);clear q1 q2 q3
 refine hK.out _ _ ?_ (fun aa=>?_)
 ·(try dsimp only);first|done|trivial
 clear hK K
 try simp only[qW]
 rotate_left
 go_simp
 (first|refine hold_alloc (fun Wa q1 q2 q3=>?_)|refine zaJ (fun Wa q1 q2 q3=>?_));have ac:=qG (show Bx _ _ (Pq.cells x) from q2);replace HM:=qG (HM.o.below q1);clear q1 q2 q3
 refine hK.out _ _ ?_ (fun aa=>?_)
 ·(try dsimp only);first|done|trivial
 clear hK K
 try simp only[qW]
 refine r1 (i:=3) (by kernel_rfl) rfl fun K hK=>?_
 have z5:=HM.o.x.c 11 _ ab.o;go_simp;clear z5
 refine hK.out _ _ ?_ (fun aa=>?_)
 ·(try dsimp only);first|done|trivial
 clear hK K
 try simp only[qW]
 all_goals
  refine r1 (i:=7) (by kernel_rfl) rfl fun K hK=>?_
  refine zaI (r:=⟨251,6,.slice A ps.length c,ps.length,ps.flatMap Pq.cells⟩) rfl (.tmp 7) (.tmp 10) 80 rfl (af.o▸HM.o.o.row 6 (by decide)) i0 _ 64 Tryz.underlying80 hi ak am an rfl (show 0<6 by decide) rfl ⟨_,0,none⟩ 1 1 (Pq.cells x) rfl (by decide) rfl ac.o.news (zjg x) (show ps.length+1<=maxLen by have:=HN.o;unfold maxLen;omega) (show(ps.length+1)*64<=_ by have:=HN.o;omega) ?_;intro v' w' ag ae ah;replace HM:=qG (HM.o.app (k:=6) (r:=⟨251,6,v',ps.length+1,ps.flatMap Pq.cells++Pq.cells x⟩) (by decide) (by rw[af.o];exact ae) ag (by rw[af.o];exact ah));obtain⟨A6',c6',e6,-⟩:∃ A c,v'=.slice A (ps.length+1) c/\ps.length+1<=c:=ag.form;subst e6;clear ag ae ah ac
  refine hK.out _ _ ?_ (fun aa=>?_)
  ·(try dsimp only);first|done|trivial
  clear hK K
  try simp only[qW]
  refine ht 8 (h:=?_)
  refine r1 (i:=9) (by kernel_rfl) rfl fun K hK=>?_
  have z5:=HM.o.x.c 11 _ ab.o;have y5:=HM.o.x.fr 11;go_simp;clear z5 y5;replace HM:=qG (HM.o.setF (j:=11) aj.o (.slice A6' (ps.length+1) c6'))
  refine hK.out _ _ ?_ (fun aa=>?_)
  ·(try dsimp only);first|done|trivial
  clear hK K
  try simp only[Act.put]
  refine wpAnyH_done (by kernel_rfl) ?_ _
  refine NoPanic.normal ?_
 iterate 11 (try clear aa)
 all_goals
  go_wp2_with fail
  go_end0
  exact⟨rfl,ai.o _ _ HM.o⟩
theorem Rw.ok.take{r:Rw}{w:World}(h:r.ok w){g c m:Nat}(ev:r.v=.slice (some ⟨g,0,none⟩) r.n (c+1))(hm:m<=r.n):Rw.ok ⟨r.e,r.size,.slice (some ⟨g,0,none⟩) m (c+1),m,r.xs.take (m*r.size)⟩ w:=by
 obtain⟨hl,h2⟩:=h
 have hle:m*r.size<=r.n*r.size:=Nat.mul_le_mul_right _ hm
 refine⟨by show(r.xs.take (m*r.size)).length=m*r.size;rw[List.length_take];omega,.inr ?_⟩
 rcases h2 with ⟨B,e1,-⟩|⟨g',cap,cur,e1,hg,hn,hc,hs,ht⟩
 .rw[e1] at ev;injection ev with _ _ ev;cases ev
 .rw[e1] at ev
  injection ev with q1 _ q2
  injection q1 with q1
  injection q1 with q1 _ _
  subst q1
  have q3:cap=c:=by omega
  subst q3
  exact⟨g',cap,cur,rfl,hg,Nat.le_trans hm hn,hc,hs,by show cur.toList.take (m*r.size)=r.xs.take (m*r.size);rw[<- ht,List.take_take,Nat.min_eq_left hle]⟩
theorem zie{α:Type}{cells:α->List Value}{size:Nat}(hs:∀ x,(cells x).length=size):∀(l:List α) (m:Nat),(l.flatMap cells).take (m*size)=(l.take m).flatMap cells
|[],m=>by simp
|x :: l,0=>by simp
|x :: l,m+1=>by
  rw[List.flatMap_cons,List.take_succ_cons,List.flatMap_cons,<- zie hs l m,Nat.add_mul,Nat.one_mul,Nat.add_comm,List.take_append,hs]
  rw[List.take_of_length_le (by rw[hs];omega),Nat.add_sub_cancel_left]
theorem zej(w V:World)(f:Nat)(R Rb R':Nat->Rw)(Lb:List Value)(ps:List Pq)(h:Pile w V f R Rb R' Lb ps)(m:Nat)(x:Pq)(hm:ps.length=m+1)(hx:ps[m]?=some x) :
  Calls Tryz.prog 332 #[.pointer (some ⟨f,11,none⟩)] V (fun e V'=>e=.returned (.iface 251 (.agg #[.int .i64 x.p.hour,.int .i64 x.p.num,.int .i64 x.p.e.n.length,.func (.func (vbF x.p.e.v)) #[] #[],.bool x.p.e.v.clock,.slice x.A x.p.e.n.length x.c]))/\Pil w V' f R Rb Lb (ps.take m)):=by
 obtain⟨g,c,ev,eb,ae,-⟩:=h.at_ hx
 have HH:=qG h
 have ac:=qG (show(Lb.set 11 (R' 6).v)[11]?=some (.slice (some ⟨g,0,none⟩) (m+1) (c+1)) from by rw[List.getElem?_set_self h.ll,ev,hm])
 have ai:=qG (show 11<(Lb.set 11 (R' 6).v).length from by rw[List.length_set];exact h.ll)
 have af:=qG (show ∀ V',Mid w V' f R R' (Lb.set 11 (R' 6).v)->Pil w (V'.setCell ⟨f,11,none⟩ (.slice (some ⟨g,0,none⟩) m (c+1))) f R Rb Lb (ps.take m) from fun V' hv=>by
  have hr:=hv.o.row 6 (by decide)
  have h1:Rw.ok ⟨251,6,.slice (some ⟨g,0,none⟩) m (c+1),m,(ps.take m).flatMap Pq.cells⟩ V':=by
   have:=hr.take (m:=m) (by rw[ev,h.r.2.2.1]) (by rw[h.r.2.2.1,hm];omega)
   rw[h.r.1,h.r.2.1,h.r.2.2.2,zie zcd] at this
   exact this
  have h2:=(hv.app (k:=6) (V':=V') (by decide) ⟨rfl,rfl,rfl,qQ _,fun _ _ _=>rfl⟩ h1 (.inl (by rw[eb];rfl))).setF (j:=11) (by rw[List.length_set];exact h.ll) (.slice (some ⟨g,0,none⟩) m (c+1))
  rw[List.set_set] at h2
  exact Pil.of h2 (by rw[List.length_take];omega) rfl h.ll h.e (by rw[List.length_take];have:=h.n8;omega))
 have HM:=qG h.m
 have aj:=qG ae
 obtain⟨x0,x1,x2,x3,x4,x5⟩:=ae
 have ag:=qG (nxA V (.cells #[.int .i64 x.p.hour,.int .i64 x.p.num,.int .i64 x.p.e.n.length,.func (.func (vbF x.p.e.v)) #[] #[],.bool x.p.e.v.clock,.slice x.A x.p.e.n.length x.c] 251))
 have ah:=qG (Bx.new V #[.int .i64 x.p.hour,.int .i64 x.p.num,.int .i64 x.p.e.n.length,.func (.func (vbF x.p.e.v)) #[] #[],.bool x.p.e.v.clock,.slice x.A x.p.e.n.length x.c] 251)
 have f11:=h.m.x.c 11 _ ac.o
 have ak:m<100:=by have:=h.n8;omega
 have hq:(m:Int)<(m:Int)+1:=by omega
 have am:m+1<=c+1:=by
  obtain⟨A,c',e,hc⟩:=h.form
  rw[ev] at e
  injection e with _ _ e
  omega
 have an:(m:Int)<=(c:Int)+1:=by omega
 have ao:(0<=(m:Int)/\(m:Int)<=(c:Int)+1)=True:=by simp;omega
 have hw:IntKind.i64.wrap ((m:Int)+1-1)=(m:Int):=(qF _ (by omega)).trans (by omega)
 have aq:wrap64 (m:Int)=(m:Int):=IntWalk.wrap64_in _ (by omega)
 clear h ev eb hm hx
 generalize Lb.set 11 (R' 6).v=L at *
 go_enter Tryz.func332,Tryz.ntmps332
 go_upto_region 3 with fail
 clear x0 x1 x2 x3 x4 x5 f11
 generalize V.alloc (.cells #[.int .i64 x.p.hour,.int .i64 x.p.num,.int .i64 x.p.e.n.length,.func (.func (vbF x.p.e.v)) #[] #[],.bool x.p.e.v.clock,.slice x.A x.p.e.n.length x.c] 251)=V2 at *
 have ab:=qG (HM.o.below ag.o)
 have f11:=ab.o.x.c 11 _ ac.o
 have g11:=ab.o.x.fr 11
 have l11:=ab.o.x.lt
 have hlt:=HM.o.x.lt
 go_upto_region 4 with fail
 have aa:=qG (ah.o.other (g:=f) (by omega) 11 (.slice (some ⟨g,0,none⟩) m (c+1)))
 have HF:=qG (af.o V2 ab.o)
 generalize V2.setCell ⟨f,11,none⟩ (.slice (some ⟨g,0,none⟩) m (c+1))=V3 at *
 have x0:=aa.o.c 0 _ rfl
 have x1:=aa.o.c 1 _ rfl
 have x2:=aa.o.c 2 _ rfl
 have x3:=aa.o.c 3 _ rfl
 have x4:=aa.o.c 4 _ rfl
 have x5:=aa.o.c 5 _ rfl
 clear f11 g11 l11
 go_wp2_with fail
 go_ret
 exact⟨rfl,HF.o⟩
theorem zeT(f:Nat)(A:Option Addr)(n c:Nat)(W:World)(nm:Option String)(h:W.cell? ⟨f,11,none⟩=some (.slice A n c)):(receiverAt 246 (Place.val (.pointer (some ⟨f,11,none⟩))) false nm).run Tryz.prog W=.ok (.slice A n c) W:=by
 have hg:(Place.get 246 (Place.val (.pointer (some ⟨f,11,none⟩)))).run Tryz.prog W=.ok (.pointer (some ⟨f,11,none⟩)) W:=by rfl
 have hw:∀ s:String,(Builtin.ssaWrapNilChk_ #[246] 246 #[.pointer (some ⟨f,11,none⟩),strVal "",strVal s]).run Tryz.prog W=.ok (.pointer (some ⟨f,11,none⟩)) W:=fun s=>by rfl
 unfold receiverAt
 cases nm <;> go_simp
theorem zdw(v:Value)(t:TypeId)(W:World):(follow [] t (Place.val v)).run Tryz.prog W=.ok (t,Place.val v) W:=rfl
theorem zdu(f:Nat)(A:Option Addr)(n c:Nat)(W:World)(h:W.cell? ⟨f,11,none⟩=some (.slice A n c)):(method 505 246 (.pointer (some ⟨f,11,none⟩)) "Less").run Tryz.prog W=.ok (325,.slice A n c) W:=by
 unfold method
 have hm:Array.find? (fun x=>x.name== "Less") Tryz.t246.methods=some { name:= "Less",sig:=188,path:=#[],func:=some (325,false) }:=by kernel_rfl
 have hr:=fun nm=>zeT f A n c W nm h
 have hf:=zdw (.pointer (some ⟨f,11,none⟩)) 246 W
 clear h
 go_simp
theorem zfv(f:Nat)(A:Option Addr)(n c:Nat)(W:World)(h:W.cell? ⟨f,11,none⟩=some (.slice A n c)):(method 505 246 (.pointer (some ⟨f,11,none⟩)) "Len").run Tryz.prog W=.ok (324,.slice A n c) W:=by
 unfold method
 have hm:Array.find? (fun x=>x.name== "Len") Tryz.t246.methods=some { name:= "Len",sig:=209,path:=#[],func:=some (324,false) }:=by kernel_rfl
 have hr:=fun nm=>zeT f A n c W nm h
 have hf:=zdw (.pointer (some ⟨f,11,none⟩)) 246 W
 clear h
 go_simp
theorem zcz(f:Nat)(A:Option Addr)(n c:Nat)(W:World)(h:W.cell? ⟨f,11,none⟩=some (.slice A n c)):(method 505 246 (.pointer (some ⟨f,11,none⟩)) "Swap").run Tryz.prog W=.ok (326,.slice A n c) W:=by
 unfold method
 have hm:Array.find? (fun x=>x.name== "Swap") Tryz.t246.methods=some { name:= "Swap",sig:=341,path:=#[],func:=some (326,false) }:=by kernel_rfl
 have hr:=fun nm=>zeT f A n c W nm h
 have hf:=zdw (.pointer (some ⟨f,11,none⟩)) 246 W
 clear h
 go_simp
theorem zjd(f:Nat)(W:World)(nm:Option String):(receiverAt 246 (Place.val (.pointer (some ⟨f,11,none⟩))) true nm).run Tryz.prog W=.ok (.pointer (some ⟨f,11,none⟩)) W:=by
 have hg:(Place.get 246 (Place.val (.pointer (some ⟨f,11,none⟩)))).run Tryz.prog W=.ok (.pointer (some ⟨f,11,none⟩)) W:=by rfl
 unfold receiverAt
 cases nm <;> go_simp
theorem zoo(f:Nat)(W:World):(method 505 246 (.pointer (some ⟨f,11,none⟩)) "Push").run Tryz.prog W=.ok (333,.pointer (some ⟨f,11,none⟩)) W:=by
 unfold method
 have hm:Array.find? (fun x=>x.name== "Push") Tryz.t246.methods=some { name:= "Push",sig:=303,path:=#[],func:=some (333,true) }:=by kernel_rfl
 have hr:=fun nm=>zjd f W nm
 have hf:=zdw (.pointer (some ⟨f,11,none⟩)) 246 W
 go_simp
theorem zfu(f:Nat)(W:World):(method 505 246 (.pointer (some ⟨f,11,none⟩)) "Pop").run Tryz.prog W=.ok (332,.pointer (some ⟨f,11,none⟩)) W:=by
 unfold method
 have hm:Array.find? (fun x=>x.name== "Pop") Tryz.t246.methods=some { name:= "Pop",sig:=358,path:=#[],func:=some (332,true) }:=by kernel_rfl
 have hr:=fun nm=>zjd f W nm
 have hf:=zdw (.pointer (some ⟨f,11,none⟩)) 246 W
 go_simp
def RUp(w:World)(f:Nat)(R Rb:Nat->Rw)(Lb:List Value)(ps:List Pq)(j:Nat)(jv:Value)(W:World):Prop:=∃(q:Nat) (qs:List Pq) (R1:Nat->Rw),jv=.int .i64 q/\Pile w W f R Rb R1 Lb qs/\q<qs.length/\qs.length=ps.length/\Hp.upL ltP qs q=Hp.upL ltP ps j
theorem zl8(w V:World)(f:Nat)(R Rb R':Nat->Rw)(Lb:List Value)(ps:List Pq)(h:Pile w V f R Rb R' Lb ps)(j:Nat)(hj:j<ps.length) :
  Calls Tryz.prog 201 #[.iface 246 (.pointer (some ⟨f,11,none⟩)),.int .i64 j] V (fun e V'=>e=.returned (.tuple #[])/\Pil w V' f R Rb Lb (Hp.upL ltP ps j)):=by
 have HH:=qG (show RUp w f R Rb Lb ps j (.int .i64 (j:Int)) V from⟨j,ps,R',rfl,h,hj,rfl,rfl⟩)
 clear h
 go_enter Tryz.func201,Tryz.ntmps201
 go_wp2_with fail
 go_loopw [1] (fun jv wr=>RUp w f R Rb Lb ps j jv wr) (fun jv _=>(intOf jv).toNat)
 case atStart=>exact HH.o
 case round=>
  obtain⟨q,qs,R1,rfl,hp,hq,ab,af⟩:=hrel
  have HP:=qG hp
  have HE:=qG af
  have ak:=qG ab
  have ay:=hp.n8
  obtain⟨A,c,ev,hc⟩:=hp.form
  have f11:wr.cell? ⟨f,11,none⟩=some (.slice A qs.length c):=by rw[<- ev];exact hp.c11
  have an:=zdu f A qs.length c wr f11
  have ao:=zcz f A qs.length c wr f11
  clear hp af ab
  cases q with
 |zero=>
   have e1:IntKind.i64.wrap (((0:Nat):Int)-1)=-1:=by decide
   have e2:Int.tdiv (-1) 2=0:=by decide
   go_wp2_with fail
   go_end0
   exact⟨rfl,R1,by rw[<- HE.o];unfold Hp.upL;exact HP.o⟩
 |succ q=>
   have e1:wrap64 (q:Int)=(q:Int):=IntWalk.wrap64_in _ (by omega)
   have e2:Int.tdiv (q:Int) 2=((q / 2:Nat):Int):=by rw[Int.tdiv_eq_ediv_of_nonneg (by omega)];omega
   have e3:(q:Int) / 2=((q / 2:Nat):Int):=by omega
   obtain⟨p,ac⟩:∃ p,p=q / 2:=⟨_,rfl⟩
   rw[<- ac] at e2 e3
   have aq:=qG ac
   have e4:((p:Int)==(q:Int)+1)=false:=by simp;omega
   have hpl:p<qs.length:=by omega
   obtain⟨x,hx⟩:=Hp.get_of hq
   obtain⟨y,hy⟩:=Hp.get_of hpl
   have HX:=qG hx
   have HY:=qG hy
   obtain⟨g,c',ev1,eb,ag,-⟩:=HP.o.at_ hx
   obtain⟨g2,c2',ev2,-,ah,-⟩:=HP.o.at_ hy
   have hA:A=some ⟨g,0,none⟩/\c=c'+1:=by rw[ev1] at ev;injection ev with q1 _ q2;exact⟨q1.symm,q2.symm⟩
   have ar:g2=g:=by rw[ev1] at ev2;injection ev2 with q1 _ _;injection q1 with q1;injection q1 with q1 _ _;exact q1.symm
   obtain⟨rfl,rfl⟩:=hA
   subst ar
   have au:=qG ag
   have aw:=qG ah
   have ai:=qG ev1
   have aa:=qG (show Hp.upL ltP qs (q+1)=if ltP x y=true then Hp.upL ltP (Hp.swapL qs p (q+1)) p else qs from by
    rw[Hp.upL,dif_neg (by omega),show(q+1-1) / 2=p by rw[aq.o];rfl,HX.o,HY.o])
   clear ac hx hy ev ev1 ev2 eb ag ah hc
   go_wp2_with fail
   refine(zjF g2 c' qs.length (q+1) p x y wr hq hpl au.o aw.o).mono ?_
   rintro e V1 ⟨rfl,hb⟩
   have ae:=qG (HP.o.below hb)
   have f11':V1.cell? ⟨f,11,none⟩=some (.slice (some ⟨g2,0,none⟩) qs.length (c'+1)):=by rw[<- ai.o];exact ae.o.c11
   have am:=zcz f (some ⟨g2,0,none⟩) qs.length (c'+1) V1 f11'
   clear hb an ao f11
   cases hlt:ltP x y
   .rw[hlt] at aa
    go_wp2_with fail
    go_end0
    exact⟨rfl,R1,by rw[<- HE.o,aa.o];exact ae.o⟩
   .rw[hlt] at aa
    go_wp2_with fail
    refine(ziV w V1 f R Rb R1 Lb qs ae.o g2 c' p (q+1) ai.o hpl hq).mono ?_
    rintro e V3 ⟨rfl,R3,aj,-⟩
    have ax:=qG aj
    clear aj f11' am
    go_wp2_with fail
    exact⟨⟨p,Hp.swapL qs p (q+1),R3,rfl,ax.o,by rw[Hp.swapL_len];exact hpl,by rw[Hp.swapL_len];exact ak.o,by rw[<- HE.o,aa.o];rfl⟩,by simp[intOf];omega⟩
def RDn(w:World)(f:Nat)(R Rb:Nat->Rw)(Lb:List Value)(ps:List Pq)(i0 n:Nat)(iv:Value)(W:World):Prop:=∃(q:Nat) (qs:List Pq) (R1:Nat->Rw),iv=.int .i64 q/\Pile w W f R Rb R1 Lb qs/\q<=100/\qs.length=ps.length/\Hp.downL ltP qs q n=Hp.downL ltP ps i0 n
theorem Pile.two{w V:World}{f:Nat}{R Rb R1:Nat->Rw}{Lb:List Value}{qs:List Pq}(h:Pile w V f R Rb R1 Lb qs){i k:Nat}(hi:i<qs.length)(hk:k<qs.length) :
  ∃ g c x y,(R1 6).v=.slice (some ⟨g,0,none⟩) qs.length (c+1)/\qs[i]?=some x/\qs[k]?=some y/\PqAt V g i x/\PqAt V g k y:=by
 obtain⟨x,hx⟩:=Hp.get_of hi
 obtain⟨y,hy⟩:=Hp.get_of hk
 obtain⟨g,c',ev1,eb,aa,-⟩:=h.at_ hx
 obtain⟨g2,c2',ev2,-,ab,-⟩:=h.at_ hy
 have ac:g2=g:=by rw[ev1] at ev2;injection ev2 with q1 _ _;injection q1 with q1;injection q1 with q1 _ _;exact q1.symm
 subst ac
 exact⟨g2,c',x,y,ev1,hx,hy,aa,ab⟩
theorem zdH{w V:World}{f:Nat}{R Rb R1:Nat->Rw}{Lb:List Value}{qs:List Pq}(h:Pile w V f R Rb R1 Lb qs){i k:Nat}{x y:Pq}(hx:qs[i]?=some x)(hy:qs[k]?=some y)(A:Option Addr)(c:Nat)(ev:(R1 6).v=.slice A qs.length c) :
  Calls Tryz.prog 325 #[.slice A qs.length c,.int .i64 i,.int .i64 k] V (Ret (.bool (ltP x y)) V):=by
 have hi:=(qO.1 hx).1
 have hk:=(qO.1 hy).1
 obtain⟨g,c',x',y',ev1,aa,ab,px,py⟩:=h.two hi hk
 rw[ev1] at ev
 injection ev with e1 _ e2
 subst e1 e2
 have:x'=x:=Option.some.inj (aa.symm.trans hx)
 subst this
 have:y'=y:=Option.some.inj (ab.symm.trans hy)
 subst this
 exact zjF g c' qs.length i k x' y' V hi hk px py
theorem zcY{w V:World}{f:Nat}{R Rb R1:Nat->Rw}{Lb:List Value}{qs:List Pq}(h:Pile w V f R Rb R1 Lb qs){i k:Nat}(hi:i<qs.length)(hk:k<qs.length)(A:Option Addr)(c:Nat)(ev:(R1 6).v=.slice A qs.length c) :
  Calls Tryz.prog 326 #[.slice A qs.length c,.int .i64 i,.int .i64 k] V (fun e V'=>e=.returned (.tuple #[])/\Pil w V' f R Rb Lb (Hp.swapL qs i k)):=by
 obtain⟨g,c',x',y',ev1,-,-,-,-⟩:=h.two hi hk
 rw[ev1] at ev
 injection ev with e1 _ e2
 subst e1 e2
 exact(ziV w V f R Rb R1 Lb qs h g c' i k ev1 hi hk).mono fun e V' h=>⟨h.1,h.2.elim fun R2 h2=>⟨R2,h2.1⟩⟩
theorem Pile.nf{w V:World}{f:Nat}{R Rb R1:Nat->Rw}{Lb:List Value}{qs:List Pq}(h:Pile w V f R Rb R1 Lb qs)(A:Option Addr)(c:Nat)(ev:(R1 6).v=.slice A qs.length c):V.cell? ⟨f,11,none⟩=some (.slice A qs.length c):=by rw[<- ev];exact h.c11
theorem zfa{qs:List Pq}{q n j:Nat}{x y:Pq}(hn:¬ n<=2*q+1)(hk:Hp.kid ltP qs q n=j)(hx:qs[j]?=some x)(hy:qs[q]?=some y):Hp.downL ltP qs q n=if ltP x y=true then Hp.downL ltP (Hp.swapL qs q j) j n else(qs,q):=by
 rw[Hp.downL,dif_neg hn,hk,hx,hy]
theorem zj5(w V:World)(f:Nat)(R Rb R':Nat->Rw)(Lb:List Value)(ps:List Pq)(h:Pile w V f R Rb R' Lb ps)(i0 n:Nat)(hn:n<=ps.length)(aE:i0<=100) :
  Calls Tryz.prog 271 #[.iface 246 (.pointer (some ⟨f,11,none⟩)),.int .i64 i0,.int .i64 n] V (fun e V'=>e=.returned (.bool (decide (i0<(Hp.downL ltP ps i0 n).2)))/\Pil w V' f R Rb Lb (Hp.downL ltP ps i0 n).1):=by
 have HH:=qG (show RDn w f R Rb Lb ps i0 n (.int .i64 (i0:Int)) V from⟨i0,ps,R',rfl,h,aE,rfl,rfl⟩)
 have am:=qG h.n8
 clear h
 go_enter Tryz.func271,Tryz.ntmps271
 go_upto_region 2 with fail
 go_loopw [7] (fun iv wr=>RDn w f R Rb Lb ps i0 n iv wr) (fun iv _=>1000-(intOf iv).toNat)
 case atStart=>exact HH.o
 case round=>
  obtain⟨q,qs,R1,rfl,hp,hq,ar,aB⟩:=hrel
  have HP:=qG hp
  have HE:=qG aB
  have aa:=qG ar
  have HQ:=qG hq
  obtain⟨A,c,ev,hc⟩:=hp.form
  have ab:=qG ev
  have f11:=hp.nf A c ev
  have af:=zdu f A qs.length c wr f11
  obtain⟨j1,aq⟩:∃ j1,j1=2*q+1:=⟨_,rfl⟩
  have au:=qG aq
  have a1:wrap64 (2*(q:Int))=2*(q:Int):=IntWalk.wrap64_in _ (by omega)
  have a2:IntKind.i64.wrap (2*(q:Int)+1)=(j1:Int):=(qF _ (by omega)).trans (by omega)
  have a3:wrap64 (2*(q:Int)+1)=(j1:Int):=(IntWalk.wrap64_in _ (by omega)).trans (by omega)
  have a4:2*(q:Int)+1=(j1:Int):=by omega
  have b0:decide ((j1:Int)<0)=false:=decide_eq_false (by omega)
  have a5:IntKind.i64.wrap (2*(q:Int))=2*(q:Int):=qF _ (by omega)
  clear hp aB ar ev hc
  by_cases aF:n<=j1
  .have b1:decide ((n:Int)<=(j1:Int))=true:=decide_eq_true (by omega)
   have HD:=qG (show Hp.downL ltP qs q n=(qs,q) from by rw[Hp.downL,dif_pos (by rw[<- au.o];exact aF)])
   clear aq
   go_wp2_with fail
   go_ret
   refine⟨?_,R1,by rw[<- HE.o,HD.o];exact HP.o⟩
   rw[<- HE.o,HD.o]
   rfl
  .have b1:decide ((n:Int)<=(j1:Int))=false:=decide_eq_false (by omega)
   have aw:=qG (show ¬ n<=2*q+1 by omega)
   obtain⟨j2,ax⟩:∃ j2,j2=2*q+2:=⟨_,rfl⟩
   have aG:=qG ax
   have a6:IntKind.i64.wrap ((j1:Int)+1)=(j2:Int):=(qF _ (by omega)).trans (by omega)
   have a7:(j1:Int)+1=(j2:Int):=by omega
   by_cases aH:j2<n
   .have b2:decide ((j2:Int)<(n:Int))=true:=decide_eq_true (by omega)
    have aI:j1<qs.length:=by have:=aa.o;omega
    have aJ:j2<qs.length:=by have:=aa.o;omega
    obtain⟨g,c',x2,x1,-,ay,az,-,-⟩:=HP.o.two aJ aI
    have aC:=qG (show Hp.kid ltP qs q n=if ltP x2 x1=true then j2 else j1 from by
     unfold Hp.kid
     rw[<- au.o,<- aG.o,if_pos aH,ay,az])
    have aA:=qG (zdH HP.o ay az A c ab.o)
    clear aq ax az ay
    go_wp2_with fail
    refine aA.o.mono ?_
    rintro e V0 ⟨rfl,aD⟩
    have ag:=qG (HP.o.below aD)
    clear aD af f11 aA
    generalize ltP x2 x1=lt2 at *
    cases lt2
    .have HK:=qG (show Hp.kid ltP qs q n=j1 from aC.o)
     go_upto_region 8 with fail
     have ah:j1<qs.length:=by have:=aa.o;omega
     have ai:q<qs.length:=by have:=aa.o;omega
     obtain⟨g,c',x,y,-,hx,hy,-,-⟩:=ag.o.two ah ai
     have ac:=qG (zfa aw.o HK.o hx hy)
     have aj:=qG (zdH ag.o hx hy A c ab.o)
     have f11:=ag.o.nf A c ab.o
     have af:=zdu f A qs.length c V0 f11
     clear hx hy
     go_wp2_with fail
     refine aj.o.mono ?_
     rintro e V1 ⟨rfl,hb⟩
     have ae:=qG (ag.o.below hb)
     have f12:=ae.o.nf A c ab.o
     have an:=zcz f A qs.length c V1 f12
     clear hb af f11 aj
     generalize ltP x y=lt at *
     cases lt
     .go_wp2_with fail
      go_ret
      refine⟨?_,R1,by rw[<- HE.o,ac.o];exact ae.o⟩
      rw[<- HE.o,ac.o]
      rfl
     .go_wp2_with fail
      refine(zcY ae.o ai ah A c ab.o).mono ?_
      rintro e V3 ⟨rfl,R3,ak⟩
      have ao:=qG ak
      clear ak f12 an
      go_wp2_with fail
      exact⟨⟨j1,Hp.swapL qs q j1,R3,rfl,ao.o,by have:=am.o;omega,by rw[Hp.swapL_len];exact aa.o,by rw[<- HE.o,ac.o];rfl⟩,by have:=am.o;simp[intOf];omega⟩
    .have HK:=qG (show Hp.kid ltP qs q n=j2 from aC.o)
     go_upto_region 8 with fail
     have ah:j2<qs.length:=by have:=aa.o;omega
     have ai:q<qs.length:=by have:=aa.o;omega
     obtain⟨g,c',x,y,-,hx,hy,-,-⟩:=ag.o.two ah ai
     have ac:=qG (zfa aw.o HK.o hx hy)
     have aj:=qG (zdH ag.o hx hy A c ab.o)
     have f11:=ag.o.nf A c ab.o
     have af:=zdu f A qs.length c V0 f11
     clear hx hy
     go_wp2_with fail
     refine aj.o.mono ?_
     rintro e V1 ⟨rfl,hb⟩
     have ae:=qG (ag.o.below hb)
     have f12:=ae.o.nf A c ab.o
     have an:=zcz f A qs.length c V1 f12
     clear hb af f11 aj
     generalize ltP x y=lt at *
     cases lt
     .go_wp2_with fail
      go_ret
      refine⟨?_,R1,by rw[<- HE.o,ac.o];exact ae.o⟩
      rw[<- HE.o,ac.o]
      rfl
     .go_wp2_with fail
      refine(zcY ae.o ai ah A c ab.o).mono ?_
      rintro e V3 ⟨rfl,R3,ak⟩
      have ao:=qG ak
      clear ak f12 an
      go_wp2_with fail
      exact⟨⟨j2,Hp.swapL qs q j2,R3,rfl,ao.o,by have:=am.o;omega,by rw[Hp.swapL_len];exact aa.o,by rw[<- HE.o,ac.o];rfl⟩,by have:=am.o;simp[intOf];omega⟩
   .have b2:decide ((j2:Int)<(n:Int))=false:=decide_eq_false (by omega)
    have HK:=qG (show Hp.kid ltP qs q n=j1 from by unfold Hp.kid;rw[if_neg (by omega),<- au.o])
    clear aq ax af f11
    go_upto_region 8 with fail
    have ah:j1<qs.length:=by have:=aa.o;omega
    have ai:q<qs.length:=by have:=aa.o;omega
    obtain⟨g,c',x,y,-,hx,hy,-,-⟩:=HP.o.two ah ai
    have ac:=qG (zfa aw.o HK.o hx hy)
    have aj:=qG (zdH HP.o hx hy A c ab.o)
    have f11:=HP.o.nf A c ab.o
    have af:=zdu f A qs.length c wr f11
    clear hx hy
    go_wp2_with fail
    refine aj.o.mono ?_
    rintro e V1 ⟨rfl,hb⟩
    have ae:=qG (HP.o.below hb)
    have f12:=ae.o.nf A c ab.o
    have an:=zcz f A qs.length c V1 f12
    clear hb af f11 aj
    generalize ltP x y=lt at *
    cases lt
    .go_wp2_with fail
     go_ret
     refine⟨?_,R1,by rw[<- HE.o,ac.o];exact ae.o⟩
     rw[<- HE.o,ac.o]
     rfl
    .go_wp2_with fail
     refine(zcY ae.o ai ah A c ab.o).mono ?_
     rintro e V3 ⟨rfl,R3,ak⟩
     have ao:=qG ak
     clear ak f12 an
     go_wp2_with fail
     exact⟨⟨j1,Hp.swapL qs q j1,R3,rfl,ao.o,by have:=am.o;omega,by rw[Hp.swapL_len];exact aa.o,by rw[<- HE.o,ac.o];rfl⟩,by have:=am.o;simp[intOf];omega⟩
theorem zmY(w V:World)(f:Nat)(R Rb R':Nat->Rw)(Lb:List Value)(ps:List Pq)(h:Pile w V f R Rb R' Lb ps)(x:Pq)(hn:ps.length<100):Calls Tryz.prog 131 #[.iface 246 (.pointer (some ⟨f,11,none⟩)),.iface 251 (.agg #[.int .i64 x.p.hour,.int .i64 x.p.num,.int .i64 x.p.e.n.length,.func (.func (vbF x.p.e.v)) #[] #[],.bool x.p.e.v.clock,.slice x.A x.p.e.n.length x.c])] V (fun e V'=>e=.returned (.tuple #[])/\Pil w V' f R Rb Lb (Hp.pushH ltP ps x)):=by
 have ac:=qG (znS w V f R Rb R' Lb ps h x hn)
 have ae:=zoo f V
 have HN:=qG hn
 clear h
 go_enter Tryz.func131,Tryz.ntmps131
 go_wp2_with fail
 refine ac.o.mono ?_
 rintro e V1 ⟨rfl,R1,aa⟩
 have af:=qG aa
 obtain⟨A,c,ev,-⟩:=aa.form
 rw[qD,List.length_singleton] at ev
 have f11:V1.cell? ⟨f,11,none⟩=some (.slice A (ps.length+1) c):=by rw[<- ev];exact aa.c11
 have ag:=zfv f A (ps.length+1) c V1 f11
 have a1:wrap64 (ps.length:Int)=(ps.length:Int):=IntWalk.wrap64_in _ (by have:=HN.o;omega)
 clear aa ae ev
 go_wp2_with fail
 refine(zd4 A (ps.length+1) c V1).mono ?_
 rintro e V2 ⟨rfl,rfl⟩
 go_wp2_with fail
 refine(zl8 w V1 f R Rb R1 Lb (ps++[x]) af.o ps.length (by rw[qD,List.length_singleton];omega)).mono ?_
 rintro e V2 ⟨rfl,ab⟩
 have ah:=qG ab
 clear ab f11 ag
 go_wp2_with fail
 go_end0
 exact⟨rfl,ah.o⟩
theorem zor(w V:World)(f:Nat)(R Rb R':Nat->Rw)(Lb:List Value)(ps:List Pq)(h:Pile w V f R Rb R' Lb ps)(m:Nat)(hm:ps.length=m+1)(x:Pq)(hx:(Hp.popH ltP ps)[m]?=some x):Calls Tryz.prog 237 #[.iface 246 (.pointer (some ⟨f,11,none⟩))] V (fun e V'=>e=.returned (.iface 251 (.agg #[.int .i64 x.p.hour,.int .i64 x.p.num,.int .i64 x.p.e.n.length,.func (.func (vbF x.p.e.v)) #[] #[],.bool x.p.e.v.clock,.slice x.A x.p.e.n.length x.c]))/\Pil w V' f R Rb Lb ((Hp.popH ltP ps).take m)):=by
 have HP:=qG h
 have HX:=qG hx
 obtain⟨A,c,ev,-⟩:=h.form
 have aq:=qG ev
 have f11:=h.nf A c ev
 rw[hm] at f11
 have ah:=zfv f A (m+1) c V f11
 have ai:=zcz f A (m+1) c V f11
 have a1:wrap64 (m:Int)=(m:Int):=IntWalk.wrap64_in _ (by have:=h.n8;omega)
 have ab:=qG (zcY h (i:=0) (k:=m) (by omega) (by omega) A c ev)
 have HM:=qG hm
 have ac:=qG (show Hp.popH ltP ps=(Hp.downL ltP (Hp.swapL ps 0 m) 0 m).1 from by unfold Hp.popH;rw[hm];rfl)
 have ae:=qG (show(Hp.swapL ps 0 m).length=m+1 from by rw[Hp.swapL_len,hm])
 rw[hm] at ab
 clear h hx ev
 go_enter Tryz.func237,Tryz.ntmps237
 go_wp2_with fail
 refine(zd4 A (m+1) c V).mono ?_
 rintro e V2 ⟨rfl,rfl⟩
 go_wp2_with fail
 refine ab.o.mono ?_
 rintro e V1 ⟨rfl,R1,af⟩
 have aj:=qG af
 clear af ah ai f11
 go_wp2_with fail
 refine(zj5 w V1 f R Rb R1 Lb (Hp.swapL ps 0 m) aj.o 0 m (by rw[ae.o];omega) (by omega)).mono ?_
 rintro e V2 ⟨rfl,R2,aa⟩
 rw[<- ac.o] at aa
 have ak:=qG aa
 have am:=qG (show(Hp.popH ltP ps).length=m+1 from by rw[ac.o,Hp.downL_len,ae.o])
 have an:=zfu f V2
 clear aa
 go_wp2_with fail
 refine(zej w V2 f R Rb R2 Lb (Hp.popH ltP ps) ak.o m x am.o HX.o).mono ?_
 rintro e V3 ⟨rfl,ag⟩
 have ao:=qG ag
 clear ag an
 go_wp2_with fail
 go_ret
 exact⟨rfl,ao.o⟩
theorem zoq(w V:World)(f:Nat)(R Rb R':Nat->Rw)(Lb:List Value)(ps:List Pq)(h:Pile w V f R Rb R' Lb ps)(m i:Nat)(hm:ps.length=m+1)(hi:i<ps.length)(x:Pq)(hx:(Hp.remH ltP ps i)[m]?=some x):Calls Tryz.prog 239 #[.iface 246 (.pointer (some ⟨f,11,none⟩)),.int .i64 i] V (fun e V'=>e=.returned (.iface 251 (.agg #[.int .i64 x.p.hour,.int .i64 x.p.num,.int .i64 x.p.e.n.length,.func (.func (vbF x.p.e.v)) #[] #[],.bool x.p.e.v.clock,.slice x.A x.p.e.n.length x.c]))/\Pil w V' f R Rb Lb ((Hp.remH ltP ps i).take m)):=by
 have HP:=qG h
 have HX:=qG hx
 obtain⟨A,c,ev,-⟩:=h.form
 have ay:=qG ev
 have f11:=h.nf A c ev
 rw[hm] at f11
 have ao:=zfv f A (m+1) c V f11
 have aq:=zcz f A (m+1) c V f11
 have a1:wrap64 (m:Int)=(m:Int):=IntWalk.wrap64_in _ (by have:=h.n8;omega)
 have ai:=qG (zcY h (i:=i) (k:=m) hi (by omega) A c ev)
 have HM:=qG hm
 have HI:=qG (show i<=100 from by have:=h.n8;omega)
 have af:=qG (show(Hp.swapL ps i m).length=m+1 from by rw[Hp.swapL_len,hm])
 have az:=qG hi
 rw[hm] at ai
 by_cases aj:m=i
 .have ag:=qG (show(Hp.remH ltP ps i).length=m+1 from by unfold Hp.remH;rw[if_pos (by omega)];exact hm)
  have HR:=qG (show Pile w V f R Rb R' Lb (Hp.remH ltP ps i) from by unfold Hp.remH;rw[if_pos (by omega)];exact h)
  have b1:((m:Int) !=(i:Int))=false:=by simp;omega
  clear h hx ev hm hi aj
  go_enter Tryz.func239,Tryz.ntmps239
  go_wp2_with fail
  refine(zd4 A (m+1) c V).mono ?_
  rintro e V2 ⟨rfl,rfl⟩
  have ab:=zfu f V
  go_wp2_with fail
  refine(zej w V f R Rb R' Lb (Hp.remH ltP ps i) HR.o m x ag.o HX.o).mono ?_
  rintro e V3 ⟨rfl,aa⟩
  have ac:=qG aa
  clear aa ab
  go_wp2_with fail
  go_ret
  exact⟨rfl,ac.o⟩
 .have ae:=qG (show Hp.remH ltP ps i=if i<(Hp.downL ltP (Hp.swapL ps i m) i m).2 then(Hp.downL ltP (Hp.swapL ps i m) i m).1 else Hp.upL ltP (Hp.downL ltP (Hp.swapL ps i m) i m).1 i from by
   unfold Hp.remH
   rw[hm,if_neg (by omega)]
   rfl)
  have b1:((m:Int) !=(i:Int))=true:=by simp;omega
  have ar:=qG (show i<m by omega)
  have ag:=qG (show(Hp.remH ltP ps i).length=m+1 from by rw[ae.o];split;rw[Hp.downL_len,af.o];rw[Hp.upL_len,Hp.downL_len,af.o])
  clear h hx ev hm hi aj
  go_enter Tryz.func239,Tryz.ntmps239
  go_wp2_with fail
  refine(zd4 A (m+1) c V).mono ?_
  rintro e V2 ⟨rfl,rfl⟩
  go_wp2_with fail
  refine ai.o.mono ?_
  rintro e V1 ⟨rfl,R1,ak⟩
  have au:=qG ak
  clear ak ao aq f11
  go_wp2_with fail
  refine(zj5 w V1 f R Rb R1 Lb (Hp.swapL ps i m) au.o i m (by rw[af.o];omega) HI.o).mono ?_
  rintro e V2 ⟨rfl,R2,am⟩
  have an:=qG am
  clear am
  by_cases hd:i<(Hp.downL ltP (Hp.swapL ps i m) i m).2
  .rw[if_pos hd] at ae
   have aw:=qG (show Pile w V2 f R Rb R2 Lb (Hp.remH ltP ps i) from by rw[ae.o];exact an.o)
   rw[decide_eq_true hd]
   clear hd
   have ab:=zfu f V2
   go_wp2_with fail
   refine(zej w V2 f R Rb R2 Lb (Hp.remH ltP ps i) aw.o m x ag.o HX.o).mono ?_
   rintro e V3 ⟨rfl,aa⟩
   have ac:=qG aa
   clear aa ab
   go_wp2_with fail
   go_ret
   exact⟨rfl,ac.o⟩
  .rw[if_neg hd] at ae
   rw[decide_eq_false hd]
   clear hd
   go_wp2_with fail
   refine(zl8 w V2 f R Rb R2 Lb _ an.o i (by rw[Hp.downL_len,af.o];have:=ar.o;omega)).mono ?_
   rintro e V4 ⟨rfl,R4,ah⟩
   rw[<- ae.o] at ah
   have ax:=qG ah
   clear ah
   have ab:=zfu f V4
   go_wp2_with fail
   refine(zej w V4 f R Rb R4 Lb (Hp.remH ltP ps i) ax.o m x ag.o HX.o).mono ?_
   rintro e V3 ⟨rfl,aa⟩
   have ac:=qG aa
   clear aa ab
   go_wp2_with fail
   go_ret
   exact⟨rfl,ac.o⟩
theorem zf4{R R':Nat->Rw}{cs:List Cu.Cut}{ps ps':List Pq}{b:Bk}(h:RowsOk R cs ps b)(e:∀ j,j≠6->R' j=R j)(h6:(R' 6).e=251/\(R' 6).size=6/\(R' 6).n=ps'.length/\(R' 6).xs=ps'.flatMap Pq.cells):RowsOk R' cs ps' b:=
 ⟨by rw[e 0 (by decide)];exact h.r0,by rw[e 1 (by decide)];exact h.r1,by rw[e 2 (by decide)];exact h.r2,by rw[e 3 (by decide)];exact h.r3,by rw[e 4 (by decide)];exact h.r4,by rw[e 5 (by decide)];exact h.r5,h6⟩
theorem zd0{w V:World}{f:Nat}{R:Nat->Rw}{cs:List Cu.Cut}{ps:List Pq}{b:Bk}{L:List Value}(h:Mid w V f R R L)(ro:RowsOk R cs ps b)(hl:L[11]?=some (R 6).v)(hn:ps.length<=100):Pile w V f R R R L ps:=by
 have h1:11<L.length:=(qO.1 hl).1
 refine⟨?_,h1,ro.r6,fun _ _=>rfl,hn⟩
 have:L.set 11 (R 6).v=L:=by
  apply List.ext_getElem?
  intro i
  by_cases e:11=i
  .subst e;rw[List.getElem?_set_self h1,hl]
  .rw[List.getElem?_set_ne e]
 rw[this];exact h
theorem FlAt.upP{O:Nat->Prop}{w w':World}{f:Nat}{R R':Nat->Rw}{cs:List Cu.Cut}{ps ps':List Pq}{d:Ru.Die}{s s':St}(h:FlAt O w f R cs ps d s)(t:Turn w w' f R R')(ho:Own w' f R')(hb:Bx w' f (flL R' d s'))(hc:s'.b.cuts=s.b.cuts)(ro:RowsOk R' cs ps' s'.b)(hp:HpOk Pq.p ps' s'.plans s'.planned)(pa:∀ x∈ps',x∈ps\/(AtO (orO O f R') w' 1 zad x.A x.p.e.n/\x.p.e.n.length<=x.c)):FlAt (orO O f R') w' f R' cs ps' d s':=
 h.up1 t ho hb ro (by rw[hc];exact h.h.ec) (fun c hc=>.inl hc) hp pa
theorem zkl(d:Ru.Die)(s:St)(h:Int)(e:En):cmdV d s (.at_ h e)=if ¬(s.b.hour+1<=h/\h<=1048575) then .error 7
  else if 8<=s.plans.length then .error 9
  else .ok (⟨s.b,putP ⟨h,s.planned,e⟩ s.plans,s.planned+1⟩,rep [wd zc6,.n ((s.plans.length:Int)+1)]):=rfl
theorem zq6(O:Nat->Prop)(w:World)(f:Nat)(R:Nat->Rw)(cs:List Cu.Cut)(ps:List Pq)(d:Ru.Die)(s:St)(A:Option Addr)(c:Nat)(h:Int)(e:En)(hp:Pre O w f R cs ps d s A c e.n)(hh:0<=h/\h<10000000000000) :
  Calls Tryz.prog 68 #[.pointer (some ⟨f,0,none⟩),.int .i64 h,.agg #[.int .i64 e.n.length,.func (.func (vbF e.v)) #[] #[],.bool e.v.clock,.slice A e.n.length c]] w (RetF O w f R d (cmdV d s (.at_ h e))):=by
 obtain⟨A0,c0,A1,c1,A2,c2,A3,c3,A4,c4,A5,c5,A6,c6,hs⟩:=hp.fl.sees
 have HP:=qG hp
 have HS:=qG hs
 have ak:=qG hs.np
 have HH:=qG hh
 have ac:=qG ((Mid.sees hp.fl hs).x.next (nxA w (.cells #[.int .i64 e.n.length,.func (.func (vbF e.v)) #[] #[],.bool e.v.clock,.slice A e.n.length c] 143)))
 have ag:=qG (hp.fl.below (nxA w (.cells #[.int .i64 e.n.length,.func (.func (vbF e.v)) #[] #[],.bool e.v.clock,.slice A e.n.length c] 143)))
 have ae:=qG (Bx.new w #[.int .i64 e.n.length,.func (.func (vbF e.v)) #[] #[],.bool e.v.clock,.slice A e.n.length c] 143)
 have af:=qG (nxA w (.cells #[.int .i64 e.n.length,.func (.func (vbF e.v)) #[] #[],.bool e.v.clock,.slice A e.n.length c] 143))
 have ao:=qG hp.ok.b.hour
 clear hp hs
 go_enter Tryz.func68,Tryz.ntmps68
 go_upto_region 1 with fail
 generalize hV1:w.alloc (.cells #[.int .i64 e.n.length,.func (.func (vbF e.v)) #[] #[],.bool e.v.clock,.slice A e.n.length c] 143)=V1 at *
 obtain⟨be,aq⟩:∃ be,be=w.heap.size:=⟨_,rfl⟩
 rw[<- aq] at ae ⊢
 have aB:=qG (show ¬ zao f R be from fun k=>by have:=HP.o.fl.own.is_lt _ k;omega)
 clear hV1 aq
 replace ac:=qG (show Mid V1 V1 f R R (seL d s A0 c0 A1 c1 A2 c2 A3 c3 A4 c4 A5 c5 A6 c6) from⟨ag.o.own,ac.o,.refl _ _,fun _ _ x=>x⟩)
 have f0:=ac.o.x.c 0 _ rfl
 have a1:IntKind.i64.wrap (s.b.hour+1)=s.b.hour+1:=qF _ (by have:=ao.o;omega)
 have a2:wrap64 (s.b.hour+1)=s.b.hour+1:=IntWalk.wrap64_in _ (by have:=ao.o;omega)
 go_wp2_with fail
 refine(zam h (s.b.hour+1) 1048575 V1).mono ?_
 rintro e1 w' ⟨rfl,rfl⟩
 go_wp2_with fail
 rw[<- Bool.decide_and]
 refine(zlA (s.b.hour+1<=h/\h<=1048575) 7 V1).mono ?_
 rintro e1 w' ⟨rfl,⟨hq,rfl⟩|⟨hq,rfl⟩⟩
 .have HQ:=qG hq
  clear hq f0 a1 a2
  have f11:=ac.o.x.c 11 _ rfl
  go_wp2_with fail
  by_cases h8:8<=s.plans.length
  .rw[show decide ((s.plans.length:Int)<8)=false from decide_eq_false (by omega)]
   refine(zak 9 V1).mono ?_
   rintro e1 w' ⟨rfl,rfl⟩
   rw[show cmdV d s (.at_ h e)=.error 9 from by rw[zkl,if_neg (fun k=>k HQ.o),if_pos h8]]
   exact⟨rfl,zau HP.o.fl af.o rfl⟩
  .rw[show decide ((s.plans.length:Int)<8)=true from decide_eq_true (by omega)]
   refine(zat 9 V1).mono ?_
   rintro e1 w' ⟨rfl,rfl⟩
   have H8:=qG h8
   have aC:=qG (zd0 ac.o HP.o.fl.h.ro (show _=some (R 6).v from by rw[HS.o.e6];rfl) (by rw[ak.o];omega))
   have az:=qG (ac.o.x.c 12 _ rfl)
   have ar:=qG (ae.o.c 0 _ rfl)
   have au:=qG (ae.o.c 1 _ rfl)
   have aw:=qG (ae.o.c 2 _ rfl)
   have ax:=qG (ae.o.c 3 _ rfl)
   clear f11 h8
   go_upto_region 4 with fail
   refine wp_region_noPanic ?_
   refine wp_region_held_drew (S:=(fun W=>W.cell? ⟨f,12,none⟩=some (.int .i64 s.planned)/\W.cell? ⟨be,0,none⟩=some (.int .i64 e.n.length)/\W.cell? ⟨be,1,none⟩=some (.func (.func (vbF e.v)) #[] #[])/\W.cell? ⟨be,2,none⟩=some (.bool e.v.clock)/\W.cell? ⟨be,3,none⟩=some (.slice A e.n.length c))) (by kernel_rfl) ?_ (fun ah=>?_)
   ·(try dsimp only);exact⟨az.o,ar.o,au.o,aw.o,ax.o⟩
   refine ht 0 (h:=?_)
   refine ht 1 (h:=?_)
   refine ht 2 (h:=?_)
   refine ht 3 (h:=?_)
   refine ht 4 (h:=?_)
   refine ht 5 (h:=?_)
   refine ht 6 (h:=?_)
   refine ht 7 (h:=?_)
   refine ht 8 (h:=?_)
   refine ht 9 (h:=?_)
   refine r1 (i:=10) (by kernel_rfl) rfl fun K hK=>?_
   go_simp
   refine(zmY V1 V1.drew f R R R (seL d s A0 c0 A1 c1 A2 c2 A3 c3 A4 c4 A5 c5 A6 c6) ps (aC.o.below (Below.refl _ V1).drew) (⟨⟨h,s.planned,e⟩,A,c⟩:Pq) (by rw[ak.o];have:=H8.o;omega)).mono ?_;rintro e1 V2 ⟨rfl,R2,ay⟩;have aa:=qG ay;have ai:=qG (show ∀ o v,V1.cell? ⟨be,o,none⟩=some v->V2.cell? ⟨be,o,none⟩=some v from fun o v hv=>aa.o.m.cell aB.o hv);clear ay
   refine hK.out _ _ ?_ (fun ah=>?_)
   ·(try dsimp only);exact⟨aa.o.m.x.c 12 _ rfl,ai.o _ _ ar.o,ai.o _ _ au.o,ai.o _ _ aw.o,ai.o _ _ ax.o⟩
   clear hK K
   try simp only[qW]
   refine wpAnyH_done (by kernel_rfl) ?_ _
   refine NoPanic.normal ?_
   iterate 12 (try clear ah)
   generalize hV3:V2=V3 at *
   clear hV3
   obtain⟨A',c',ev,-⟩:=aa.o.form
   have hpl:(Hp.pushH ltP ps (⟨⟨h,s.planned,e⟩,A,c⟩:Pq)).length=s.plans.length+1:=by rw[(Hp.push_perm ltP ps (⟨⟨h,s.planned,e⟩,A,c⟩:Pq)).length_eq,qD,ak.o];rfl
   rw[hpl] at ev
   have aI:=qG hpl
   have aD:=qG ev
   have y12:=aa.o.m.x.c 12 _ rfl
   have z12:=aa.o.m.x.fr 12
   have am:=qG HP.o.ok.pn
   have b1:IntKind.i64.wrap (s.planned+1)=s.planned+1:=qF _ (by have:=am.o;omega)
   have b2:wrap64 (s.planned+1)=s.planned+1:=IntWalk.wrap64_in _ (by have:=am.o;omega)
   clear hpl ev
   go_upto_region 6 with fail
   have aj:=qG (aa.o.m.setF (j:=12) (by simp[seL]) (.int .i64 (s.planned+1)))
   generalize V3.setCell ⟨f,12,none⟩ (.int .i64 (s.planned+1))=V4 at *
   clear y12 z12 b1 b2
   have f11:V4.cell? ⟨f,11,none⟩=some (.slice A' (s.plans.length+1) c'):=by rw[<- aD.o];exact aj.o.x.c 11 _ rfl
   have aE:=zfv f A' (s.plans.length+1) c' V4 f11
   go_wp2_with fail
   refine(zd4 A' (s.plans.length+1) c' V4).mono ?_
   rintro e1 w' ⟨rfl,rfl⟩
   have y9:=aj.o.x.c 9 _ rfl
   have z9:=aj.o.x.fr 9
   clear f11 aE
   go_upto_region 7 with fail
   have ab:=qG (aj.o.setF (j:=9) (by simp[seL]) (.int .i64 ((s.plans.length:Int)+1)))
   generalize hV5:V4.setCell ⟨f,9,none⟩ (.int .i64 ((s.plans.length:Int)+1))=V5 at *
   clear hV5 y9 z9
   have y9:V5.cell? ⟨f,9,none⟩=some (.int .i64 ((s.plans.length:Int)+1)):=ab.o.x.c 9 _ rfl
   have aA:=qG (show ∀ x∈[Pa.w zc6,Pa.n ((s.plans.length:Int)+1)],x.ok from by simp only[List.forall_mem_cons];exact⟨by show _<=20;decide,⟨by omega,by have:=H8.o;omega⟩,fun x hx=>by cases hx⟩)
   go_wp2_with fail
   refine(zbf V5 [Pa.w zc6,Pa.n ((s.plans.length:Int)+1)] ((HP.o.env.next af.o).keep ab.o.k (fun b hb=>HP.o.o6 b (HP.o.fl.sub b hb))) (by simp) (by simp) aA.o).mono ?_
   rintro e V9 ⟨rfl,an⟩
   have aF:=qG an
   clear an
   go_wp2_with fail
   go_ret
   rw[show cmdV d s (.at_ h e)=.ok (⟨s.b,putP ⟨h,s.planned,e⟩ s.plans,s.planned+1⟩,rep [Pa.w zc6,Pa.n ((s.plans.length:Int)+1)]) from by rw[zkl,if_neg (fun k=>k HQ.o),if_neg H8.o];rfl]
   have aG:(putP ⟨h,s.planned,e⟩ s.plans).length=s.plans.length+1:=by rw[(zbV ⟨h,s.planned,e⟩ s.plans).length_eq];rfl
   have ht:=((show Turn w V1 f R R from Turn.of_below af.o)).trans ab.o.turn
   refine zbu (ag.o.upP (ps':=Hp.pushH ltP ps (⟨⟨h,s.planned,e⟩,A,c⟩:Pq)) (s':=⟨s.b,putP ⟨h,s.planned,e⟩ s.plans,s.planned+1⟩) ab.o.turn ab.o.o ?_ rfl ?_ ?_ ?_) ht aF.o rfl
   .exact zcn ((congrArg Rw.v (aa.o.e 0 (by decide))).trans HS.o.e0) ((congrArg Rw.v (aa.o.e 1 (by decide))).trans HS.o.e1) ((congrArg Rw.v (aa.o.e 2 (by decide))).trans HS.o.e2) ((congrArg Rw.v (aa.o.e 3 (by decide))).trans HS.o.e3) ((congrArg Rw.v (aa.o.e 4 (by decide))).trans HS.o.e4) ((congrArg Rw.v (aa.o.e 5 (by decide))).trans HS.o.e5) rfl (by rw[aG];exact ab.o.x)
   .exact zf4 HP.o.fl.h.ro aa.o.e aa.o.r
   .exact HP.o.fl.h.hp.push am.o.1 (⟨⟨h,s.planned,e⟩,A,c⟩:Pq) rfl
   .intro x hx
    rcases List.mem_append.1 ((Hp.push_perm ltP ps (⟨⟨h,s.planned,e⟩,A,c⟩:Pq)).mem_iff.1 hx) with hx|hx
    .exact .inl hx
    .rw[List.mem_singleton.1 hx]
     have aH:=HP.o.na.keep (O':=O) (P:=fun _=>False) (.of_below af.o) (fun _ _ q=>q.elim) (fun _ _ q=>q)
     exact .inr ⟨aH.keep ab.o.turn.k (fun b _ q=>ag.o.sub b q) (ag.o.oldO ab.o.turn),HP.o.nc⟩
 .rw[show cmdV d s (.at_ h e)=.error 7 from by rw[zkl,if_pos hq]]
  exact⟨rfl,zau HP.o.fl af.o rfl⟩
def RDr(w:World)(f:Nat)(R:Nat->Rw)(L:List Value)(ps:List Pq)(lv iv:Value)(W:World):Prop:=∃(k last:Nat) (p:Pn),iv=.int .i64 k/\lv=.int .i64 last/\k<=ps.length/\(ps.map Pq.p)[last]?=some p/\zcw last p.num k ((ps.map Pq.p).drop k)=zbx (ps.map Pq.p)/\Mid w W f R R L
theorem zoO(O:Nat->Prop)(w:World)(f:Nat)(R:Nat->Rw)(cs:List Cu.Cut)(ps:List Pq)(d:Ru.Die)(s:St)(A:Option Addr)(c:Nat)(hp:Pre O w f R cs ps d s A c []) :
  Calls Tryz.prog 186 #[.pointer (some ⟨f,0,none⟩),.slice A 0 c] w (RetF O w f R d (cmdV d s (.do_ ⟨.drop,[]⟩))):=by
 obtain⟨A0,c0,A1,c1,A2,c2,A3,c3,A4,c4,A5,c5,A6,c6,hs⟩:=hp.fl.sees
 have HP:=qG hp
 have HS:=qG hs
 clear hp hs
 have az:=qG (Mid.sees HP.o.fl HS.o)
 have aa:=qG HS.o.np
 have ai:=qG HP.o.ok.n8
 have f11:=az.o.x.c 11 _ rfl
 by_cases h0:s.plans=[]
 .have hl:(s.plans.length:Int)=0:=by rw[h0];rfl
  have hd:decide ((0:Int)<(s.plans.length:Int))=false:=decide_eq_false (by omega)
  have aR:s.plans.length=0:=by omega
  go_enter Tryz.func186,Tryz.ntmps186
  go_wp2_with fail
  refine(zak 4 w).mono ?_
  rintro e w' ⟨rfl,rfl⟩
  rw[show cmdV d s (.do_ ⟨.drop,[]⟩)=.error 4 from if_pos h0]
  exact⟨rfl,zau HP.o.fl (Below.refl _ _) rfl⟩
 .have ao:0<s.plans.length:=List.length_pos_iff.2 h0
  have hd:decide ((0:Int)<(s.plans.length:Int))=true:=decide_eq_true (by omega)
  have H0:=qG h0
  have aE:=qG ao
  have aG:=qG (show RDr w f R (seL d s A0 c0 A1 c1 A2 c2 A3 c3 A4 c4 A5 c5 A6 c6) ps (.int .i64 0) (.int .i64 0) w from by
   have aq:0<ps.length:=by rw[aa.o];exact ao
   obtain⟨x,hx⟩:=Hp.get_of aq
   refine⟨0,0,x.p,rfl,rfl,Nat.zero_le _,by rw[List.getElem?_map,hx];rfl,?_,az.o⟩
   rw[List.drop_zero]
   cases hq:ps.map Pq.p with
  |nil=>have:=congrArg List.length hq;simp at this;rw[this] at aq;cases aq
  |cons y l=>
    have:y=x.p:=by
     have h1:(ps.map Pq.p)[0]?=some x.p:=by rw[List.getElem?_map,hx];rfl
     rw[hq] at h1;exact Option.some.inj h1
    subst this
    show(if x.p.num<x.p.num then _ else zcw 0 x.p.num 1 l)=zcw 0 x.p.num 1 l
    rw[if_neg (by omega)])
  clear h0
  go_enter Tryz.func186,Tryz.ntmps186
  go_wp2_with fail
  refine(zat 4 w).mono ?_
  rintro e w' ⟨rfl,rfl⟩
  go_upto_region 4 with fail
  clear f11 hd
  go_loopw [5,22] (fun lv iv wr=>RDr w f R (seL d s A0 c0 A1 c1 A2 c2 A3 c3 A4 c4 A5 c5 A6 c6) ps lv iv wr) (fun _ iv _=>s.plans.length-(intOf iv).toNat)
  case atStart=>exact aG.o
  case round=>
   obtain⟨k,last,p,rfl,rfl,hk,aj,aA,hm⟩:=hrel
   have HM:=qG hm
   have ak:=qG aj
   have ar:=qG aA
   rw[aa.o] at hk
   clear hm aj aA
   by_cases hlt:k<s.plans.length
   .have au:=qG (zd0 HM.o HP.o.fl.h.ro (show _=some (R 6).v from by rw[HS.o.e6];rfl) (by rw[aa.o];have:=ai.o;omega))
    have aw:last<ps.length:=by have:=(qO.1 ak.o).1;simpa using this
    obtain⟨g,c',x,y,ev,hx,hy,px,py⟩:=au.o.two (i:=k) (k:=last) (by rw[aa.o];exact hlt) aw
    have hp:p=y.p:=by have:=ak.o;rw[List.getElem?_map,hy] at this;exact(Option.some.inj this).symm
    subst hp
    have aH:A6=some ⟨g,0,none⟩/\c6=c'+1:=by have:=HS.o.e6;rw[ev] at this;injection this with q1 _ q2;exact⟨q1.symm,q2.symm⟩
    obtain⟨rfl,rfl⟩:=aH
    have ae:=qG (show zcw last y.p.num k ((ps.map Pq.p).drop k)=if y.p.num<x.p.num then zcw k x.p.num (k+1) ((ps.map Pq.p).drop (k+1)) else zcw last y.p.num (k+1) ((ps.map Pq.p).drop (k+1)) from by
     have h1:k<(ps.map Pq.p).length:=by rw[List.length_map,aa.o];exact hlt
     have h2:(ps.map Pq.p)[k]=x.p:=by rw[List.getElem_map];rw[qN (by rw[aa.o];exact hlt)] at hx;rw[Option.some.inj hx]
     rw[List.drop_eq_getElem_cons h1,h2]
     rfl)
    have aI:=qG (show(ps.map Pq.p)[k]?=some x.p from by rw[List.getElem?_map,hx];rfl)
    have aJ:=qG py
    obtain⟨x0,x1,x2,x3,x4,x5⟩:=px
    have aS:(k:Int)<(s.plans.length:Int):=by omega
    have aB:=qG (nxA wr (.cells #[.int .i64 x.p.hour,.int .i64 x.p.num,.int .i64 x.p.e.n.length,.func (.func (vbF x.p.e.v)) #[] #[],.bool x.p.e.v.clock,.slice x.A x.p.e.n.length x.c] 251))
    have aK:=qG (Bx.new wr #[.int .i64 x.p.hour,.int .i64 x.p.num,.int .i64 x.p.e.n.length,.func (.func (vbF x.p.e.v)) #[] #[],.bool x.p.e.v.clock,.slice x.A x.p.e.n.length x.c] 251)
    clear hx hy py ev
    go_upto_region 6 with fail
    generalize wr.alloc (.cells #[.int .i64 x.p.hour,.int .i64 x.p.num,.int .i64 x.p.e.n.length,.func (.func (vbF x.p.e.v)) #[] #[],.bool x.p.e.v.clock,.slice x.A x.p.e.n.length x.c] 251)=V at *
    have ax:=qG (HM.o.below aB.o)
    have q1:=aK.o.c 1 _ rfl
    have q2:V.cell? ⟨g,last*6+1,none⟩=some (.int .i64 y.p.num):=(aJ.o.below aB.o).2.1
    have q3:=ax.o.x.c 11 _ rfl
    have aQ:(last:Int)<(s.plans.length:Int):=by have:=aa.o;omega
    clear x0 x1 x2 x3 x4 x5
    have aT:IntKind.i64.wrap ((k:Int)+1)=(k:Int)+1:=qF _ (by have:=ai.o;omega)
    by_cases ac:y.p.num<x.p.num
    .have hd:decide (y.p.num<x.p.num)=true:=decide_eq_true ac
     rw[if_pos ac] at ae
     clear ac
     go_wp2_with (go_quiet (fail))
     exact⟨⟨k+1,k,x.p,by go_num,rfl,by rw[aa.o];omega,aI.o,by rw[<- ae.o];exact ar.o,ax.o.below (by first|exact(Below.refl _ V).drew|exact Le.zbz (Below.refl _ V) _)⟩,by simp[intOf];omega⟩
    .have hd:decide (y.p.num<x.p.num)=false:=decide_eq_false ac
     rw[if_neg ac] at ae
     clear ac
     go_wp2_with (go_quiet (fail))
     exact⟨⟨k+1,last,y.p,by go_num,rfl,by rw[aa.o];omega,ak.o,by rw[<- ae.o];exact ar.o,ax.o.below (by first|exact(Below.refl _ V).drew|exact Le.zbz (Below.refl _ V) _)⟩,by simp[intOf];omega⟩
   .have aL:k=s.plans.length:=by omega
    have aM:=qG (show last=zbx (ps.map Pq.p) from by
     have h1:=ar.o
     rw[List.drop_of_length_le (by rw[List.length_map,aa.o];omega)] at h1
     exact h1)
    have aw:last<ps.length:=by have:=(qO.1 ak.o).1;simpa using this
    obtain⟨m,am⟩:∃ m,s.plans.length=m+1:=⟨s.plans.length-1,by have:=aE.o;omega⟩
    have an:=qG am
    have au:=qG (zd0 HM.o HP.o.fl.h.ro (show _=some (R 6).v from by rw[HS.o.e6];rfl) (by rw[aa.o];have:=ai.o;omega))
    have ah:=qG (show(Hp.remH ltP ps last).length=ps.length/\HpOk Pq.p ((Hp.remH ltP ps last).take (ps.length-1)) (s.plans.eraseIdx (zbx s.plans)) s.planned from by rw[aM.o];exact HP.o.fl.h.hp.rem H0.o)
    have aN:=qG (show(Hp.remH ltP ps last).Perm ps from by
     unfold Hp.remH
     split
     .exact .refl _
     .split
      .exact(Hp.downL_perm ltP _ _ _ _ (qQ _)).trans (Hp.swapL_perm _ _ _)
      .exact(Hp.upL_perm ltP _ _).trans ((Hp.downL_perm ltP _ _ _ _ (qQ _)).trans (Hp.swapL_perm _ _ _)))
    obtain⟨z,hz⟩:=Hp.get_of (l:=Hp.remH ltP ps last) (k:=m) (by rw[ah.o.1,aa.o,am];omega)
    have HZ:=qG hz
    have aC:=qG (zoq w wr f R R R (seL d s A0 c0 A1 c1 A2 c2 A3 c3 A4 c4 A5 c5 A6 c6) ps au.o m last (by rw[aa.o];exact am) aw z hz)
    clear hz am hk aL
    go_wp2_with fail
    refine aC.o.mono ?_
    rintro e V2 ⟨rfl,R2,af⟩
    have ab:=qG af
    obtain⟨A',c',ev,-⟩:=af.form
    have aO:=qG (show((Hp.remH ltP ps last).take m).length=m from by rw[List.length_take,ah.o.1,aa.o,an.o];omega)
    rw[aO.o] at ev
    have f11:V2.cell? ⟨f,11,none⟩=some (.slice A' m c'):=by rw[<- ev];exact af.c11
    have y9:=af.m.x.c 9 _ rfl
    have z9:=af.m.x.fr 9
    clear af ev aC
    go_upto_region 11 with fail
    have ag:=qG (ab.o.m.setF (j:=9) (by simp[seL]) (.int .i64 (m:Int)))
    generalize V2.setCell ⟨f,9,none⟩ (.int .i64 (m:Int))=V5 at *
    clear f11 y9 z9
    have y9:V5.cell? ⟨f,9,none⟩=some (.int .i64 (m:Int)):=ag.o.x.c 9 _ rfl
    have aF:=qG (show ∀ x∈[Pa.w zc6,Pa.n ((m:Int))],x.ok from by simp only[List.forall_mem_cons];exact⟨by show _<=20;decide,⟨by omega,by have:=ai.o;have:=an.o;omega⟩,fun x hx=>by cases hx⟩)
    go_wp2_with fail
    refine(zbf V5 [Pa.w zc6,Pa.n ((m:Int))] (ag.o.env HP.o) (by simp) (by simp) aF.o).mono ?_
    rintro e V9 ⟨rfl,ay⟩
    have aP:=qG ay
    clear ay
    go_wp2_with fail
    go_ret
    have aD:(s.plans.eraseIdx (zbx s.plans)).length=m:=by rw[<- ah.o.2.len,List.length_take,ah.o.1,aa.o];have:=an.o;omega
    rw[show cmdV d s (.do_ ⟨.drop,[]⟩)=.ok (⟨s.b,s.plans.eraseIdx (zbx s.plans),s.planned⟩,rep [Pa.w zc6,Pa.n ((m:Int))]) from by rw[<- aD];exact if_neg H0.o]
    refine zbu (HP.o.fl.upP (ps':=(Hp.remH ltP ps last).take m) (s':=⟨s.b,s.plans.eraseIdx (zbx s.plans),s.planned⟩) ag.o.turn ag.o.o ?_ rfl ?_ ?_ ?_) ag.o.turn aP.o rfl
    .exact zcn ((congrArg Rw.v (ab.o.e 0 (by decide))).trans HS.o.e0) ((congrArg Rw.v (ab.o.e 1 (by decide))).trans HS.o.e1) ((congrArg Rw.v (ab.o.e 2 (by decide))).trans HS.o.e2) ((congrArg Rw.v (ab.o.e 3 (by decide))).trans HS.o.e3) ((congrArg Rw.v (ab.o.e 4 (by decide))).trans HS.o.e4) ((congrArg Rw.v (ab.o.e 5 (by decide))).trans HS.o.e5) rfl (by rw[aD];exact ag.o.x)
    .exact zf4 HP.o.fl.h.ro ab.o.e ab.o.r
    .have h1:=ah.o.2;rw[aa.o] at h1;rw[show m=s.plans.length-1 by have:=an.o;omega];exact h1
    .intro x hx
     have h1:=List.mem_of_mem_take hx
     exact .inl ((aN.o.mem_iff).1 h1)
end
end Go.Proofs.YtankkcbofgighaaGreatDoor
