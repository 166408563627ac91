import Derived.Test.YtankkcbofgighaaGreatDoorL7
import Derived.Maps.AppendAt
import Derived.KernelRfl
set_option linter.all false
set_option maxRecDepth 100000
set_option maxHeartbeats 40000000
namespace Go.Proofs.YtankkcbofgighaaGreatDoor
namespace Cu
open Go.RowKit
noncomputable def zgW(c:Cut)(a b:Int)(A:Option Addr)(cap:Nat):Cut:=⟨if zbb c a b=0 then c.wide else 0,if zbb c a b=0 then c.high else 0,za6 c a b,A,cap⟩
def zgA(c:Cut)(a b:Int)(w:World)(e:Ending)(w':World):Prop:=∃(j:Cut) (A:Option Addr) (cap:Nat),j=zgW c a b A cap/\e=.returned (.tuple #[.agg #[.int .i64 j.wide,.int .i64 j.high,.slice j.A j.piece.length j.c],.int .i64 (zbb c a b)])/\CutAt w' w'.heap.size j/\(∀ g,A=some g->w.heap.size<=g.block)/\Below w.heap.size w w'
theorem znW{w:World}{base:Nat}{e:TypeId}{v:Value}{l:List Int}(hn:0<l.length)(h:w.ownsRow base e 1 v l.length (l.map (Value.int .i64))) :
  ∃ g c,v=.slice (some ⟨g,0,none⟩) l.length c/\l.length<=c/\base<=g/\IBlk w g l.length (fun j=>l.getD j 0):=by
 obtain⟨g,cap,rfl,hb,hlt⟩:=h.form hn
 rcases h.2 with ⟨e1,_⟩|⟨g',cap',cur,e1,_,hh,aa,_⟩
 .cases e1
 .injection e1 with e1 _ e2
  injection e1 with e1
  injection e1 with e1
  subst e1 e2
  refine⟨g,cap,rfl,aa,hb,hlt,fun j hj=>?_,fun j=>h.frozenAt j⟩
  rw[h.cellAt j (by simpa using hj),List.getElem?_map,qN hj,za4 hj];rfl
def RetC(l:List Int)(w:World)(e:Ending)(w':World):Prop:=∃ g cap,e=.returned (.slice (some ⟨g,0,none⟩) l.length cap)/\w.heap.size<=g/\IBlk w' g l.length (fun j=>l.getD j 0)/\Below w.heap.size w w'
theorem zdL(b off c:Nat)(l:List Int)(w:World)(hn:0<l.length/\l.length<=1000)(h:At w w.heap.size 1 zad (some ⟨b,off,none⟩) l) :
  Calls Tryz.prog 101 #[.slice (some ⟨b,off,none⟩) l.length c] w (RetC l w):=by
 obtain⟨i0,hi,ah,ai,aj⟩:=info_parts zch
 have ag:=fun W=>Lib.run_eql_slice_nil (P:=Tryz.prog) W 35 3 (some ⟨b,off,none⟩) l.length c 0 0 Tryz.underlying35
 have ab:=World.ownsRow_lit (base:=w.heap.size) (e:=3) (size:=1) w #[] 0 (qQ _) (by decide) rfl
 have ak:∀ l:List Int,l.flatMap zad=l.map (Value.int .i64):=fun l=>by
  induction l with
 |nil=>rfl
 |cons x l ih=>rw[List.flatMap_cons,ih];rfl
 have aa:=At.news (cells:=zad) (size:=1) (fun _=>rfl) (h.below (nxA w (.cells #[] 3)))
 rw[ak] at aa
 clear h
 go_enter Tryz.func101,Tryz.ntmps101
 go_wp2_with (at_builtin;refine wpList_append_own _ rfl (.tmp 5) (.tmp 6) 35 rfl w.heap.size 3 i0 (.int .i64 0) 1 8 Tryz.underlying35 hi ah ai aj rfl (by decide) _ 0 [] rfl ab ⟨b,off,none⟩ l.length c (l.map (Value.int .i64)) rfl (by simp) aa (by simp[Value.oneCell']) (by unfold maxLen;omega) (by omega) (by simp) ?_;intro v' w' ac ae _)
 have af:w'.ownsRow w.heap.size 3 1 v' l.length (l.map (Value.int .i64)):=by simpa using ac
 have am:Below w.heap.size w w':=((Below.refl _ _).alloc (qQ _) _).grown ae (by simp) (fun k hk=>by have:=ab.lt k hk;omega)
 clear ab ac ae aa ag
 go_wp2
 go_ret
 obtain⟨g,cc,rfl,h1,h2,h3⟩:=znW hn.1 af
 exact⟨g,cc,rfl,h2,h3,am⟩
structure RJ(c:Cut)(g go:Nat)(cap:Nat)(lo hi:Int)(W0 W:World)(i:Nat):Prop where
 hl:i<=c.piece.length
 bl:IBlk W g c.piece.length (fun j=>if j<i then jn lo hi (c.piece.getD j 0) else c.piece.getD j 0)
 ox:Bx W go [.int .i64 c.wide,.int .i64 c.high,.slice (some ⟨g,0,none⟩) c.piece.length cap]
 b:Below W0.heap.size W0 W
theorem ziP{w:World}{b:Nat}{a0 a1 a2:Value}(h:Bx w b [a0,a1,a2]):(loadVar 57 ⟨b,0,none⟩).run Tryz.prog w=.ok (.agg #[a0,a1,a2]) w:=by
 have c0:=h.c 0 _ rfl
 have c1:=h.c 1 _ rfl
 have c2:=h.c 2 _ rfl
 clear h
 go_simp
theorem zdb{c:Cut}{a b x:Int}{w w':World}(h:zbb c a b=x)(hx:x≠0)(hb:Below w.heap.size w w'):zgA c a b w (.returned (.tuple #[.agg #[.int .i64 0,.int .i64 0,.slice none 0 0],.int .i64 x])) w':=by
 have h0:zbb c a b≠0:=by rw[h];exact hx
 refine⟨_,none,0,rfl,?_,⟨?_,?_⟩,(fun g h=>by cases h),hb⟩
 .unfold zgW za6
  rw[if_neg h0,if_neg h0,if_neg h0,h];rfl
 .show At w' w'.heap.size 1 zad none (za6 c a b)
  rw[show za6 c a b=[] from by unfold za6;rw[if_neg h0]]
  exact At.nil
 .show(za6 c a b).length<=9223372036854775807
  rw[show za6 c a b=[] from by unfold za6;rw[if_neg h0]]
  decide
theorem zlI{c:Cut}{a b lo hi:Int}{w w':World}{g cap:Nat}(h:zbb c a b=0)(hp:za6 c a b=c.piece.map (jn lo hi))(hl:c.piece.length<=1000)(bl:IBlk w' g c.piece.length (fun j=>if j<c.piece.length then jn lo hi (c.piece.getD j 0) else c.piece.getD j 0))(hb:Below w.heap.size w w')(hg:w.heap.size<=g) :
  zgA c a b w (.returned (.tuple #[.agg #[.int .i64 c.wide,.int .i64 c.high,.slice (some ⟨g,0,none⟩) c.piece.length cap],.int .i64 0])) w':=by
 refine⟨_,some ⟨g,0,none⟩,cap,rfl,?_,⟨?_,?_⟩,(fun a e=>by injection e with e;subst e;exact hg),hb⟩
 .unfold zgW
  simp only[h,if_true,hp,List.length_map]
 .show At w' w'.heap.size 1 zad (some ⟨g,0,none⟩) (za6 c a b)
  rw[hp]
  intro k x hx
  have hk:k<c.piece.length:=by have:=(qO.1 hx).1;simpa using this
  refine⟨g,0,rfl,bl.lt,fun j u hu=>?_⟩
  unfold zad at hu
  match j,hu with
 |0,hu=>
   injection hu with hu
   rw[<- hu,Nat.mul_one,Nat.zero_add,Nat.add_zero]
   have:=bl.cell k hk
   rw[if_pos hk] at this
   rw[this]
   rw[List.getElem?_map,qN hk] at hx
   injection hx with hx
   rw[<- hx,za4 hk]
 .show(za6 c a b).length<=9223372036854775807
  rw[hp,List.length_map];omega
theorem ziu(c:Cut)(a b:Int)(w:World)(ha:I64 a)(hb:I64 b)(hr:CutAt w w.heap.size c):Calls Tryz.prog 244 #[.agg #[.int .i64 c.wide,.int .i64 c.high,.slice c.A c.piece.length c.c],.int .i64 a,.int .i64 b] w (zgA c a b w):=by
 have n1:=nxA w (.cells #[.int .i64 c.wide,.int .i64 c.high,.slice c.A c.piece.length c.c] 57)
 have n2:=nxA (w.alloc (.cells #[.int .i64 c.wide,.int .i64 c.high,.slice c.A c.piece.length c.c] 57)) (.cells #[.int .i64 0,.int .i64 0,.slice none 0 0] 57)
 have aq:=qG ((Bx.new w #[.int .i64 c.wide,.int .i64 c.high,.slice c.A c.piece.length c.c] 57).next n2)
 have aH:=qG (Bx.new (w.alloc (.cells #[.int .i64 c.wide,.int .i64 c.high,.slice c.A c.piece.length c.c] 57)) #[.int .i64 0,.int .i64 0,.slice none 0 0] 57)
 have az:=qG (n1.trans (n2.mono n1.size))
 have aI:=qG (hr.next az.o)
 simp only[World.size_alloc] at aH
 have HJ:=qG (show zbb c a b=if openE c a≠0 then openE c a else if inS b 0 (zag c)=false\/a=b then 2 else if edgesR c b a=0 then 6 else 0 from rfl)
 have bi:=qG ha
 have bj:=qG hb
 clear hr n1 n2 ha hb
 go_enter Tryz.func244,Tryz.ntmps244
 go_upto_region 1 with fail
 generalize(w.alloc (.cells #[.int .i64 c.wide,.int .i64 c.high,.slice c.A c.piece.length c.c] 57)).alloc (.cells #[.int .i64 0,.int .i64 0,.slice none 0 0] 57)=V at *
 have c0:=aq.o.c 0 _ rfl
 have c1:=aq.o.c 1 _ rfl
 have c2:=aq.o.c 2 _ rfl
 go_wp2_with fail
 refine(zcU c a V aI.o).mono ?_
 rintro e W ⟨ho,ar⟩
 clear c0 c1 c2
 have aA:=qG (aq.o.next ar)
 have au:=qG (aH.o.next ar)
 have aJ:=qG (aI.o.next ar)
 have aj:=qG (az.o.trans (ar.mono az.o.size))
 clear aq aH aI az ar
 rcases ho with ho|ho
 .obtain⟨h0,rfl⟩:=ho
  have hn:=nxA W (.cells #[.int .i64 0,.int .i64 0,.slice none 0 0,.map none] 156)
  have HX:=qG (aA.o.next hn)
  have HY:=qG (au.o.next hn)
  have HB:=qG (aj.o.trans (hn.mono aj.o.size))
  have HE:=qG (show zbb c a b=openE c a from by rw[HJ.o,if_pos h0])
  have e0:(openE c a==0)=false:=by simp[h0]
  have H0:=qG h0
  have f0:=HY.o.fr 0
  have f1:=HY.o.fr 1
  have f2:=HY.o.fr 2
  have d0:=HY.o.c 0 _ rfl
  have d1:=HY.o.c 1 _ rfl
  have d2:=HY.o.c 2 _ rfl
  have aa:=qG (ziP (HY.o.setAll [.int .i64 0,.int .i64 0,.slice none 0 0] rfl))
  have ak:=qG (zac (b:=w.heap.size+1) (B:=w.heap.size) (by omega) [.int .i64 0,.int .i64 0,.slice none 0 0] 0 HB.o)
  clear h0 hn aA au aJ aj
  generalize openE c a=x at *
  go_wp2_with fail
  ((try simp only[Exit.inBlock,Exit.then]);refine bodyPost_ret (zah rfl rfl aa.o) rfl ?_)
  exact zdb HE.o H0.o ak.o
 .obtain⟨h0,bm,rfl,bk,aK⟩:=ho
  have HG:=qG (zgL h0)
  have hn:=nxA W (.cells #[.int .i64 c.wide,.int .i64 c.high,.slice c.A c.piece.length c.c,.map (some (bm))] 156)
  have HX:=qG (aA.o.next hn)
  have HY:=qG (au.o.next hn)
  have HR:=qG (aJ.o.next hn)
  have HB:=qG (aj.o.trans (hn.mono aj.o.size))
  have am:=qG (Bx.new W #[.int .i64 c.wide,.int .i64 c.high,.slice c.A c.piece.length c.c,.map (some (bm))] 156)
  have aV:=qG (MapIs.next aK hn)
  have bC:=zb0 HG.o.ok
  have aL:=qG (show zbb c a b=if inS b 0 (zag c)=false\/a=b then 2 else if edgesR c b a=0 then 6 else 0 from by rw[HJ.o,if_neg (by rw[h0];decide)])
  have bD:IntKind.i64.wrap (zag c+1-1)=zag c:=by rw[Int.add_sub_cancel];exact qF _ (by omega)
  have bE:IntKind.i64.wrap (zag c)=zag c:=qF _ (by omega)
  obtain⟨ga,aB⟩:∃ ga,ga=W.heap.size:=⟨_,rfl⟩
  rw[<- aB] at am
  have bF:=qG (show w.heap.size+1<ga from by rw[aB];exact au.o.lt)
  clear h0 bk aK hn aA au aJ aj HJ
  go_upto_region 2 with fail
  rw[<- aB]
  clear aB
  generalize W.alloc (.cells #[.int .i64 c.wide,.int .i64 c.high,.slice c.A c.piece.length c.c,.map (some (bm))] 156)=W1 at *
  by_cases h2:inS b 0 (zag c)=false\/a=b
  .have HE:=qG (show zbb c a b=2 from by rw[aL.o,if_pos h2])
   have f0:=HY.o.fr 0
   have f1:=HY.o.fr 1
   have f2:=HY.o.fr 2
   have d0:=HY.o.c 0 _ rfl
   have d1:=HY.o.c 1 _ rfl
   have d2:=HY.o.c 2 _ rfl
   have aa:=qG (ziP (HY.o.setAll [.int .i64 0,.int .i64 0,.slice none 0 0] rfl))
   have ak:=qG (zac (b:=w.heap.size+1) (B:=w.heap.size) (by omega) [.int .i64 0,.int .i64 0,.slice none 0 0] 0 HB.o)
   cases h3:inS b 0 (zag c)
   .clear h2
    go_wp2_with (go_at_call 140;(with_reducible refine(zam _ _ _ _).mono ?_);rintro e w' ⟨rfl,rfl⟩)
    ((try simp only[Exit.inBlock,Exit.then]);refine bodyPost_ret (zah rfl rfl aa.o) rfl ?_)
    exact zdb HE.o (by decide) ak.o
   .have h4:a=b:=h2.resolve_left (by rw[h3];simp)
    have e4:(a==b)=true:=by simp[h4]
    clear h2
    go_wp2_with (go_at_call 140;(with_reducible refine(zam _ _ _ _).mono ?_);rintro e w' ⟨rfl,rfl⟩)
    ((try simp only[Exit.inBlock,Exit.then]);refine bodyPost_ret (zah rfl rfl aa.o) rfl ?_)
    exact zdb HE.o (by decide) ak.o
  .have h3:inS b 0 (zag c)=true:=by
    cases h3:inS b 0 (zag c) with
   |true=>rfl
   |false=>exact absurd (.inl h3) h2
   have h4:a≠b:=fun h=>h2 (.inr h)
   have e4:(a==b)=false:=by simp[h4]
   have aM:=qG (show zbb c a b=if edgesR c b a=0 then 6 else 0 from by rw[aL.o,if_neg h2])
   have aN:=qG h4
   have q0:=am.o.c 0 _ rfl
   have q1:=am.o.c 1 _ rfl
   have q2:=am.o.c 2 _ rfl
   have q3:=am.o.c 3 _ rfl
   clear h2 h4 aL
   go_wp2_with (go_at_call 140;(with_reducible refine(zam _ _ _ _).mono ?_);rintro e w' ⟨rfl,rfl⟩)
   refine(zij c bm W1 HG.o.ok aV.o).mono ?_
   rintro e W2 ⟨be,rfl,bp,aW,aw⟩
   obtain⟨l,hl⟩:=zjk a b bi.o bj.o
   have aC:=(MapIs.look (p:=((a,b):Pt)) aW zc9 zbK zds zdk hl).1
   have aD:=zoK c (a,b)
   dsimp only at aD
   rw[if_pos aN.o] at aD
   rw[show((edgO c (a,b)).elim (vvI 0) vvI)=.int .i64 ((edgO c (a,b)).getD 0) by cases edgO c (a,b) <;> rfl,aD] at aC
   unfold kv2 at aC
   have aO:=qG (HX.o.next aw)
   have ab:=qG (HY.o.next aw)
   have aX:=qG (HR.o.next aw)
   have aP:=qG (HB.o.trans (aw.mono HB.o.size))
   clear aW aw bp hl aD q0 q1 q2 q3 HX HY HR HB am aV
   by_cases h5:edgesR c b a=0
   .have HE:=qG (show zbb c a b=6 from by rw[aM.o,if_pos h5])
    rw[h5] at aC
    have f0:=ab.o.fr 0
    have f1:=ab.o.fr 1
    have f2:=ab.o.fr 2
    have d0:=ab.o.c 0 _ rfl
    have d1:=ab.o.c 1 _ rfl
    have d2:=ab.o.c 2 _ rfl
    have aa:=qG (ziP (ab.o.setAll [.int .i64 0,.int .i64 0,.slice none 0 0] rfl))
    have ak:=qG (zac (b:=w.heap.size+1) (B:=w.heap.size) (by omega) [.int .i64 0,.int .i64 0,.slice none 0 0] 0 aP.o)
    clear h5
    go_wp2_with fail
    ((try simp only[Exit.inBlock,Exit.then]);refine bodyPost_ret (zah rfl rfl aa.o) rfl ?_)
    exact zdb HE.o (by decide) ak.o
   .have HE:=qG (show zbb c a b=0 from by rw[aM.o,if_neg h5])
    have e5:(edgesR c b a==0)=false:=by simp[h5]
    clear h5 aM
    generalize edgesR c b a=ev at *
    go_upto_region 8 with fail
    clear aC e5
    go_cut [1,2] (fun s1 s2 wx=>s1=.int .i64 (min a b)/\s2=.int .i64 (max a b)/\wx=W2)
    case first=>
     rcases Int.lt_or_gt_of_ne aN.o with h|h
     .have m1:=qG (show min a b=a by omega)
      have m2:=qG (show max a b=b by omega)
      go_wp2_with fail
      go_meet
      exact⟨by rw[m1.o],by rw[m2.o],rfl⟩
     .have m1:=qG (show min a b=b by omega)
      have m2:=qG (show max a b=a by omega)
      go_wp2_with fail
      go_meet
      exact⟨by rw[m1.o],by rw[m2.o],rfl⟩
    case rest=>
     obtain⟨rfl,rfl,rfl⟩:=hcut
     generalize wc=W3 at *
     have bq:0<=b/\b<=zag c:=by unfold inS at h3;simpa using h3
     have bu:=HG.o.pc
     have aE:=aN.o
     obtain⟨lo,aQ⟩:∃ lo,lo=min a b:=⟨_,rfl⟩
     obtain⟨hi,aR⟩:∃ hi,hi=max a b:=⟨_,rfl⟩
     have bG:0<=lo/\lo<hi/\hi<=39:=by omega
     have bv:=qG (show za6 c a b=c.piece.map (jn lo hi) from by unfold za6;rw[if_pos HE.o,aQ,aR])
     rw[<- aQ,<- aR]
     have aS:0<c.piece.length:=by
      have:=Int.mul_le_mul HG.o.ok.w.1 HG.o.ok.h.1 (by omega) (by have:=HG.o.ok.w;omega)
      have:=HG.o.ok.len
      omega
     have bA:c.piece.length<=144:=by
      have:=HG.o.ok.w
      have:=HG.o.ok.h
      have:=Int.mul_le_mul HG.o.ok.w.2 HG.o.ok.h.2 (show(0:Int)<=c.high by omega) (show(0:Int)<=12 by omega)
      have:=HG.o.ok.len
      omega
     have ax:=qG (show ∀ W:World,Below W3.heap.size W3 W->Calls Tryz.prog 101 #[.slice c.A c.piece.length c.c] W (RetC c.piece W) from fun W h=>by
      obtain⟨pb,off,eA,-⟩:=zb4 (aX.o.next h).pa aS
      have h6:=(aX.o.next h).pa
      rw[eA] at h6 ⊢
      exact zdL pb off c.c c.piece W ⟨aS,by omega⟩ h6)
     have HC:=qG (show ∀ W:World,Below W3.heap.size W3 W->(W.cell? ⟨w.heap.size,0,none⟩=some (.int .i64 c.wide)/\W.cell? ⟨w.heap.size,1,none⟩=some (.int .i64 c.high)/\W.cell? ⟨w.heap.size,2,none⟩=some (.slice c.A c.piece.length c.c)) from fun W h=>⟨(aO.o.next h).c 0 _ rfl,(aO.o.next h).c 1 _ rfl,(aO.o.next h).c 2 _ rfl⟩)
     have hc:Below W3.heap.size W3 W3.drew:=(Below.refl _ _).drew
     clear aQ aR bu bq aE h3 e4
     go_upto_region 9 with fail
     go_cut [11] (fun s11 wx=>∃(go g cap:Nat),s11=.pointer (some ⟨go,0,none⟩)/\Bx wx go [.int .i64 c.wide,.int .i64 c.high,.slice (some ⟨g,0,none⟩) c.piece.length cap]/\IBlk wx g c.piece.length (fun j=>c.piece.getD j 0)/\Below W3.heap.size W3 wx/\go≠g/\W3.heap.size<=go/\W3.heap.size<=g)
     case first=>
      refine wp_region_noPanic ?_
      refine wp_region_held_drew (S:=(fun W=>W.cell? ⟨w.heap.size,0,none⟩=some (.int .i64 c.wide)/\W.cell? ⟨w.heap.size,1,none⟩=some (.int .i64 c.high)/\W.cell? ⟨w.heap.size,2,none⟩=some (.slice c.A c.piece.length c.c))) (by kernel_rfl) ?_ (fun ac=>?_)
      ·(try dsimp only);exact HC.o _ hc
      refine ht 0 (h:=?_)
      refine ht 1 (h:=?_)
      refine ht 2 (h:=?_)
      refine ht 3 (h:=?_)
      refine ht 4 (h:=?_)
      refine ht 5 (h:=?_)
      refine wpAnyH_ready (rs:=[6,8]) (by kernel_rfl) (by simp) ?_
      refine zab rfl (fun K hK=>?_) (zab rfl (fun K hK=>?_) (AllReadyH.nil))
      go_simp
      (first|with_reducible refine(ax.o _ hc).mono ?_|refine(ax.o _ hc).mono ?_);rintro e w4 ⟨g,cap,rfl,ae,af,ah⟩;have ag:=qG af;have aT:=Nat.le_trans hc.size ae;have aY:=qG ae;replace hc:=hc.trans (ah.mono hc.size);(try replace SX:=qG (SX.o.next ah));clear ah af ae
      refine hK.out _ _ ?_ (fun ac=>?_)
      ·(try dsimp only);exact HC.o _ hc
      clear hK K
      try simp only[qW]
      refine ht 7 (h:=?_)
      refine r1 (i:=8) (by kernel_rfl) rfl fun K hK=>?_
      go_simp
      have aF:=hc.size;have an:=qG hc;(try have ay:=qG ag.o);have SX:=qG (bxOf hc #[.int .i64 0,.int .i64 0,.slice none 0 0] 57);(try replace ag:=qG (ag.o.next (nxA _ (.cells #[.int .i64 0,.int .i64 0,.slice none 0 0] 57))));replace hc:=hc.alloc hc.size (.cells #[.int .i64 0,.int .i64 0,.slice none 0 0] 57)
      refine hK.out _ _ ?_ (fun ac=>?_)
      ·(try dsimp only);exact HC.o _ hc
      clear hK K
      try simp only[qW]
      rotate_left
      go_simp
      have aF:=hc.size;have an:=qG hc;(try have ay:=qG ag.o);have SX:=qG (bxOf hc #[.int .i64 0,.int .i64 0,.slice none 0 0] 57);(try replace ag:=qG (ag.o.next (nxA _ (.cells #[.int .i64 0,.int .i64 0,.slice none 0 0] 57))));replace hc:=hc.alloc hc.size (.cells #[.int .i64 0,.int .i64 0,.slice none 0 0] 57)
      refine hK.out _ _ ?_ (fun ac=>?_)
      ·(try dsimp only);exact HC.o _ hc
      clear hK K
      try simp only[qW]
      refine r1 (i:=6) (by kernel_rfl) rfl fun K hK=>?_
      go_simp
      (first|with_reducible refine(ax.o _ hc).mono ?_|refine(ax.o _ hc).mono ?_);rintro e w4 ⟨g,cap,rfl,ae,af,ah⟩;have ag:=qG af;have aT:=Nat.le_trans hc.size ae;have aY:=qG ae;replace hc:=hc.trans (ah.mono hc.size);(try replace SX:=qG (SX.o.next ah));clear ah af ae
      refine hK.out _ _ ?_ (fun ac=>?_)
      ·(try dsimp only);exact HC.o _ hc
      clear hK K
      try simp only[qW]
      refine ht 7 (h:=?_)
      all_goals
       refine r1 (i:=9) (by kernel_rfl) rfl fun K hK=>?_
       (try rw[show W3.drew.heap.size=W3.heap.size from rfl] at SX);(try rw[show W3.drew.heap.size=W3.heap.size from rfl] at aF);have z0:=SX.o.c 0 _ rfl;have z1:=SX.o.c 1 _ rfl;have z2:=SX.o.c 2 _ rfl;have y0:=SX.o.fr 0;have y1:=SX.o.fr 1;have y2:=SX.o.fr 2;go_simp
       refine hK.out _ _ ?_ (fun ac=>?_)
       ·(try dsimp only);first|exact HC.o _ (an.o.alloc an.o.size _)|exact HC.o _ (zac aF [.int .i64 c.wide,.int .i64 c.high,.slice (some ⟨g,0,none⟩) c.piece.length cap] 0 hc)
       clear hK K
       try simp only[Act.put]
       refine wpAnyH_done (by kernel_rfl) ?_ _
       refine NoPanic.normal ?_
      iterate 11 (try clear ac)
      all_goals (go_wp2_with fail;go_meet)
      .have ae:=aY.o
       have bB:W3.heap.size+1<=g:=by simpa using ae
       exact⟨W3.heap.size,g,cap,rfl,SX.o.setAll [.int .i64 c.wide,.int .i64 c.high,.slice (some ⟨g,0,none⟩) c.piece.length cap] rfl,ag.o.of (Nat.le_of_eq (zay W3.heap.size [.int .i64 c.wide,.int .i64 c.high,.slice (some ⟨g,0,none⟩) c.piece.length cap] 0 w4).symm) (zcc W3.heap.size g (by omega) [.int .i64 c.wide,.int .i64 c.high,.slice (some ⟨g,0,none⟩) c.piece.length cap] 0 w4),zac aF [.int .i64 c.wide,.int .i64 c.high,.slice (some ⟨g,0,none⟩) c.piece.length cap] 0 hc,by omega,qQ _,aT⟩
      .exact⟨_,g,cap,rfl,Bx.new _ #[.int .i64 c.wide,.int .i64 c.high,.slice (some ⟨g,0,none⟩) c.piece.length cap] 57,ay.o.next (nxA _ _),an.o.alloc an.o.size _,(by have:=ay.o.lt;omega),an.o.size,aT⟩
     case rest=>
      obtain⟨go,g,cap,rfl,aU,af,aZ,aE,bh,a7⟩:=hcut
      clear HC ax hc
      have bw:=qG (show RJ c g go cap lo hi W3 wc 0 from⟨by omega,af.congr (fun k=>by rw[if_neg (by omega)]),aU,aZ⟩)
      have ao:=qG (show w.heap.size+1<go/\w.heap.size+1<g/\go≠g/\W3.heap.size<=g/\w.heap.size+1<W3.heap.size from⟨by have:=ab.o.lt;omega,by have:=ab.o.lt;omega,aE,a7,ab.o.lt⟩)
      have c2:=aU.c 2 _ rfl
      clear aU af aZ aE bh a7
      go_wp2_with fail
      clear c2
      go_loopw [64] (fun iv wr=>∃ i:Nat,iv=.int .i64 i/\RJ c g go cap lo hi W3 wr i) (fun iv _=>c.piece.length-(intOf iv).toNat)
      case atStart=>exact⟨0,rfl,bw.o⟩
      case round=>
       obtain⟨i,rfl,hj⟩:=hrel
       have bH:=hj.hl
       by_cases hlt:i<c.piece.length
       .have hx:=HG.o.ok.pc (c.piece.getD i 0) (by rw[za4 hlt];exact List.getElem_mem _)
        have e0:=hj.bl.cell i hlt
        rw[if_neg (Nat.lt_irrefl i)] at e0
        have f0:=hj.bl.free i
        have c2:=hj.ox.c 2 _ rfl
        have a8:=qG (fun(y:Int) (hy:jn lo hi (c.piece.getD i 0)=y)=>hj.bl.set_ (f':=fun j=>if j<i+1 then jn lo hi (c.piece.getD j 0) else c.piece.getD j 0) (x:=y) hlt (by rw[if_pos (Nat.lt_succ_self i)];exact hy) (fun k hk=>by
         by_cases h:k<i
         .rw[if_pos h,if_pos (by omega)]
         .rw[if_neg h,if_neg (by omega)]))
        have HJ:=qG hj
        obtain⟨x,aG⟩:∃ x,x=c.piece.getD i 0:=⟨_,rfl⟩
        have HX:=qG aG
        rw[<- aG] at hx e0
        have a9:∀ y,jn lo hi x=y->jn lo hi (c.piece.getD i 0)=y:=fun y h=>by rw[<- aG];exact h
        have ba:=qG a9
        have bf:=qG (show go≠g from ao.o.2.2.1)
        have bI:IntKind.i64.wrap (x-1)=x-1:=qF _ (by omega)
        clear hj aG a9
        go_upto_region 13 with fail
        by_cases h1:x=hi
        .have hy:jn lo hi x=lo:=by unfold jn;rw[if_pos h1]
         have HF:=qG (show RJ c g go cap lo hi W3 (wr.setCell ⟨g,i,none⟩ (.int .i64 lo)) (i+1) from⟨by omega,a8.o lo (ba.o lo hy),HJ.o.ox.other bf.o _ _,HJ.o.b.setCell (p:=⟨g,i,none⟩) ao.o.2.2.2.1 _⟩)
         have e1:(x==hi)=true:=by simp[h1]
         clear hy h1
         go_wp2_with fail
         exact⟨⟨i+1,by go_num,HF.o⟩,by simp[intOf];omega⟩
        .have e1:(x==hi)=false:=by simp[h1]
         by_cases h2:hi<x
         .have hy:jn lo hi x=x-1:=by unfold jn;rw[if_neg h1,if_pos h2]
          have HF:=qG (show RJ c g go cap lo hi W3 (wr.setCell ⟨g,i,none⟩ (.int .i64 (x-1))) (i+1) from⟨by omega,a8.o (x-1) (ba.o _ hy),HJ.o.ox.other bf.o _ _,HJ.o.b.setCell (p:=⟨g,i,none⟩) ao.o.2.2.2.1 _⟩)
          clear hy h1
          go_wp2_with fail
          exact⟨⟨i+1,by go_num,HF.o⟩,by simp[intOf];omega⟩
         .have hy:jn lo hi x=x:=by unfold jn;rw[if_neg h1,if_neg h2]
          have HF:=qG (show RJ c g go cap lo hi W3 wr (i+1) from⟨by omega,HJ.o.bl.congr (fun k=>by
           by_cases hk:k=i
           .subst hk;rw[if_pos (Nat.lt_succ_self k),if_neg (Nat.lt_irrefl k)];rw[<- HX.o];exact hy
           .by_cases h:k<i
            .rw[if_pos h,if_pos (by omega)]
            .rw[if_neg h,if_neg (by omega)]),HJ.o.ox,HJ.o.b⟩)
          clear hy h1
          go_wp2_with fail
          exact⟨⟨i+1,by go_num,HF.o⟩,by simp[intOf];omega⟩
       .obtain rfl:i=c.piece.length:=by omega
        have ai:=qG (ab.o.below hj.b ao.o.2.2.2.2)
        have f0:=ai.o.fr 0
        have f1:=ai.o.fr 1
        have f2:=ai.o.fr 2
        have d0:=ai.o.c 0 _ rfl
        have d1:=ai.o.c 1 _ rfl
        have d2:=ai.o.c 2 _ rfl
        have o0:=hj.ox.c 0 _ rfl
        have o1:=hj.ox.c 1 _ rfl
        have o2:=hj.ox.c 2 _ rfl
        have aa:=qG (ziP (ai.o.setAll [.int .i64 c.wide,.int .i64 c.high,.slice (some ⟨g,0,none⟩) c.piece.length cap] rfl))
        have HJ:=qG hj
        have bz:=qG (aP.o.trans (hj.b.mono aP.o.size))
        clear hj
        go_wp2_with fail
        ((try simp only[Exit.inBlock,Exit.then]);refine bodyPost_ret (zah rfl rfl aa.o) rfl ?_)
        exact zlI HE.o bv.o (by omega) (HJ.o.bl.of (Nat.le_of_eq (zay (w.heap.size+1) [.int .i64 c.wide,.int .i64 c.high,.slice (some ⟨g,0,none⟩) c.piece.length cap] 0 wr).symm) (zcc (w.heap.size+1) g (by have:=ao.o;omega) [.int .i64 c.wide,.int .i64 c.high,.slice (some ⟨g,0,none⟩) c.piece.length cap] 0 wr)) (zac (b:=w.heap.size+1) (B:=w.heap.size) (by omega) [.int .i64 c.wide,.int .i64 c.high,.slice (some ⟨g,0,none⟩) c.piece.length cap] 0 bz.o) (by have:=ao.o.2.1;omega)
end Cu
section
def mvD(d:Ru.Die)(A:Option Go.Addr)(c:Nat):Ru.Die:=⟨d.blades,d.bound,d.stop,d.bend,A,c⟩
theorem zlb(d:Ru.Die)(A:Option Go.Addr)(c:Nat)(k:Int):∀(i:Nat) (l:List Int) (far:Int),farS (mvD d A c) k i l far=farS d k i l far
|_,[],_=>rfl
|i,r :: l,far=>by
  unfold farS
  rw[show Ru.offS (mvD d A c) i (r+k)=Ru.offS d i (r+k) from rfl]
  split
  .rfl
  .exact zlb d A c k (i+1) l _
theorem znb(d:Ru.Die)(A:Option Go.Addr)(c:Nat)(s:Bk)(v:Vb)(n:List Int):doV (mvD d A c) s v n=doV d s v n:=by
 cases v <;> first|rfl|(unfold doV;dsimp only;rw[zlb];rfl)
theorem zhu(d:Ru.Die)(A:Option Go.Addr)(c:Nat)(h:Int):∀(l:List Pn) (s:Bk) (m k:Int),runP (mvD d A c) h l s m k=runP d h l s m k
|[],_,_,_=>rfl
|p :: l,s,m,k=>by
  unfold runP
  rw[znb]
  split
  .split
   .exact zhu d A c h l _ _ _
   .exact zhu d A c h l _ _ _
  .rfl
theorem zqq(d:Ru.Die)(A:Option Go.Addr)(c:Nat)(s:St)(x:Cmd):cmdV (mvD d A c) s x=cmdV d s x:=by
 cases x with
|at_ h e=>rfl
|do_ e=>unfold cmdV;dsimp only;rw[zhu,znb]
theorem zoc(d:Ru.Die)(A:Option Go.Addr)(c:Nat)(s:St)(t:Tx):zbZ (mvD d A c) s t=zbZ d s t:=by
 unfold zbZ
 split
 .rfl
 .split
  .rfl
  .exact zqq d A c s _
theorem zod(d:Ru.Die)(A:Option Go.Addr)(c:Nat)(s:St)(t:Tx):lineS (mvD d A c) s t=lineS d s t:=by
 unfold lineS
 rw[zoc]
theorem zji(d:Ru.Die)(A:Option Go.Addr)(c:Nat):∀(s:St) (l:List Tx),playS (mvD d A c) s l=playS d s l
|_,[]=>rfl
|s,x :: l=>by
  unfold playS
  rw[zod,zji d A c]
theorem zbw{α β:Type}{a b:α}{x y:β}(h:(Except.ok (a,x):Except Int (α×β))=.ok (b,y)):a=b/\x=y:=by
 injection h with h;injection h with h1 h2;exact⟨h1,h2⟩
def zrI(ls:List Tx):Tx:=ls.flatMap (·++[10])
theorem zrQ:∀ ls:List Tx,(∀ l∈ls,(10:UInt8)∉l)->Bo.zas 10 (zrI ls)=ls++[[]]
|[],_=>rfl
|l :: ls,h=>by
  have h1:zrI (l :: ls)=l++10 :: zrI ls:=by unfold zrI;rw[List.flatMap_cons,List.append_assoc];rfl
  rw[h1,Bo.zdP _ (h l (qE ..)),zrQ ls (fun x hx=>h x (List.mem_cons_of_mem _ hx))]
  rfl
theorem zr4{ls:List Tx}(h:∀ l∈ls,(10:UInt8)∉l):zcT (zrI ls)=ls:=by
 unfold zcT
 rw[zrQ ls h,List.dropLast_concat]
theorem zr0(ls ms:List Tx):zrI (ls++ms)=zrI ls++zrI ms:=by unfold zrI;rw[List.flatMap_append]
theorem zsO{ls:List Tx}(h:zrI ls≠[]):(zrI ls).getLast?=some 10:=by
 cases e:ls.reverse with
|nil=>rw[List.reverse_eq_nil_iff] at e;subst e;exact absurd rfl h
|cons x r=>
  have:ls=r.reverse++[x]:=by rw[<- List.reverse_reverse ls,e,List.reverse_cons]
  rw[this,zr0]
  have h2:zrI [x]=x++[10]:=by unfold zrI;simp
  rw[h2,<- List.append_assoc,List.getLast?_concat]
theorem zrN:∀{ls:List Tx} {m:Nat},(∀ l∈ls,l.length<=m)->(zrI ls).length<=ls.length*(m+1)
|[],m,_=>by simp[zrI]
|l :: ls,m,h=>by
  have h1:zrI (l :: ls)=l++10 :: zrI ls:=by unfold zrI;rw[List.flatMap_cons,List.append_assoc];rfl
  have h2:=zrN (fun x hx=>h x (List.mem_cons_of_mem l hx))
  have h3:=h l (qE ..)
  rw[h1,qD,List.length_cons,List.length_cons,Nat.add_mul]
  omega
noncomputable def zrJ(d:Ru.Die):St->List Tx->St
|s,[]=>s
|s,l :: ls=>zrJ d (lineS d s l).1 ls
noncomputable def sayS(d:Ru.Die)(s:St)(l:Tx):Tx:=(if(lineS d s l).2.2=0 then(lineS d s l).2.1 else rep [wd wErr,.n (lineS d s l).2.2])++[10]
theorem zrT(d:Ru.Die)(s:St)(l:Tx)(ls:List Tx):playS d s (l :: ls)=sayS d s l++playS d (lineS d s l).1 ls:=by
 show _++10 :: _=_
 unfold sayS
 rw[List.append_assoc]
 rfl
theorem zrV(d:Ru.Die):∀(ls ms:List Tx) (s:St),playS d s (ls++ms)=playS d s ls++playS d (zrJ d s ls) ms
|[],_,_=>rfl
|l :: ls,ms,s=>by
  rw[List.cons_append,zrT,zrT,zrV d ls ms,List.append_assoc]
  rfl
theorem zsI(d:Ru.Die):∀(ls ms:List Tx) (s:St),zrJ d s (ls++ms)=zrJ d (zrJ d s ls) ms
|[],_,_=>rfl
|_ :: ls,ms,_=>zsI d ls ms _
theorem zrP(d:Ru.Die)(pieces persons:Int){ls:List Tx}(h:∀ l∈ls,(10:UInt8)∉l)(hl:(zrI ls).length<=131072):runS d pieces persons (zrI ls)=match newS d pieces persons with
 |none=>([],1)
 |some s=>(playS d s ls,0):=by
 unfold runS
 rw[if_neg (by omega),if_neg (fun hc=>hc.2 (zsO hc.1)),zr4 h]
 cases newS d pieces persons <;> rfl
theorem zte(d:Ru.Die)(pieces persons:Int){t:Tx}(hl:t.length+4<=131072):runS d pieces persons (t++[98,97,99,107])=([],8):=by
 unfold runS
 rw[if_neg (by rw[qD];simp only[List.length_cons,List.length_nil];omega),if_pos]
 refine⟨by simp,?_⟩
 rw[show t++[98,97,99,107]=(t++[98,97,99])++[107] by simp,List.getLast?_concat]
 decide
theorem zrZ{d:Ru.Die}(hd:Ru.dieS d=true):∀(ls:List Tx) {s:St} {N:Nat},SOk d s N->SOk d (zrJ d s ls) (N+ls.length)
|[],_,_,h=>h
|l :: ls,s,N,h=>by
  have:=zrZ hd ls (zjE hd h l)
  rw[show N+1+ls.length=N+(l :: ls).length by simp;omega] at this
  exact this
end
namespace Cu
open Go.RowKit
def zsB(a b:Cut):Bool:=decide (a.wide=b.wide)&&(decide (a.high=b.high)&&decide (a.piece=b.piece))
theorem zsQ(a b:Cut)(w:World)(ha:CutAt w w.heap.size a)(hb:CutAt w w.heap.size b)(la:a.piece.length<=1000)(lb:b.piece.length<=1000):Calls Tryz.prog 71 #[.agg #[.int .i64 a.wide,.int .i64 a.high,.slice a.A a.piece.length a.c],.agg #[.int .i64 b.wide,.int .i64 b.high,.slice b.A b.piece.length b.c]] w (Ret (.bool (zsB a b)) w):=by
 have n1:=nxA w (.cells #[.int .i64 a.wide,.int .i64 a.high,.slice a.A a.piece.length a.c] 57)
 have n2:=nxA (w.alloc (.cells #[.int .i64 a.wide,.int .i64 a.high,.slice a.A a.piece.length a.c] 57)) (.cells #[.int .i64 b.wide,.int .i64 b.high,.slice b.A b.piece.length b.c] 57)
 have HX:=qG ((Bx.new w #[.int .i64 a.wide,.int .i64 a.high,.slice a.A a.piece.length a.c] 57).next n2)
 have HY:=qG (Bx.new (w.alloc (.cells #[.int .i64 a.wide,.int .i64 a.high,.slice a.A a.piece.length a.c] 57)) #[.int .i64 b.wide,.int .i64 b.high,.slice b.A b.piece.length b.c] 57)
 have HB:=qG (n1.trans (n2.mono n1.size))
 have aa:=qG (ha.next HB.o)
 have ab:=qG (hb.next HB.o)
 simp only[World.size_alloc] at HY
 have HS:=qG (show zsB a b=(decide (a.wide=b.wide)&&(decide (a.high=b.high)&&decide (a.piece=b.piece))) from rfl)
 clear ha hb n1 n2
 go_enter Tryz.func71,Tryz.ntmps71
 go_upto_region 1 with fail
 generalize(w.alloc (.cells #[.int .i64 a.wide,.int .i64 a.high,.slice a.A a.piece.length a.c] 57)).alloc (.cells #[.int .i64 b.wide,.int .i64 b.high,.slice b.A b.piece.length b.c] 57)=V at *
 have c0:=HX.o.c 0 _ rfl
 have c1:=HX.o.c 1 _ rfl
 have c2:=HX.o.c 2 _ rfl
 have d0:=HY.o.c 0 _ rfl
 have d1:=HY.o.c 1 _ rfl
 have d2:=HY.o.c 2 _ rfl
 by_cases h1:a.wide=b.wide
 .have e1:(a.wide==b.wide)=true:=by simp[h1]
  by_cases h2:a.high=b.high
  .have e2:(a.high==b.high)=true:=by simp[h2]
   rw[decide_eq_true h1,decide_eq_true h2,Bool.true_and,Bool.true_and] at HS
   clear h1 h2
   go_wp2_with fail
   refine(zsM a.piece b.piece a.A b.A a.c b.c V aa.o.pa ab.o.pa la lb).mono ?_
   rintro e W ⟨rfl,hw⟩
   have HW:=qG (HB.o.trans (hw.mono HB.o.size))
   clear hw
   go_wp2_with fail
   go_ret
   exact⟨by rw[HS.o];rfl,HW.o⟩
  .have e2:(a.high==b.high)=false:=by simp[h2]
   rw[decide_eq_true h1,decide_eq_false h2,Bool.true_and,Bool.false_and] at HS
   clear h1 h2
   go_wp2_with fail
   go_ret
   exact⟨by rw[HS.o];rfl,HB.o⟩
 .have e1:(a.wide==b.wide)=false:=by simp[h1]
  rw[decide_eq_false h1,Bool.false_and] at HS
  clear h1
  go_wp2_with fail
  go_ret
  exact⟨by rw[HS.o];rfl,HB.o⟩
end Cu
section
def smpS:Tx:=[99,117,116,32,51,32,50,32,48,32,48,32,49,32,50,32,51,32,49,10,108,105,110,101,115,32,48,10,109,97,107,101,32,48,32,56,10,109,97,107,101,32,48,32,52,10,97,116,32,49,50,32,109,97,107,101,32,48,32,51,10,97,116,32,49,48,32,108,101,110,100,32,48,10,97,116,32,50,53,32,109,97,107,101,32,48,32,50,10,104,111,117,114,32,50,48,10,111,102,102,32,48,10,98,97,99,107,10,104,111,117,114,32,50,53,10,115,101,101,110,32,49,52,32,49,10,119,104,111,32,48,10,97,100,109,105,116,32,48,32,50,10,97,100,109,105,116,32,48,32,49,10,119,104,111,32,48,10,119,104,111,32,49,10,98,101,110,100,32,48,10,109,97,107,101,32,48,32,50,10,106,111,105,110,32,48,32,48,32,50,10,115,101,101,110,32,48,32,49,52,10]
def smpR:Tx:=[99,117,116,32,48,32,112,105,101,99,101,115,32,52,10,108,105,110,101,115,32,53,32,48,32,50,32,52,10,109,97,100,101,32,49,32,111,102,102,32,50,57,10,101,114,114,111,114,32,49,49,10,112,108,97,110,32,49,10,112,108,97,110,32,50,10,112,108,97,110,32,51,10,104,111,117,114,32,50,48,32,50,32,48,10,111,102,102,32,49,49,32,50,50,32,51,56,10,98,97,99,107,32,48,10,104,111,117,114,32,50,53,32,49,32,49,10,115,101,101,110,32,49,10,119,104,111,32,54,53,10,101,114,114,111,114,32,54,10,97,100,109,105,116,32,48,32,49,10,119,104,111,32,49,10,119,104,111,32,49,57,50,10,98,101,110,100,32,48,32,99,111,115,116,32,49,51,10,109,97,100,101,32,51,32,111,102,102,32,49,55,10,101,114,114,111,114,32,54,10,101,114,114,111,114,32,54,10]
def smpC:Ct:=⟨3,2,[0,0,1,2,3,1]⟩
section
variable (A:Option Go.Addr) (c:Nat)
abbrev smpD:Ru.Die:=⟨[⟨0,5,2,3⟩,⟨2,4,0,1⟩],40,10,3,A,c⟩
theorem zpD:∀ p∈([(0,0),(1,0),(2,0),(0,1),(1,1),(2,1)]:List (Int×Int)),∀ q∈([(0,0),(1,0),(2,0),(0,1),(1,1),(2,1)]:List (Int×Int)),Cu.at2 smpC.c q.1 q.2=Cu.at2 smpC.c p.1 p.2->p=q\/q∈Cu.za0 p.1 p.2:=by decide +kernel
theorem zmm{p:Int×Int}(h:Cu.isIn smpC.c p.1 p.2=true):p∈([(0,0),(1,0),(2,0),(0,1),(1,1),(2,1)]:List (Int×Int)):=by
 obtain⟨x,y⟩:=p
 unfold Cu.isIn Cu.inS at h
 simp only[Bool.and_eq_true,qC,show smpC.c.wide=3 from rfl,show smpC.c.high=2 from rfl] at h
 simp only[List.mem_cons,Prod.mk.injEq,List.not_mem_nil,or_false]
 omega
theorem zmj(k:Int):Cu.Whole smpC.c k:=fun p q hp hq ep eq=>by
 rcases zpD p (zmm hp) q (zmm hq) (eq.trans ep.symm) with rfl|h
 .exact .refl _
 .exact .step (.refl p) h (eq.trans ep.symm)
theorem zhZ:Cu.checkS smpC.c=(4,0):=by
 unfold Cu.checkS
 rw[if_neg (by rw[show Cu.cutS smpC.c=true by kernel_rfl];decide),show(List.range (Cu.zag smpC.c).toNat).find? (fun k:Nat=>Cu.zbh smpC.c (k:Int)==0)=none by kernel_rfl]
 dsimp only
 split
 .rename_i k h
  have h2:=List.find?_some h
  simp only[qC] at h2
  exact absurd (zmj _) h2
 .kernel_rfl
theorem zi2:Cu.cutE smpC.c=0:=by unfold Cu.cutE;rw[zhZ]
theorem zml:Cu.zan smpC.c=(5,0,2,4):=by
 unfold Cu.zan
 rw[if_pos zi2]
 kernel_rfl
theorem zk0{d:Ru.Die}{s s':St}{t r:Tx}{e:Cmd}(h1:t.length<=400)(h2:cmdS t=some e)(h3:cmdV d s e=.ok (s',r)):lineS d s t=(s',r,0):=by
 unfold lineS zbZ
 rw[if_neg (by omega),h2]
 dsimp only
 rw[h3]
abbrev smp0:St:=⟨⟨0,[],[0,0],[],⟨4,[],[],[(-1),(-1),(-1)]⟩,0,false⟩,[],0⟩
abbrev smp1:St:=⟨⟨0,[⟨3,2,[0,0,1,2,3,1]⟩],[0,0],[],⟨4,[],[],[(-1),(-1),(-1)]⟩,0,false⟩,[],0⟩
abbrev smp2:St:=⟨⟨0,[⟨3,2,[0,0,1,2,3,1]⟩],[0,0],[],⟨4,[],[],[(-1),(-1),(-1)]⟩,0,false⟩,[],0⟩
abbrev smp3:St:=⟨⟨0,[⟨3,2,[0,0,1,2,3,1]⟩],[8,8],[⟨0,8⟩],⟨4,[],[],[(-1),(-1),(-1)]⟩,0,false⟩,[],0⟩
abbrev smp4:St:=⟨⟨0,[⟨3,2,[0,0,1,2,3,1]⟩],[8,8],[⟨0,8⟩],⟨4,[],[],[(-1),(-1),(-1)]⟩,0,false⟩,[],0⟩
abbrev smp5:St:=⟨⟨0,[⟨3,2,[0,0,1,2,3,1]⟩],[8,8],[⟨0,8⟩],⟨4,[],[],[(-1),(-1),(-1)]⟩,0,false⟩,[⟨12,0,⟨.make,[0,3]⟩⟩],1⟩
abbrev smp6:St:=⟨⟨0,[⟨3,2,[0,0,1,2,3,1]⟩],[8,8],[⟨0,8⟩],⟨4,[],[],[(-1),(-1),(-1)]⟩,0,false⟩,[⟨10,1,⟨.lend,[0]⟩⟩,⟨12,0,⟨.make,[0,3]⟩⟩],2⟩
abbrev smp7:St:=⟨⟨0,[⟨3,2,[0,0,1,2,3,1]⟩],[8,8],[⟨0,8⟩],⟨4,[],[],[(-1),(-1),(-1)]⟩,0,false⟩,[⟨10,1,⟨.lend,[0]⟩⟩,⟨12,0,⟨.make,[0,3]⟩⟩,⟨25,2,⟨.make,[0,2]⟩⟩],3⟩
abbrev smp8:St:=⟨⟨20,[⟨3,2,[0,0,1,2,3,1]⟩],[11,11],[⟨0,8⟩,⟨0,3⟩],⟨4,[⟨0,10,1048576⟩],[],[(-1),(-1),(-1)]⟩,0,true⟩,[⟨25,2,⟨.make,[0,2]⟩⟩],3⟩
abbrev smp9:St:=⟨⟨20,[⟨3,2,[0,0,1,2,3,1]⟩],[11,11],[⟨0,8⟩,⟨0,3⟩],⟨4,[⟨0,10,1048576⟩],[],[(-1),(-1),(-1)]⟩,0,true⟩,[⟨25,2,⟨.make,[0,2]⟩⟩],3⟩
abbrev zpi:St:=⟨⟨20,[⟨3,2,[0,0,1,2,3,1]⟩],[11,11],[⟨0,8⟩,⟨0,3⟩],⟨4,[⟨0,10,20⟩],[],[(-1),(-1),(-1)]⟩,0,false⟩,[⟨25,2,⟨.make,[0,2]⟩⟩],3⟩
abbrev zph:St:=⟨⟨25,[⟨3,2,[0,0,1,2,3,1]⟩],[11,11],[⟨0,8⟩,⟨0,3⟩],⟨4,[⟨0,10,20⟩],[],[(-1),(-1),(-1)]⟩,0,false⟩,[],3⟩
abbrev zpg:St:=⟨⟨25,[⟨3,2,[0,0,1,2,3,1]⟩],[11,11],[⟨0,8⟩,⟨0,3⟩],⟨4,[⟨0,10,20⟩],[⟨25,14,1⟩],[(-1),(-1),(-1)]⟩,0,false⟩,[],3⟩
abbrev zpf:St:=⟨⟨25,[⟨3,2,[0,0,1,2,3,1]⟩],[11,11],[⟨0,8⟩,⟨0,3⟩],⟨4,[⟨0,10,20⟩],[⟨25,14,1⟩],[(-1),(-1),(-1)]⟩,0,false⟩,[],3⟩
abbrev zpe:St:=⟨⟨25,[⟨3,2,[0,0,1,2,3,1]⟩],[11,11],[⟨0,8⟩,⟨0,3⟩],⟨4,[⟨0,10,20⟩],[⟨25,14,1⟩],[(-1),(-1),(-1)]⟩,0,false⟩,[],3⟩
abbrev zpd:St:=⟨⟨25,[⟨3,2,[0,0,1,2,3,1]⟩],[11,11],[⟨0,8⟩,⟨0,3⟩],⟨4,[⟨0,10,20⟩],[⟨25,14,1⟩],[1,(-1),(-1)]⟩,0,false⟩,[],3⟩
abbrev zpc:St:=⟨⟨25,[⟨3,2,[0,0,1,2,3,1]⟩],[11,11],[⟨0,8⟩,⟨0,3⟩],⟨4,[⟨0,10,20⟩],[⟨25,14,1⟩],[1,(-1),(-1)]⟩,0,false⟩,[],3⟩
abbrev zpb:St:=⟨⟨25,[⟨3,2,[0,0,1,2,3,1]⟩],[11,11],[⟨0,8⟩,⟨0,3⟩],⟨4,[⟨0,10,20⟩],[⟨25,14,1⟩],[1,(-1),(-1)]⟩,0,false⟩,[],3⟩
abbrev zpa:St:=⟨⟨25,[⟨3,2,[0,0,1,2,3,1]⟩],[0,11],[⟨0,8⟩,⟨0,3⟩],⟨4,[⟨0,10,20⟩],[⟨25,14,1⟩],[1,(-1),(-1)]⟩,13,false⟩,[],3⟩
abbrev zo9:St:=⟨⟨25,[⟨3,2,[0,0,1,2,3,1]⟩],[2,13],[⟨0,8⟩,⟨0,3⟩,⟨0,2⟩],⟨4,[⟨0,10,20⟩],[⟨25,14,1⟩],[1,(-1),(-1)]⟩,13,false⟩,[],3⟩
abbrev zo8:St:=⟨⟨25,[⟨3,2,[0,0,1,2,3,1]⟩],[2,13],[⟨0,8⟩,⟨0,3⟩,⟨0,2⟩],⟨4,[⟨0,10,20⟩],[⟨25,14,1⟩],[1,(-1),(-1)]⟩,13,false⟩,[],3⟩
abbrev zo7:St:=⟨⟨25,[⟨3,2,[0,0,1,2,3,1]⟩],[2,13],[⟨0,8⟩,⟨0,3⟩,⟨0,2⟩],⟨4,[⟨0,10,20⟩],[⟨25,14,1⟩],[1,(-1),(-1)]⟩,13,false⟩,[],3⟩
theorem zqP:lineS (smpD A c) smp0 [99,117,116,32,51,32,50,32,48,32,48,32,49,32,50,32,51,32,49]=(smp1,[99,117,116,32,48,32,112,105,101,99,101,115,32,52],0):=by
 refine zk0 (e:=.do_ ⟨.cut,[3,2,0,0,1,2,3,1]⟩) (by decide) (by kernel_rfl) ?_
 have h:doV (smpD A c) smp0.b .cut [3,2,0,0,1,2,3,1]=.ok (smp1.b,[99,117,116,32,48,32,112,105,101,99,101,115,32,52]):=by
  show(if 6<=smp0.b.cuts.length then(.error 9:ResB) else if(Cu.checkS smpC.c).2≠0 then .error (Cu.checkS smpC.c).2 else .ok ({ smp0.b with cuts:=smp0.b.cuts++[smpC] },rep [wd Vb.cut.name,.n smp0.b.cuts.length,wd zdX,.n (Cu.checkS smpC.c).1]))=_
  rw[if_neg (by decide),zhZ,if_neg (by decide)]
  kernel_rfl
 unfold cmdV
 dsimp only
 rw[if_neg (by decide),if_neg (by decide),h]
theorem zqO:lineS (smpD A c) smp1 [108,105,110,101,115,32,48]=(smp2,[108,105,110,101,115,32,53,32,48,32,50,32,52],0):=by
 refine zk0 (e:=.do_ ⟨.lines,[0]⟩) (by decide) (by kernel_rfl) ?_
 have h:doV (smpD A c) smp1.b .lines [0]=.ok (smp2.b,[108,105,110,101,115,32,53,32,48,32,50,32,52]):=by
  show(if(smp1.b.cuts.length:Int)<=0 then(.error 2:ResB) else if Cu.cutE smpC.c≠0 then .error (Cu.cutE smpC.c) else .ok (smp1.b,rep [wd Vb.lines.name,.n (Cu.zan smpC.c).1,.n (Cu.zan smpC.c).2.1,.n (Cu.zan smpC.c).2.2.1,.n (Cu.zan smpC.c).2.2.2]))=_
  rw[if_neg (by decide),zi2,if_neg (by decide),zml]
  kernel_rfl
 unfold cmdV
 dsimp only
 rw[if_neg (by decide),if_neg (by decide),h]
theorem zqN:lineS (smpD A c) smp2 [109,97,107,101,32,48,32,56]=(smp3,[109,97,100,101,32,49,32,111,102,102,32,50,57],0):=by kernel_rfl
theorem zqM:lineS (smpD A c) smp3 [109,97,107,101,32,48,32,52]=(smp4,[],11):=by kernel_rfl
theorem zqL:lineS (smpD A c) smp4 [97,116,32,49,50,32,109,97,107,101,32,48,32,51]=(smp5,[112,108,97,110,32,49],0):=by kernel_rfl
theorem zqK:lineS (smpD A c) smp5 [97,116,32,49,48,32,108,101,110,100,32,48]=(smp6,[112,108,97,110,32,50],0):=by kernel_rfl
theorem zqJ:lineS (smpD A c) smp6 [97,116,32,50,53,32,109,97,107,101,32,48,32,50]=(smp7,[112,108,97,110,32,51],0):=by kernel_rfl
theorem zqI:lineS (smpD A c) smp7 [104,111,117,114,32,50,48]=(smp8,[104,111,117,114,32,50,48,32,50,32,48],0):=by kernel_rfl
theorem zqH:lineS (smpD A c) smp8 [111,102,102,32,48]=(smp9,[111,102,102,32,49,49,32,50,50,32,51,56],0):=by kernel_rfl
theorem zqG:lineS (smpD A c) smp9 [98,97,99,107]=(zpi,[98,97,99,107,32,48],0):=by kernel_rfl
theorem zpQ:lineS (smpD A c) zpi [104,111,117,114,32,50,53]=(zph,[104,111,117,114,32,50,53,32,49,32,49],0):=by kernel_rfl
theorem zpP:lineS (smpD A c) zph [115,101,101,110,32,49,52,32,49]=(zpg,[115,101,101,110,32,49],0):=by kernel_rfl
theorem zpO:lineS (smpD A c) zpg [119,104,111,32,48]=(zpf,[119,104,111,32,54,53],0):=by kernel_rfl
theorem zpN:lineS (smpD A c) zpf [97,100,109,105,116,32,48,32,50]=(zpe,[],6):=by kernel_rfl
theorem zpM:lineS (smpD A c) zpe [97,100,109,105,116,32,48,32,49]=(zpd,[97,100,109,105,116,32,48,32,49],0):=by kernel_rfl
theorem zpL:lineS (smpD A c) zpd [119,104,111,32,48]=(zpc,[119,104,111,32,49],0):=by kernel_rfl
theorem zpK:lineS (smpD A c) zpc [119,104,111,32,49]=(zpb,[119,104,111,32,49,57,50],0):=by kernel_rfl
theorem zpJ:lineS (smpD A c) zpb [98,101,110,100,32,48]=(zpa,[98,101,110,100,32,48,32,99,111,115,116,32,49,51],0):=by kernel_rfl
theorem zpI:lineS (smpD A c) zpa [109,97,107,101,32,48,32,50]=(zo9,[109,97,100,101,32,51,32,111,102,102,32,49,55],0):=by kernel_rfl
theorem zpH:lineS (smpD A c) zo9 [106,111,105,110,32,48,32,48,32,50]=(zo8,[],6):=by kernel_rfl
theorem zpG:lineS (smpD A c) zo8 [115,101,101,110,32,48,32,49,52]=(zo7,[],6):=by kernel_rfl
theorem zmk:zcT smpS=[[99,117,116,32,51,32,50,32,48,32,48,32,49,32,50,32,51,32,49],[108,105,110,101,115,32,48],[109,97,107,101,32,48,32,56],[109,97,107,101,32,48,32,52],[97,116,32,49,50,32,109,97,107,101,32,48,32,51],[97,116,32,49,48,32,108,101,110,100,32,48],[97,116,32,50,53,32,109,97,107,101,32,48,32,50],[104,111,117,114,32,50,48],[111,102,102,32,48],[98,97,99,107],[104,111,117,114,32,50,53],[115,101,101,110,32,49,52,32,49],[119,104,111,32,48],[97,100,109,105,116,32,48,32,50],[97,100,109,105,116,32,48,32,49],[119,104,111,32,48],[119,104,111,32,49],[98,101,110,100,32,48],[109,97,107,101,32,48,32,50],[106,111,105,110,32,48,32,48,32,50],[115,101,101,110,32,48,32,49,52]]:=by kernel_rfl
theorem zbc{d:Ru.Die}{s s':St}{l r:Tx}{ls:List Tx}{o:Tx}(h:lineS d s l=(s',r,0))(ho:playS d s' ls=o):playS d s (l :: ls)=r++10 :: o:=by
 unfold playS
 rw[h]
 dsimp only
 rw[if_pos rfl,ho]
theorem zfp{d:Ru.Die}{s s':St}{l r:Tx}{ls:List Tx}{o:Tx}{e:Int}(h:lineS d s l=(s',r,e))(he:e≠0)(ho:playS d s' ls=o):playS d s (l :: ls)=rep [wd wErr,.n e]++10 :: o:=by
 unfold playS
 rw[h]
 dsimp only
 rw[if_neg he,ho]
theorem zpF:newS (smpD A c) 4 3=some smp0:=by kernel_rfl
theorem zpE:runS (smpD A c) 4 3 smpS=(smpR,0):=by
 unfold runS
 rw[if_neg (of_decide_eq_false (by kernel_rfl)),if_neg (of_decide_eq_false (by kernel_rfl)),zpF A c,zmk]
 dsimp only
 have h:=(zbc (zqP A c) (zbc (zqO A c) (zbc (zqN A c) (zfp (zqM A c) (by decide) (zbc (zqL A c) (zbc (zqK A c) (zbc (zqJ A c) (zbc (zqI A c) (zbc (zqH A c) (zbc (zqG A c) (zbc (zpQ A c) (zbc (zpP A c) (zbc (zpO A c) (zfp (zpN A c) (by decide) (zbc (zpM A c) (zbc (zpL A c) (zbc (zpK A c) (zbc (zpJ A c) (zbc (zpI A c) (zfp (zpH A c) (by decide) (zfp (zpG A c) (by decide) (show playS (smpD A c) zo7 []=[] from rfl))))))))))))))))))))))
 exact congrArg (fun x=>(x,(0:Int))) (h.trans (by kernel_rfl))
end
end
end Go.Proofs.YtankkcbofgighaaGreatDoor
