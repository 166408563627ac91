import Derived.Test.YtankkcbofgighaaGreatDoorL19
import Derived.BigQuiet
import Derived.Deep.DeepCutAuto
import Derived.BigRegion
import Derived.Maps.StringElems
import Derived.Handy
set_option linter.all false
set_option maxRecDepth 100000
set_option maxHeartbeats 40000000
namespace Go.Proofs.YtankkcbofgighaaGreatDoor
section
open Go.RowKit
open Le
theorem zlO(l:List Le.Loan)(m:Nat)(x:Le.Loan)(h:Int)(hx:l[m]?=some x):(l.flatMap Le.Loan.cells).set (m*3+2) (.int .i64 h)=(l.set m ⟨x.p,x.a,h⟩).flatMap Le.Loan.cells:=by
 have hm:=(qO.1 hx).1
 have hp:=zeu zbv (by decide) l hm ⟨x.p,x.a,h⟩
 rw[<- hp]
 show _=(((l.flatMap Le.Loan.cells).set (m*3) (.int .i64 x.p)).set (m*3+1) (.int .i64 x.a)).set (m*3+1+1) (.int .i64 h)
 have h0:=zaO zbv l m x 0 (.int .i64 x.p) hx rfl
 have h1:=zaO zbv l m x 1 (.int .i64 x.a) hx rfl
 rw[Nat.add_zero] at h0
 have e0:(l.flatMap Le.Loan.cells).set (m*3) (.int .i64 x.p)=l.flatMap Le.Loan.cells:=by
  apply List.ext_getElem?
  intro i
  by_cases e:m*3=i
  .subst e;rw[List.getElem?_set_self (qO.1 h0).1,h0]
  .rw[List.getElem?_set_ne e]
 have e1:(l.flatMap Le.Loan.cells).set (m*3+1) (.int .i64 x.a)=l.flatMap Le.Loan.cells:=by
  apply List.ext_getElem?
  intro i
  by_cases e:m*3+1=i
  .subst e;rw[List.getElem?_set_self (qO.1 h1).1,h1]
  .rw[List.getElem?_set_ne e]
 rw[e0,e1]
theorem zo1(O:Nat->Prop)(w:World)(f:Nat)(R:Nat->Rw)(cs:List Cu.Cut)(ps:List Pq)(d:Ru.Die)(s:St)(A:Option Addr)(c:Nat)(hp:Pre O w f R cs ps d s A c []) :
  Calls Tryz.prog 194 #[.pointer (some ⟨f,0,none⟩),.slice A 0 c] w (RetF O w f R d (resV d s .back [])):=by
 obtain⟨A0,c0,A1,c1,A2,c2,A3,c3,A4,c4,A5,c5,A6,c6,hs⟩:=hp.fl.sees
 have HP:=qG hp
 have HS:=qG hs
 clear hp hs
 have aj:=qG (Mid.sees HP.o.fl HS.o)
 have ah:=qG HP.o.ok.b.okT
 have f10:w.cell? ⟨f,10,none⟩=some (.bool s.b.opn):=HS.o.x.c 10 _ rfl
 cases ho:s.b.opn
 .rw[ho] at f10
  go_enter Tryz.func194,Tryz.ntmps194
  go_wp2_with fail
  refine(zak 4 w).mono ?_
  rintro e w' ⟨rfl,rfl⟩
  rw[show resV d s .back []=.error 4 from by unfold resV doV;simp only[];rw[if_pos ho]]
  exact⟨rfl,zau HP.o.fl (Below.refl _ _) rfl⟩
 .rw[ho] at f10
  obtain⟨l,xl,e1,e2,e3⟩:=HP.o.ok.b.op ho
  obtain⟨m,hm⟩:∃ m,m=s.b.t.loans.length-1:=⟨_,rfl⟩
  have aq:s.b.t.loans.length=m+1:=by rw[hm,e1];simp
  have ar:s.b.t.loans[m]?=some xl:=by rw[hm,e1];simp
  have au:=qG ar
  have aw:=qG hm
  have ax:=qG aq
  have HO:=qG ho
  obtain⟨g,cap,eb,ev,ak⟩:=Rw.ok.elem (HP.o.fl.own.row 3 (by decide)) HP.o.fl.h.ro.r3 zbv (by decide) ar
  have aI:A3=some ⟨g,0,none⟩/\c3=cap+1:=by have:=HS.o.e3;rw[ev] at this;injection this with q1 _ q2;exact⟨q1.symm,q2.symm⟩
  obtain⟨rfl,rfl⟩:=aI
  have am:=qG eb
  have aC:=qG ev
  have aP:=qG ak
  have f5:w.cell? ⟨f,5,none⟩=some (.slice (some ⟨g,0,none⟩) (m+1) (cap+1)):=by rw[<- aq];exact HS.o.x.c 5 _ rfl
  have f0:w.cell? ⟨f,0,none⟩=some (.int .i64 s.b.hour):=HS.o.x.c 0 _ rfl
  have x0:w.cell? ⟨g,m*3,none⟩=some (.int .i64 xl.p):=(ak 0 _ rfl).1
  have x1:w.cell? ⟨g,m*3+1,none⟩=some (.int .i64 xl.a):=(ak 1 _ rfl).1
  have aQ:m<12:=by have:=ah.o.lo;omega
  have aJ:IntKind.i64.wrap ((m:Int)+1-1)=(m:Int):=qF _ (by omega) |>.trans (by omega)
  clear hm aq ar e1 e2 e3 eb ev ak ho
  go_enter Tryz.func194,Tryz.ntmps194
  go_wp2_with fail
  refine(zat 4 w).mono ?_
  rintro e w' ⟨rfl,rfl⟩
  go_upto_region 3 with (go_quiet (fail))
  generalize hV0:w.drewN nq=V0 at *
  have an:=qG (show Below w.heap.size w V0 from hV0▸Le.zbz (Below.refl _ w) nq)
  replace aj:=qG (aj.o.below an.o)
  have aK:=qG ((an.o.cell (p:=⟨g,m*3,none⟩) (zaa x0)).trans x0)
  have ay:=qG ((an.o.cell (p:=⟨g,m*3+1,none⟩) (zaa x1)).trans x1)
  have az:=qG (show V0.cell? ⟨f,0,none⟩=some (.int .i64 s.b.hour) from aj.o.x.c 0 _ rfl)
  have aA:=qG (show s.b.t.loans.getD (s.b.t.loans.length-1) ⟨0,0,0⟩=xl from by rw[<- aw.o,qP,au.o];rfl)
  clear hV0 f10 f5 f0 x0 x1 aJ
  by_cases ao:xl.a<s.b.hour
  .have hd:decide (xl.a<s.b.hour)=true:=decide_eq_true ao
   refine wp_region_noPanic ?_
   refine wp_region_held_drew (S:=(fun W=>W.cell? ⟨g,m*3+1,none⟩=some (.int .i64 xl.a)/\W.cell? ⟨f,0,none⟩=some (.int .i64 s.b.hour))) (by kernel_rfl) ?_ (fun ag=>?_)
   ·(try dsimp only);exact⟨ay.o,az.o⟩
   refine ht 0 (h:=?_)
   refine ht 1 (h:=?_)
   refine ht 2 (h:=?_)
   refine ht 3 (h:=?_)
   refine ht 4 (h:=?_)
   refine ht 5 (h:=?_)
   refine ht 6 (h:=?_)
   refine ht 7 (h:=?_)
   refine ht 8 (h:=?_)
   refine ht 9 (h:=?_)
   refine ht 10 (h:=?_)
   refine r1 (i:=11) (by kernel_rfl) rfl fun K hK=>?_
   go_simp
   refine(zat 7 _).mono ?_;rintro e w' ⟨rfl,rfl⟩
   refine hK.out _ _ ?_ (fun ag=>?_)
   ·(try dsimp only);exact⟨ay.o,az.o⟩
   clear hK K
   try simp only[qW]
   refine wpAnyH_done (by kernel_rfl) ?_ _
   refine NoPanic.normal ?_
   iterate 13 (try clear ag)
   have aD:=qG ao
   clear hd ao
   generalize hV1:V0.drew=V1 at *
   have ac:=qG (show Mid w V1 f R R (seL d s A0 c0 A1 c1 A2 c2 (some ⟨g,0,none⟩) (cap+1) A4 c4 A5 c5 A6 c6) from hV1▸aj.o.drew)
   have x0:V1.cell? ⟨g,m*3,none⟩=some (.int .i64 xl.p):=hV1▸aK.o
   clear hV1
   have aE:=qG (show V1.there g (m*3+2) 1 from(ac.o.o.row 3 (by decide)).there am.o (by rw[HP.o.fl.h.ro.r3.2.2.2,zbr zbv,ax.o];omega))
   have z2:(V1.cell? ⟨g,m*3+2,none⟩).isSome=true:=(aE.o 0 (by decide)).1
   have z3:V1.frozen? ⟨g,m*3+2,none⟩=false:=(aE.o 0 (by decide)).2
   obtain⟨zv,z4⟩:=Option.isSome_iff_exists.1 z2
   have y0:=ac.o.x.c 0 _ rfl
   have y10:=ac.o.x.c 10 _ rfl
   have yf:=ac.o.x.fr 10
   have aR:g≠f:=fun e=>ac.o.o.far 3 (by decide) (by rw[am.o,e])
   clear z2
   go_upto_region 5 with fail
   have hj:m*3+2<(R 3).xs.length:=by rw[HP.o.fl.h.ro.r3.2.2.2,zbr zbv,ax.o];omega
   have aa:=qG ((ac.o.setR (k:=3) (by decide) am.o hj (.int .i64 s.b.hour)).setF (j:=10) (by simp[seL]) (.bool false))
   have ai:=qG (show RowsOk (upR R 3 { R 3 with xs:=(R 3).xs.set (m*3+2) (.int .i64 s.b.hour) }) cs ps { s.b with t:=⟨s.b.t.n,s.b.t.loans.set m ⟨xl.p,xl.a,s.b.hour⟩,s.b.t.looks,s.b.t.admits⟩,opn:=false } from by
    have ro:=HP.o.fl.h.ro
    exact⟨ro.r0,ro.r1,ro.r2,⟨ro.r3.1,ro.r3.2.1,by show _=(s.b.t.loans.set _ _).length;rw[List.length_set];exact ro.r3.2.2.1,by show(R 3).xs.set _ _=(s.b.t.loans.set _ _).flatMap _;rw[ro.r3.2.2.2,zlO _ _ _ _ au.o]⟩,ro.r4,ro.r5,ro.r6⟩)
   generalize(V1.setCell ⟨g,m*3+2,none⟩ (.int .i64 s.b.hour)).setCell ⟨f,10,none⟩ (.bool false)=V2 at *
   clear x0 z3 z4 y0 y10 yf hj
   obtain⟨tl,ab⟩:∃ tl:Le.Tl,tl=⟨s.b.t.n,s.b.t.loans.set m ⟨xl.p,xl.a,s.b.hour⟩,s.b.t.looks,s.b.t.admits⟩:=⟨_,rfl⟩
   have aF:tl.loans.length=s.b.t.loans.length:=by rw[ab];show(s.b.t.loans.set _ _).length=_;rw[List.length_set]
   have aL:=qG (show TaleAt V2 V2.heap.size ⟨tl,some ⟨g,0,none⟩,cap+1,A4,c4,A5,c5⟩ from by
    rw[ab]
    refine aa.o.tale _ ai.o.r3 ai.o.r4 ai.o.r5 ?_ HS.o.e4 HS.o.e5 ?_ ?_ ?_
    .show(R 3).v=.slice (some ⟨g,0,none⟩) (s.b.t.loans.set _ _).length (cap+1);rw[List.length_set];exact aC.o
    .show(s.b.t.loans.set _ _).length<=_;rw[List.length_set];have:=ah.o.lo;omega
    .show s.b.t.looks.length<=_;have:=ah.o.lk;omega
    .show s.b.t.admits.length<=_;have:=ah.o.a2;omega)
   have aM:=qG (zci tl (some ⟨g,0,none⟩) (cap+1) A4 c4 A5 c5 f V2 (by rw[ab];exact aa.o.x.c 4 _ rfl) (by rw[aF];exact aa.o.x.c 5 _ rfl) (by rw[ab];exact aa.o.x.c 6 _ rfl) (by rw[ab];exact aa.o.x.c 7 _ rfl) aL.o)
   have ae:=qG ab
   clear ab aF
   go_wp2_with fail
   refine aM.o.mono ?_
   rintro e V3 ⟨hb,⟨h,rfl⟩|⟨h,rfl⟩⟩
   .have HF:=qG h
    have af:=qG (aa.o.below hb)
    have x0:V3.cell? ⟨g,m*3,none⟩=some (.int .i64 xl.p):=by
     have hh:=(af.o.o.row 3 (by decide)).elem (k:=m) (x:=⟨xl.p,xl.a,s.b.hour⟩) ai.o.r3 zbv (by decide) (by show(s.b.t.loans.set m _)[m]?=_;rw[List.getElem?_set_self (by rw[ax.o];omega)])
     obtain⟨g',cap',e1,-,h2⟩:=hh
     have:g'=g:=Option.some.inj (e1.symm.trans am.o)
     subst this
     exact(h2 0 _ rfl).1
    have aN:=qG (show 0<=xl.p/\xl.p<1000000000000000000 from by have:=ah.o.lent.good xl (List.mem_of_getElem? au.o);omega)
    clear h hb
    have aG:=qG (show ∀ x∈[Pa.w Vb.back.name,Pa.n (xl.p)],x.ok from by simp only[List.forall_mem_cons];exact⟨by show _<=20;decide,aN.o,fun x hx=>by cases hx⟩)
    go_wp2_with fail
    refine(zbf V3 [Pa.w Vb.back.name,Pa.n (xl.p)] (af.o.env HP.o) (by simp) (by simp) aG.o).mono ?_
    rintro e V9 ⟨rfl,aB⟩
    have aO:=qG aB
    clear aB
    go_wp2_with fail
    go_ret
    rw[show resV d s .back []=.ok (⟨{ s.b with t:=tl,opn:=false },s.plans,s.planned⟩,rep [Pa.w Vb.back.name,Pa.n (xl.p)]) from by unfold resV doV;simp only[];rw[if_neg (by rw[HO.o];decide),aA.o,if_neg (by have:=aD.o;omega),<- aw.o,if_neg (fun k=>k (by rw[<- ae.o];exact HF.o)),<- ae.o];rfl]
    refine zbu (HP.o.fl.up1 (s':=⟨{ s.b with t:=tl,opn:=false },s.plans,s.planned⟩) af.o.turn af.o.o ?_ ?_ HP.o.fl.h.ec (fun c hc=>.inl hc) HP.o.fl.h.hp (fun x hx=>.inl hx)) af.o.turn aO.o rfl
    .rw[ae.o];exact zcn HS.o.e0 HS.o.e1 HS.o.e2 (v3:=.slice (some ⟨g,0,none⟩) (s.b.t.loans.set m ⟨xl.p,xl.a,s.b.hour⟩).length (cap+1)) (by show(R 3).v=_;rw[List.length_set];exact aC.o) HS.o.e4 HS.o.e5 HS.o.e6 (by rw[List.length_set];exact af.o.x)
    .rw[ae.o];exact ai.o
   .rw[show resV d s .back []=.error (fitE tl) from by unfold resV doV;simp only[];rw[if_neg (by rw[HO.o];decide),aA.o,if_neg (by have:=aD.o;omega),<- aw.o,if_pos (by rw[<- ae.o];exact h),<- ae.o]]
    exact⟨rfl,aa.o.late rfl (by simp[seL]) hb rfl⟩
  .have hd:decide (xl.a<s.b.hour)=false:=decide_eq_false ao
   have aH:=qG (show ∀ w',Below w.heap.size w w'->RetF O w f R d (resV d s .back []) (.panicked (zaF 7)) w' from fun w' hb=>by rw[show resV d s .back []=.error 7 from by unfold resV doV;simp only[];rw[if_neg (by rw[HO.o];decide),aA.o,if_pos (by omega)]];exact zau HP.o.fl hb rfl)
   refine zru (fun ch W'=>ch=zaF 7/\Below w.heap.size w W') (fun ch a' w' hd h=>by obtain⟨rfl,h⟩:=h;exact⟨hd,aH.o w' h⟩) ?_
   refine wp_region_held_drew (S:=(fun W=>W.cell? ⟨g,m*3+1,none⟩=some (.int .i64 xl.a)/\W.cell? ⟨f,0,none⟩=some (.int .i64 s.b.hour))) (by kernel_rfl) ?_ (fun ag=>?_)
   ·(try dsimp only);exact⟨ay.o,az.o⟩
   refine ht 0 (h:=?_) (hQ:=fun _ _ _=>zrr)
   refine ht 1 (h:=?_) (hQ:=fun _ _ _=>zrr)
   refine ht 2 (h:=?_) (hQ:=fun _ _ _=>zrr)
   refine ht 3 (h:=?_) (hQ:=fun _ _ _=>zrr)
   refine ht 4 (h:=?_) (hQ:=fun _ _ _=>zrr)
   refine ht 5 (h:=?_) (hQ:=fun _ _ _=>zrr)
   refine ht 6 (h:=?_) (hQ:=fun _ _ _=>zrr)
   refine ht 7 (h:=?_) (hQ:=fun _ _ _=>zrr)
   refine ht 8 (h:=?_) (hQ:=fun _ _ _=>zrr)
   refine ht 9 (h:=?_) (hQ:=fun _ _ _=>zrr)
   refine ht 10 (h:=?_) (hQ:=fun _ _ _=>zrr)
   refine r1 (i:=11) (by kernel_rfl) rfl fun K hK=>?_
   go_simp
   refine(zak 7 _).mono ?_;rintro e w' ⟨rfl,rfl⟩;exact⟨rfl,rfl,an.o.drew⟩
theorem znu(O:Nat->Prop)(w:World)(f:Nat)(R:Nat->Rw)(cs:List Cu.Cut)(ps:List Pq)(d:Ru.Die)(s:St)(A:Option Addr)(c:Nat)(a:Int)(b2:Int)(hp:Pre O w f R cs ps d s A c [a,b2]) :
  Calls Tryz.prog 196 #[.pointer (some ⟨f,0,none⟩),.slice A 2 c] w (RetF O w f R d (resV d s .admit [a,b2])):=by
 obtain⟨A0,c0,A1,c1,A2,c2,A3,c3,A4,c4,A5,c5,A6,c6,hs⟩:=hp.fl.sees
 obtain⟨b,off,rfl,aS,az,na⟩:=hp.na.get (k:=0) (by simp)
 have na:w.cell? ⟨b,off,none⟩=some (.int .i64 a):=na
 obtain⟨b',off',e',-,-,na1⟩:=hp.na.get (k:=1) (by simp)
 injection e' with e'
 injection e' with e1 e2 _
 subst e1 e2
 have na1:w.cell? ⟨b,off+1,none⟩=some (.int .i64 b2):=na1
 have aI:b≠f:=fun e=>az (hp.fl.sub b (.inl e))
 have a8:=qG aI
 have aT:=qG az
 have ac:=qG na
 have ab:=qG na1
 have a9:2<=c:=hp.nc
 clear az aI aS
 have HP:=qG hp
 have HS:=qG hs
 clear hp hs
 have au:=qG (HS.o.x.c 7 _ rfl)
 have ae:=qG (Mid.sees HP.o.fl HS.o)
 have aA:=qG HP.o.ok.b.okT
 have aB:=qG (HP.o.nn a (qE ..))
 have aJ:=qG (HP.o.nn b2 (by simp))
 have aj:=qG (show ¬ zao f R b from fun k=>aT.o (HP.o.fl.sub b k))
 have h0:0<=a:=aB.o.1
 clear na na1
 go_enter Tryz.func196,Tryz.ntmps196
 go_upto_region 1 with fail
 by_cases ha:a<(s.b.t.admits.length:Int)
 .have aK:decide (a<(s.b.t.admits.length:Int))=true:=decide_eq_true ha
  by_cases am:b2<=16
  .have aL:decide (b2<=16)=true:=decide_eq_true am
   refine wp_region_noPanic ?_
   refine wp_region_held_drew (S:=(fun W=>W.cell? ⟨b,off,none⟩=some (.int .i64 a)/\W.cell? ⟨b,off+1,none⟩=some (.int .i64 b2)/\W.cell? ⟨f,7,none⟩=some (.slice A5 s.b.t.admits.length c5))) (by kernel_rfl) ?_ (fun aa=>?_)
   ·(try dsimp only);exact⟨ac.o,ab.o,au.o⟩
   refine ht 0 (h:=?_)
   refine ht 1 (h:=?_)
   refine ht 2 (h:=?_)
   refine ht 3 (h:=?_)
   refine ht 4 (h:=?_)
   refine ht 5 (h:=?_)
   refine ht 6 (h:=?_)
   refine ht 7 (h:=?_)
   refine ht 8 (h:=?_)
   refine ht 9 (h:=?_)
   refine ht 10 (h:=?_)
   refine ht 11 (h:=?_)
   refine ht 12 (h:=?_)
   refine ht 13 (h:=?_)
   refine ht 14 (h:=?_)
   refine ht 15 (h:=?_)
   refine ht 16 (h:=?_)
   refine ht 17 (h:=?_)
   refine r1 (i:=18) (by kernel_rfl) rfl fun K hK=>?_
   go_simp
   refine(zat 2 _).mono ?_;rintro e w' ⟨rfl,rfl⟩
   refine hK.out _ _ ?_ (fun aa=>?_)
   ·(try dsimp only);exact⟨ac.o,ab.o,au.o⟩
   clear hK K
   try simp only[qW]
   refine wpAnyH_done (by kernel_rfl) ?_ _
   refine NoPanic.normal ?_
   iterate 20 (try clear aa)
   have HA:=qG ha
   have aC:=qG am
   clear aK aL
   generalize hV0:w.drew=V0 at *
   have aM:=qG (show Below w.heap.size w V0 from hV0▸(Below.refl _ w).drew)
   replace ae:=qG (ae.o.below aM.o)
   clear hV0
   have hk:a.toNat<s.b.t.admits.length:=by omega
   obtain⟨av,aD⟩:∃ av,s.b.t.admits[a.toNat]?=some av:=⟨_,qN hk⟩
   have aU:=qG aD
   obtain⟨g,cap,eb,ev,aE⟩:=Rw.ok.elem (ae.o.o.row 5 (by decide)) HP.o.fl.h.ro.r5 zbp (by decide) aD
   have aV:A5=some ⟨g,0,none⟩/\c5=cap+1:=by have:=HS.o.e5;rw[ev] at this;injection this with q1 _ q2;exact⟨q1.symm,q2.symm⟩
   obtain⟨rfl,rfl⟩:=aV
   have aW:=qG eb
   have aN:=qG ev
   have aw:=qG (show V0.cell? ⟨g,a.toNat,none⟩=some (.int .i64 av) from by have:=(aE 0 _ rfl).1;rw[Nat.mul_one,Nat.add_zero] at this;exact this)
   have aX:=qG (show V0.frozen? ⟨g,a.toNat,none⟩=false from by have:=(aE 0 _ rfl).2;rw[Nat.mul_one,Nat.add_zero] at this;exact this)
   have aq:=qG (show V0.cell? ⟨f,7,none⟩=some (.slice (some ⟨g,0,none⟩) s.b.t.admits.length (cap+1)) from ae.o.x.c 7 _ rfl)
   have ar:=qG (ae.o.cell aj.o ac.o)
   have a7:=qG (ae.o.cell aj.o ab.o)
   have aF:=qG (show s.b.t.admits.getD a.toNat 0=av from by rw[qP,aU.o];rfl)
   clear aD eb ev aE am
   go_upto_region 2 with fail
   by_cases hs:av=-1
   .have he:(av==-1)=true:=by simp[hs]
    have aO:=qG hs
    clear hs
    refine wp_region_noPanic ?_
    refine wp_region_held_drew (S:=(fun W=>W.cell? ⟨b,off,none⟩=some (.int .i64 a)/\W.cell? ⟨f,7,none⟩=some (.slice (some ⟨g,0,none⟩) s.b.t.admits.length (cap+1))/\W.cell? ⟨g,a.toNat,none⟩=some (.int .i64 av))) (by kernel_rfl) ?_ (fun aa=>?_)
    ·(try dsimp only);exact⟨ar.o,aq.o,aw.o⟩
    refine ht 0 (h:=?_)
    refine ht 1 (h:=?_)
    refine ht 2 (h:=?_)
    refine ht 3 (h:=?_)
    refine ht 4 (h:=?_)
    refine ht 5 (h:=?_)
    refine ht 6 (h:=?_)
    refine ht 7 (h:=?_)
    refine ht 8 (h:=?_)
    refine ht 9 (h:=?_)
    refine ht 10 (h:=?_)
    refine ht 11 (h:=?_)
    refine ht 12 (h:=?_)
    refine r1 (i:=13) (by kernel_rfl) rfl fun K hK=>?_
    go_simp
    refine(zat 5 _).mono ?_;rintro e w' ⟨rfl,rfl⟩
    refine hK.out _ _ ?_ (fun aa=>?_)
    ·(try dsimp only);exact⟨ar.o,aq.o,aw.o⟩
    clear hK K
    try simp only[qW]
    refine wpAnyH_done (by kernel_rfl) ?_ _
    refine NoPanic.normal ?_
    iterate 15 (try clear aa)
    clear he
    generalize hV1:V0.drew=V1 at *
    have ax:=qG (show Mid w V1 f R R (seL d s A0 c0 A1 c1 A2 c2 A3 c3 A4 c4 (some ⟨g,0,none⟩) (cap+1) A6 c6) from hV1▸ae.o.drew)
    have x1:V1.cell? ⟨g,a.toNat,none⟩=some (.int .i64 av):=hV1▸aw.o
    have x2:V1.frozen? ⟨g,a.toNat,none⟩=false:=hV1▸aX.o
    clear hV1
    have y7:=ax.o.x.c 7 _ rfl
    have y1:=ax.o.cell aj.o ac.o
    have y2:=ax.o.cell aj.o ab.o
    go_upto_region 3 with fail
    go_region
    have hj:a.toNat<(R 5).xs.length:=by rw[HP.o.fl.h.ro.r5.2.2.2,zbr (size:=1) (fun _=>rfl)];omega
    have af:=qG ((ax.o.setR (k:=5) (by decide) aW.o hj (.int .i64 b2)).drew)
    have ay:=qG (show RowsOk (upR R 5 { R 5 with xs:=(R 5).xs.set a.toNat (.int .i64 b2) }) cs ps { s.b with t:=⟨s.b.t.n,s.b.t.loans,s.b.t.looks,s.b.t.admits.set a.toNat b2⟩ } from by
     have ro:=HP.o.fl.h.ro
     exact⟨ro.r0,ro.r1,ro.r2,ro.r3,ro.r4,⟨ro.r5.1,ro.r5.2.1,by show _=(s.b.t.admits.set _ _).length;rw[List.length_set];exact ro.r5.2.2.1,by show(R 5).xs.set _ _=(s.b.t.admits.set _ _).flatMap _;rw[ro.r5.2.2.2,zdK]⟩,ro.r6⟩)
    generalize(V1.setCell ⟨g,a.toNat,none⟩ (.int .i64 b2)).drew=V2 at *
    clear x1 x2 y7 y1 y2 hj
    obtain⟨tl,ag⟩:∃ tl:Le.Tl,tl=⟨s.b.t.n,s.b.t.loans,s.b.t.looks,s.b.t.admits.set a.toNat b2⟩:=⟨_,rfl⟩
    have aP:tl.admits.length=s.b.t.admits.length:=by rw[ag];show(s.b.t.admits.set _ _).length=_;rw[List.length_set]
    have aY:=qG (show TaleAt V2 V2.heap.size ⟨tl,A3,c3,A4,c4,some ⟨g,0,none⟩,cap+1⟩ from by
     rw[ag]
     refine af.o.tale _ ay.o.r3 ay.o.r4 ay.o.r5 HS.o.e3 HS.o.e4 ?_ ?_ ?_ ?_
     .show(R 5).v=.slice (some ⟨g,0,none⟩) (s.b.t.admits.set _ _).length (cap+1);rw[List.length_set];exact aN.o
     .show s.b.t.loans.length<=_;have:=aA.o.lo;omega
     .show s.b.t.looks.length<=_;have:=aA.o.lk;omega
     .show(s.b.t.admits.set _ _).length<=_;rw[List.length_set];have:=aA.o.a2;omega)
    have aZ:=qG (zci tl A3 c3 A4 c4 (some ⟨g,0,none⟩) (cap+1) f V2 (by rw[ag];exact af.o.x.c 4 _ rfl) (by rw[ag];exact af.o.x.c 5 _ rfl) (by rw[ag];exact af.o.x.c 6 _ rfl) (by rw[aP];exact af.o.x.c 7 _ rfl) aY.o)
    have ak:=qG ag
    clear ag aP
    go_wp2_with fail
    refine aZ.o.mono ?_
    rintro e V3 ⟨hb,⟨h,rfl⟩|⟨h,rfl⟩⟩
    .have HF:=qG h
     have ah:=qG (af.o.below hb)
     have an:=qG (ah.o.cell aj.o ac.o)
     have ao:=qG (ah.o.cell aj.o ab.o)
     clear h hb
     go_upto_region 5 with fail
     have aR:=qG (show ∀ x∈[Pa.w Vb.admit.name,Pa.n (a),Pa.n (b2)],x.ok from by simp only[List.forall_mem_cons];exact⟨by show _<=20;decide,⟨aB.o.1,by have:=aB.o.2;omega⟩,⟨aJ.o.1,by have:=aJ.o.2;omega⟩,fun x hx=>by cases hx⟩)
     refine wp_region_noPanic ?_
     refine wp_region_held_drew (S:=(fun W=>W.cell? ⟨b,off,none⟩=some (.int .i64 a)/\W.cell? ⟨b,off+1,none⟩=some (.int .i64 b2))) (by kernel_rfl) ?_ (fun aa=>?_)
     ·(try dsimp only);exact⟨an.o,ao.o⟩
     refine ht 0 (h:=?_)
     refine ht 1 (h:=?_)
     refine ht 2 (h:=?_)
     refine ht 3 (h:=?_)
     refine ht 4 (h:=?_)
     refine ht 5 (h:=?_)
     refine ht 6 (h:=?_)
     refine ht 7 (h:=?_)
     refine ht 8 (h:=?_)
     refine r1 (i:=9) (by kernel_rfl) rfl fun K hK=>?_
     go_simp
     have aQ:=qG (nxA V3 (.cells (([Pa.w Vb.admit.name,Pa.n (a),Pa.n (b2)]:List Pa).map Pa.v).toArray 20))
     refine hK.out _ _ ?_ (fun aa=>?_)
     ·(try dsimp only);exact⟨(aQ.o.cell (p:=⟨b,off,none⟩) (zaa an.o)).trans an.o,(aQ.o.cell (p:=⟨b,off+1,none⟩) (zaa ao.o)).trans ao.o⟩
     clear hK K
     try simp only[qW]
     refine r1 (i:=10) (by kernel_rfl) rfl fun K hK=>?_
     go_simp
     refine(zeS V3 [Pa.w Vb.admit.name,Pa.n (a),Pa.n (b2)] (ah.o.env HP.o) (by simp) (by simp) aR.o).mono ?_;rintro e V9 ⟨rfl,aG⟩;have aH:=qG aG;clear aG
     refine hK.out _ _ ?_ (fun aa=>?_)
     ·(try dsimp only);exact⟨(aH.o.cell (p:=⟨b,off,none⟩) (zaa an.o)).trans an.o,(aH.o.cell (p:=⟨b,off+1,none⟩) (zaa ao.o)).trans ao.o⟩
     clear hK K
     try simp only[qW]
     refine ht 11 (h:=?_)
     refine wpAnyH_done (by kernel_rfl) ?_ _
     refine NoPanic.normal ?_
     iterate 13 (try clear aa)
     go_wp2_with fail
     go_ret
     rw[show resV d s .admit [a,b2]=.ok (⟨{ s.b with t:=tl },s.plans,s.planned⟩,rep [Pa.w Vb.admit.name,Pa.n (a),Pa.n (b2)]) from by unfold resV doV;simp only[List.getD_cons_zero,List.getD_cons_succ];rw[if_neg (fun k=>k ⟨HA.o,aC.o⟩),if_neg (by rw[aF.o];exact fun k=>k aO.o),if_neg (fun k=>k (by rw[<- ak.o];exact HF.o)),<- ak.o];rfl]
     refine zbu (HP.o.fl.up1 (s':=⟨{ s.b with t:=tl },s.plans,s.planned⟩) ah.o.turn ah.o.o ?_ ?_ HP.o.fl.h.ec (fun c hc=>.inl hc) HP.o.fl.h.hp (fun x hx=>.inl hx)) ah.o.turn aH.o rfl
     .rw[ak.o];exact zcn HS.o.e0 HS.o.e1 HS.o.e2 HS.o.e3 HS.o.e4 (v5:=.slice (some ⟨g,0,none⟩) (s.b.t.admits.set a.toNat b2).length (cap+1)) (by show(R 5).v=_;rw[List.length_set];exact aN.o) HS.o.e6 (by rw[List.length_set];exact ah.o.x)
     .rw[ak.o];exact ay.o
    .rw[show resV d s .admit [a,b2]=.error (fitE tl) from by unfold resV doV;simp only[List.getD_cons_zero,List.getD_cons_succ];rw[if_neg (fun k=>k ⟨HA.o,aC.o⟩),if_neg (by rw[aF.o];exact fun k=>k aO.o),if_pos (by rw[<- ak.o];exact h),<- ak.o]]
     exact⟨rfl,af.o.late rfl (by simp[seL]) hb rfl⟩
   .have he:(av==-1)=false:=by simp[hs]
    have ai:=qG (show ∀ w',Below w.heap.size w w'->RetF O w f R d (resV d s .admit [a,b2]) (.panicked (zaF 5)) w' from fun w' hb=>by rw[show resV d s .admit [a,b2]=.error 5 from by unfold resV doV;simp only[List.getD_cons_zero,List.getD_cons_succ];rw[if_neg (fun k=>k ⟨HA.o,aC.o⟩),if_pos (by rw[aF.o];exact hs)]];exact zau HP.o.fl hb rfl)
    refine zru (fun ch W'=>ch=zaF 5/\Below w.heap.size w W') (fun ch a' w' hd h=>by obtain⟨rfl,h⟩:=h;exact⟨hd,ai.o w' h⟩) ?_
    refine wp_region_held_drew (S:=(fun W=>W.cell? ⟨b,off,none⟩=some (.int .i64 a)/\W.cell? ⟨f,7,none⟩=some (.slice (some ⟨g,0,none⟩) s.b.t.admits.length (cap+1))/\W.cell? ⟨g,a.toNat,none⟩=some (.int .i64 av))) (by kernel_rfl) ?_ (fun aa=>?_)
    ·(try dsimp only);exact⟨ar.o,aq.o,aw.o⟩
    refine ht 0 (h:=?_) (hQ:=fun _ _ _=>zrr)
    refine ht 1 (h:=?_) (hQ:=fun _ _ _=>zrr)
    refine ht 2 (h:=?_) (hQ:=fun _ _ _=>zrr)
    refine ht 3 (h:=?_) (hQ:=fun _ _ _=>zrr)
    refine ht 4 (h:=?_) (hQ:=fun _ _ _=>zrr)
    refine ht 5 (h:=?_) (hQ:=fun _ _ _=>zrr)
    refine ht 6 (h:=?_) (hQ:=fun _ _ _=>zrr)
    refine ht 7 (h:=?_) (hQ:=fun _ _ _=>zrr)
    refine ht 8 (h:=?_) (hQ:=fun _ _ _=>zrr)
    refine ht 9 (h:=?_) (hQ:=fun _ _ _=>zrr)
    refine ht 10 (h:=?_) (hQ:=fun _ _ _=>zrr)
    refine ht 11 (h:=?_) (hQ:=fun _ _ _=>zrr)
    refine ht 12 (h:=?_) (hQ:=fun _ _ _=>zrr)
    refine r1 (i:=13) (by kernel_rfl) rfl fun K hK=>?_
    go_simp
    refine(zak 5 _).mono ?_;rintro e w' ⟨rfl,rfl⟩;exact⟨rfl,rfl,aM.o.drew⟩
  .have aL:decide (b2<=16)=false:=decide_eq_false am
   have ai:=qG (show ∀ w',Below w.heap.size w w'->RetF O w f R d (resV d s .admit [a,b2]) (.panicked (zaF 2)) w' from fun w' hb=>by rw[show resV d s .admit [a,b2]=.error 2 from by unfold resV doV;simp only[List.getD_cons_zero,List.getD_cons_succ];rw[if_pos (fun k=>am k.2)]];exact zau HP.o.fl hb rfl)
   refine zru (fun ch W'=>ch=zaF 2/\Below w.heap.size w W') (fun ch a' w' hd h=>by obtain⟨rfl,h⟩:=h;exact⟨hd,ai.o w' h⟩) ?_
   refine wp_region_held_drew (S:=(fun W=>W.cell? ⟨b,off,none⟩=some (.int .i64 a)/\W.cell? ⟨b,off+1,none⟩=some (.int .i64 b2)/\W.cell? ⟨f,7,none⟩=some (.slice A5 s.b.t.admits.length c5))) (by kernel_rfl) ?_ (fun aa=>?_)
   ·(try dsimp only);exact⟨ac.o,ab.o,au.o⟩
   refine ht 0 (h:=?_) (hQ:=fun _ _ _=>zrr)
   refine ht 1 (h:=?_) (hQ:=fun _ _ _=>zrr)
   refine ht 2 (h:=?_) (hQ:=fun _ _ _=>zrr)
   refine ht 3 (h:=?_) (hQ:=fun _ _ _=>zrr)
   refine ht 4 (h:=?_) (hQ:=fun _ _ _=>zrr)
   refine ht 5 (h:=?_) (hQ:=fun _ _ _=>zrr)
   refine ht 6 (h:=?_) (hQ:=fun _ _ _=>zrr)
   refine ht 7 (h:=?_) (hQ:=fun _ _ _=>zrr)
   refine ht 8 (h:=?_) (hQ:=fun _ _ _=>zrr)
   refine ht 9 (h:=?_) (hQ:=fun _ _ _=>zrr)
   refine ht 10 (h:=?_) (hQ:=fun _ _ _=>zrr)
   refine ht 11 (h:=?_) (hQ:=fun _ _ _=>zrr)
   refine ht 12 (h:=?_) (hQ:=fun _ _ _=>zrr)
   refine ht 13 (h:=?_) (hQ:=fun _ _ _=>zrr)
   refine ht 14 (h:=?_) (hQ:=fun _ _ _=>zrr)
   refine ht 15 (h:=?_) (hQ:=fun _ _ _=>zrr)
   refine ht 16 (h:=?_) (hQ:=fun _ _ _=>zrr)
   refine ht 17 (h:=?_) (hQ:=fun _ _ _=>zrr)
   refine r1 (i:=18) (by kernel_rfl) rfl fun K hK=>?_
   go_simp
   refine(zak 2 _).mono ?_;rintro e w' ⟨rfl,rfl⟩;exact⟨rfl,rfl,(Below.refl _ w).drew⟩
 .have aK:decide (a<(s.b.t.admits.length:Int))=false:=decide_eq_false ha
  have ai:=qG (show ∀ w',Below w.heap.size w w'->RetF O w f R d (resV d s .admit [a,b2]) (.panicked (zaF 2)) w' from fun w' hb=>by rw[show resV d s .admit [a,b2]=.error 2 from by unfold resV doV;simp only[List.getD_cons_zero,List.getD_cons_succ];rw[if_pos (fun k=>ha k.1)]];exact zau HP.o.fl hb rfl)
  refine zru (fun ch W'=>ch=zaF 2/\Below w.heap.size w W') (fun ch a' w' hd h=>by obtain⟨rfl,h⟩:=h;exact⟨hd,ai.o w' h⟩) ?_
  refine wp_region_held_drew (S:=(fun W=>W.cell? ⟨b,off,none⟩=some (.int .i64 a)/\W.cell? ⟨b,off+1,none⟩=some (.int .i64 b2)/\W.cell? ⟨f,7,none⟩=some (.slice A5 s.b.t.admits.length c5))) (by kernel_rfl) ?_ (fun aa=>?_)
  ·(try dsimp only);exact⟨ac.o,ab.o,au.o⟩
  refine ht 0 (h:=?_) (hQ:=fun _ _ _=>zrr)
  refine ht 1 (h:=?_) (hQ:=fun _ _ _=>zrr)
  refine ht 2 (h:=?_) (hQ:=fun _ _ _=>zrr)
  refine ht 3 (h:=?_) (hQ:=fun _ _ _=>zrr)
  refine ht 4 (h:=?_) (hQ:=fun _ _ _=>zrr)
  refine ht 5 (h:=?_) (hQ:=fun _ _ _=>zrr)
  refine ht 6 (h:=?_) (hQ:=fun _ _ _=>zrr)
  refine ht 7 (h:=?_) (hQ:=fun _ _ _=>zrr)
  refine ht 8 (h:=?_) (hQ:=fun _ _ _=>zrr)
  refine ht 9 (h:=?_) (hQ:=fun _ _ _=>zrr)
  refine ht 10 (h:=?_) (hQ:=fun _ _ _=>zrr)
  refine ht 11 (h:=?_) (hQ:=fun _ _ _=>zrr)
  refine ht 12 (h:=?_) (hQ:=fun _ _ _=>zrr)
  refine zaf (i:=13) rfl (by kernel_rfl) (by kernel_rfl) (by kernel_rfl) (fun _ _ _ h=>zrr h) (Or.inr ⟨by rfl,rfl⟩) (by assumption) ?_
  try simp only[qW]
  refine zaf (i:=14) rfl (by kernel_rfl) (by kernel_rfl) (by kernel_rfl) (fun _ _ _ h=>zrr h) (Or.inr ⟨by rfl,rfl⟩) (by assumption) ?_
  try simp only[qW]
  refine zaf (i:=15) rfl (by kernel_rfl) (by kernel_rfl) (by kernel_rfl) (fun _ _ _ h=>zrr h) (Or.inr ⟨by rfl,rfl⟩) (by assumption) ?_
  try simp only[qW]
  refine zaf (i:=16) rfl (by kernel_rfl) (by kernel_rfl) (by kernel_rfl) (fun _ _ _ h=>zrr h) (Or.inr ⟨by rfl,rfl⟩) (by assumption) ?_
  try simp only[qW]
  refine ht 17 (h:=?_) (hQ:=fun _ _ _=>zrr)
  refine r1 (i:=18) (by kernel_rfl) rfl fun K hK=>?_
  go_simp
  refine(zak 2 _).mono ?_;rintro e w' ⟨rfl,rfl⟩;exact⟨rfl,rfl,(Below.refl _ w).drew⟩
end
section
open Go.RowKit
open Le (At Bx setCells zad nxA Ret RetQ za5 zbE)
open Cu (MapIs setO)
open Go.Maps (Keyed)
theorem zfT(A:Option Addr)(c:Nat)(l:List Tx)(hl:l.length<=1000)(ht:∀ t∈l,t.length<=1000)(bx:Nat)(w:World)(hb:Bx w bx [.slice A l.length c])(h:At w bx 1 zfl A l) :
  Calls Tryz.prog 129 #[.func (.func 200) #[] #[.pointer (some ⟨bx,0,none⟩)]] w (zlo (zaP l) w):=by
 have HA:=qG (ziN A c l hl ht bx w hb h)
 clear hb h
 go_enter Tryz.func129,Tryz.ntmps129
 go_wp2_with fail
 refine HA.o.mono ?_
 rintro e w' ⟨hb,ho⟩
 cases hf:zaP l with
|none=>
  rw[hf] at ho
  subst ho
  exact⟨rfl,hb,rfl⟩
|some r=>
  rw[hf] at ho
  obtain⟨v,rfl,hv⟩:=ho
  have HB:=qG hb
  have HV:=qG hv
  have HF:=qG hf
  clear hb hv hf
  go_wp2_with fail
  go_ret
  exact⟨HB.o,by rw[HF.o];exact⟨v,rfl,HV.o⟩⟩
def vbV(v:Vb):Value:=.agg #[.int .i64 v.many,.func (.func (vbF v)) #[] #[],.bool v.clock]
def kvT(t:Tx):Value:=tx t
theorem zbo:∀ p q:Tx,kvT p=kvT q->p=q:=fun p q h=>by
 unfold kvT at h
 injection h with h
 injection h with h
 exact Array.toList_inj.2 h |> fun e=>by simpa using e
theorem zkP:Tryz.prog.underlying 9=some .string:=by kernel_rfl
theorem zbD:Tryz.prog.underlying 242=some (.map 9 141):=by kernel_rfl
theorem zaZ:Keyed Tryz.prog 9:=Maps.string_keyed zkP
theorem zbl{t:Tx}(h:t.length<=1000):∃ l,keyOf Tryz.prog 9 (kvT t)=some l:=⟨_,Go.WideMaps.keyOf_string_mk zkP (by show t.toArray.size<=_;simp;unfold maxLen;omega)⟩
theorem zqA(p:Tx):setO (setO (setO (setO (setO (setO (setO (setO (setO (setO (setO (setO (setO (setO ((fun _=>none:Tx->Option Vb)) Vb.hour.name Vb.hour) Vb.drop.name Vb.drop) Vb.cut.name Vb.cut) Vb.join.name Vb.join) Vb.lines.name Vb.lines) Vb.make.name Vb.make) Vb.bend.name Vb.bend) Vb.off.name Vb.off) Vb.lend.name Vb.lend) Vb.back.name Vb.back) Vb.seen.name Vb.seen) Vb.admit.name Vb.admit) Vb.who.name Vb.who) Vb.lost.name Vb.lost p=vbOf p:=by
 by_cases h:∃ v:Vb,p=v.name
 .obtain⟨v,rfl⟩:=h
  cases v <;> rfl
 .have hn:∀ v:Vb,¬ p=v.name:=fun v e=>h ⟨v,e⟩
  have hs:vbOf p=none:=by
   unfold vbOf
   rw[List.find?_eq_none]
   intro v _
   rw[qC]
   exact fun e=>hn v e.symm
  rw[hs]
  simp only[setO,hn,if_false]
theorem za7{a b c:World}{g:Nat}(h:Below a.heap.size a b)(hg:a.heap.size<=g)(k:b.grownBy c (some g)):Below a.heap.size a c:=h.trans (zb7 k (fun r e=>by cases e;exact hg) h.size)
theorem zdD(w:World):Calls Tryz.prog 128 #[] w fun e w'=>∃ b,e=.returned (.map (some b))/\MapIs Tryz.prog 9 kvT vbV b vbOf w'/\Below w.heap.size w w':=by
 have aa:=@run_makeMap Tryz.prog
 have mx:=MapIs.made Tryz.prog 9 kvT vbV w
 obtain⟨l0,k0⟩:=zbl (t:=Vb.hour.name) (by decide)
 obtain⟨W0,r0,m0,g0,-⟩:=mx.upd zaZ zbo zbD k0 Vb.hour
 have q0:(Instr.mapUpdate 242 (.map (some w.heap.size)) (.string ⟨#[104,111,117,114]⟩) (.agg #[.int .i64 1,.func (.func 185) #[] #[],.bool true])).run Tryz.prog (w.alloc (.map #[] 0))=.ok () W0:=r0
 clear r0
 obtain⟨l1,k1⟩:=zbl (t:=Vb.drop.name) (by decide)
 obtain⟨W1,r1,m1,g1,-⟩:=m0.upd zaZ zbo zbD k1 Vb.drop
 have q1:(Instr.mapUpdate 242 (.map (some w.heap.size)) (.string ⟨#[100,114,111,112]⟩) (.agg #[.int .i64 0,.func (.func 186) #[] #[],.bool true])).run Tryz.prog W0=.ok () W1:=r1
 clear r1
 obtain⟨l2,k2⟩:=zbl (t:=Vb.cut.name) (by decide)
 obtain⟨W2,r2,m2,g2,-⟩:=m1.upd zaZ zbo zbD k2 Vb.cut
 have q2:(Instr.mapUpdate 242 (.map (some w.heap.size)) (.string ⟨#[99,117,116]⟩) (.agg #[.int .i64 (-1),.func (.func 187) #[] #[],.bool false])).run Tryz.prog W1=.ok () W2:=r2
 clear r2
 obtain⟨l3,k3⟩:=zbl (t:=Vb.join.name) (by decide)
 obtain⟨W3,r3,m3,g3,-⟩:=m2.upd zaZ zbo zbD k3 Vb.join
 have q3:(Instr.mapUpdate 242 (.map (some w.heap.size)) (.string ⟨#[106,111,105,110]⟩) (.agg #[.int .i64 3,.func (.func 188) #[] #[],.bool false])).run Tryz.prog W2=.ok () W3:=r3
 clear r3
 obtain⟨l4,k4⟩:=zbl (t:=Vb.lines.name) (by decide)
 obtain⟨W4,r4,m4,g4,-⟩:=m3.upd zaZ zbo zbD k4 Vb.lines
 have q4:(Instr.mapUpdate 242 (.map (some w.heap.size)) (.string ⟨#[108,105,110,101,115]⟩) (.agg #[.int .i64 1,.func (.func 189) #[] #[],.bool false])).run Tryz.prog W3=.ok () W4:=r4
 clear r4
 obtain⟨l5,k5⟩:=zbl (t:=Vb.make.name) (by decide)
 obtain⟨W5,r5,m5,g5,-⟩:=m4.upd zaZ zbo zbD k5 Vb.make
 have q5:(Instr.mapUpdate 242 (.map (some w.heap.size)) (.string ⟨#[109,97,107,101]⟩) (.agg #[.int .i64 2,.func (.func 190) #[] #[],.bool false])).run Tryz.prog W4=.ok () W5:=r5
 clear r5
 obtain⟨l6,k6⟩:=zbl (t:=Vb.bend.name) (by decide)
 obtain⟨W6,r6,m6,g6,-⟩:=m5.upd zaZ zbo zbD k6 Vb.bend
 have q6:(Instr.mapUpdate 242 (.map (some w.heap.size)) (.string ⟨#[98,101,110,100]⟩) (.agg #[.int .i64 1,.func (.func 191) #[] #[],.bool false])).run Tryz.prog W5=.ok () W6:=r6
 clear r6
 obtain⟨l7,k7⟩:=zbl (t:=Vb.off.name) (by decide)
 obtain⟨W7,r7,m7,g7,-⟩:=m6.upd zaZ zbo zbD k7 Vb.off
 have q7:(Instr.mapUpdate 242 (.map (some w.heap.size)) (.string ⟨#[111,102,102]⟩) (.agg #[.int .i64 1,.func (.func 192) #[] #[],.bool false])).run Tryz.prog W6=.ok () W7:=r7
 clear r7
 obtain⟨l8,k8⟩:=zbl (t:=Vb.lend.name) (by decide)
 obtain⟨W8,r8,m8,g8,-⟩:=m7.upd zaZ zbo zbD k8 Vb.lend
 have q8:(Instr.mapUpdate 242 (.map (some w.heap.size)) (.string ⟨#[108,101,110,100]⟩) (.agg #[.int .i64 1,.func (.func 193) #[] #[],.bool false])).run Tryz.prog W7=.ok () W8:=r8
 clear r8
 obtain⟨l9,k9⟩:=zbl (t:=Vb.back.name) (by decide)
 obtain⟨W9,r9,m9,g9,-⟩:=m8.upd zaZ zbo zbD k9 Vb.back
 have q9:(Instr.mapUpdate 242 (.map (some w.heap.size)) (.string ⟨#[98,97,99,107]⟩) (.agg #[.int .i64 0,.func (.func 194) #[] #[],.bool false])).run Tryz.prog W8=.ok () W9:=r9
 clear r9
 obtain⟨l10,k10⟩:=zbl (t:=Vb.seen.name) (by decide)
 obtain⟨W10,r10,m10,g10,-⟩:=m9.upd zaZ zbo zbD k10 Vb.seen
 have q10:(Instr.mapUpdate 242 (.map (some w.heap.size)) (.string ⟨#[115,101,101,110]⟩) (.agg #[.int .i64 2,.func (.func 195) #[] #[],.bool false])).run Tryz.prog W9=.ok () W10:=r10
 clear r10
 obtain⟨l11,k11⟩:=zbl (t:=Vb.admit.name) (by decide)
 obtain⟨W11,r11,m11,g11,-⟩:=m10.upd zaZ zbo zbD k11 Vb.admit
 have q11:(Instr.mapUpdate 242 (.map (some w.heap.size)) (.string ⟨#[97,100,109,105,116]⟩) (.agg #[.int .i64 2,.func (.func 196) #[] #[],.bool false])).run Tryz.prog W10=.ok () W11:=r11
 clear r11
 obtain⟨l12,k12⟩:=zbl (t:=Vb.who.name) (by decide)
 obtain⟨W12,r12,m12,g12,-⟩:=m11.upd zaZ zbo zbD k12 Vb.who
 have q12:(Instr.mapUpdate 242 (.map (some w.heap.size)) (.string ⟨#[119,104,111]⟩) (.agg #[.int .i64 1,.func (.func 197) #[] #[],.bool false])).run Tryz.prog W11=.ok () W12:=r12
 clear r12
 obtain⟨l13,k13⟩:=zbl (t:=Vb.lost.name) (by decide)
 obtain⟨W13,r13,m13,g13,-⟩:=m12.upd zaZ zbo zbD k13 Vb.lost
 have q13:(Instr.mapUpdate 242 (.map (some w.heap.size)) (.string ⟨#[108,111,115,116]⟩) (.agg #[.int .i64 1,.func (.func 198) #[] #[],.bool false])).run Tryz.prog W12=.ok () W13:=r13
 clear r13
 have HM:=qG (m13.eq zqA)
 have HB:=qG (za7 (za7 (za7 (za7 (za7 (za7 (za7 (za7 (za7 (za7 (za7 (za7 (za7 (za7 (nxA w (.map #[] 0)) (qQ _) g0) (qQ _) g1) (qQ _) g2) (qQ _) g3) (qQ _) g4) (qQ _) g5) (qQ _) g6) (qQ _) g7) (qQ _) g8) (qQ _) g9) (qQ _) g10) (qQ _) g11) (qQ _) g12) (qQ _) g13)
 clear mx m0 g0 k0 m1 g1 k1 m2 g2 k2 m3 g3 k3 m4 g4 k4 m5 g5 k5 m6 g6 k6 m7 g7 k7 m8 g8 k8 m9 g9 k9 m10 g10 k10 m11 g11 k11 m12 g12 k12 m13 g13 k13
 go_enter Tryz.func128,Tryz.ntmps128
 go_wp2_with fail
 go_ret
 exact⟨_,rfl,HM.o,HB.o⟩
end
section
open Go.RowKit
open Le
open Cu (MapIs setO)
open Go.Maps (Keyed)
def zra(o:Option En)(w:World)(e:Ending)(w':World):Prop:=Below w.heap.size w w'/\match o with
|some x=>∃ A c,e=.returned (.agg (enL x A c).toArray)/\At w' w'.heap.size 1 zad A x.n/\x.n.length<=c/\∀ a,A=some a->w.heap.size<=a.block
|none=>e=.panicked (zaF 8)
def vzV:Value:=.agg #[.int .i64 0,.nilFunc,.bool false]
theorem zpy(u:World):(zeroValue 141).run Tryz.prog u=.ok vzV u:=by kernel_rfl
theorem zbi{W:World}{g o:Nat}{v:Value}(h:W.cell? ⟨g,o,none⟩=some v):g<W.heap.size:=by
 unfold World.cell? at h
 split at h
 .rename_i ho;exact(qB.1 ho).1
 .cases h
theorem zft{W:World}{b0 off g:Nat}{x y z:Value}(h:b0≠g):(((W.setCell ⟨g,0,none⟩ x).setCell ⟨g,1,none⟩ y).setCell ⟨g,2,none⟩ z).cell? ⟨b0,off,none⟩=W.cell? ⟨b0,off,none⟩:=by
 have aa:∀ j:Nat,(⟨g,j,none⟩:Addr)≠⟨b0,off,none⟩:=fun j e=>by injection e with e;exact h e.symm
 rw[qA _ _ _ _ (aa 2),qA _ _ _ _ (aa 1),qA _ _ _ _ (aa 0)]
def zj2(V:World)(x0 x1 x2:Value)(s3 s4:Value)(ok:Bool)(wx:World):Prop:=s4=.bool ok/\∃ b,s3=.pointer (some ⟨b,0,none⟩)/\V.heap.size<=b/\Bx wx b [x0,x1,x2]/\Below V.heap.size V wx
theorem _root_.Go.Proofs.YtankkcbofgighaaGreatDoor.Le.At.tail{α:Type}{w:World}{B size:Nat}{cells:α->List Value}{b off:Nat}{x:α}{l:List α}(h:At w B size cells (some ⟨b,off,none⟩) (x :: l)):At w B size cells (some ⟨b,off+size,none⟩) l:=fun k y hy=>by
 obtain⟨b',off',e,hb,hc⟩:=h (k+1) y (by simpa using hy)
 injection e with e
 injection e with e1 e2 _
 subst e1 e2
 exact⟨b,off+size,rfl,hb,fun j u hu=>by rw[<- hc j u hu,Nat.add_mul];congr 2;omega⟩
theorem zmw{w:World}{base:Nat}{e:TypeId}{v:Value}{l:List Int}(h:w.ownsRow base e 1 v l.length (l.map (Value.int .i64))):∃ A c,v=.slice A l.length c/\At w w.heap.size 1 zad A l/\l.length<=c/\∀ a,A=some a->base<=a.block:=by
 rcases h.2 with ⟨rfl,e2⟩|⟨g,cap,cur,rfl,hb,hh,hn,hc,hs,ht⟩
 .refine⟨none,0,by rw[e2],fun k x hx=>?_,by omega,fun a e=>by cases e⟩
  have:=(qO.1 hx).1
  omega
 .refine⟨some ⟨g,0,none⟩,cap,rfl,fun k x hx=>⟨g,0,rfl,(qB.1 hh).1,fun j u hu=>?_⟩,hn,fun a e=>by injection e with e;subst e;exact hb⟩
  have h0:j=0:=by
   have:=(qO.1 hu).1
   simp[zad] at this
   exact this
  subst h0
  have hu:Value.int .i64 x=u:=by simpa [zad] using hu
  subst hu
  have:=h.cells (g:=g) rfl k (.int .i64 x) (by rw[List.getElem?_map,hx];rfl)
  rw[show((⟨g,0,none⟩:Addr).add k)=⟨g,k,none⟩ by unfold Addr.add;split <;> simp_all] at this
  rw[Nat.mul_one,Nat.zero_add,Nat.add_zero]
  exact this
theorem zoH{a:Tx}{r:List Tx}(h:vbOf a=none):entS (a :: r)=none:=by simp only[entS,h]
theorem zqf{a:Tx}{r:List Tx}(h:zaP r=none):entS (a :: r)=none:=by simp only[entS,h];cases vbOf a <;> rfl
theorem zq3{a:Tx}{r:List Tx}{v:Vb}{n:List Int}(h:vbOf a=some v)(h2:zaP r=some n):entS (a :: r)=if zbF v n=true then some ⟨v,n⟩ else none:=by simp only[entS,h,h2]
theorem zkZ{w:World}{b:Nat}{a0 a1 a2 a3:Value}(h:Bx w b [a0,a1,a2,a3]):(loadVar 143 ⟨b,0,none⟩).run Tryz.prog w=.ok (.agg #[a0,a1,a2,a3]) w:=by
 have c0:=h.c 0 _ rfl
 have c1:=h.c 1 _ rfl
 have c2:=h.c 2 _ rfl
 have c3:=h.c 3 _ rfl
 clear h
 go_simp
theorem _root_.Go.Proofs.YtankkcbofgighaaGreatDoor.Le.At.apart{α:Type}{w w':World}{B B' size:Nat}{cells:α->List Value}{A:Option Addr}{l:List α}(h:At w B size cells A l)(hB:B<=B')
  (hk:∀ a,A=some a->∀ o,w'.cell? ⟨a.block,o,none⟩=w.cell? ⟨a.block,o,none⟩):At w' B' size cells A l:=fun k x hx=>by
 obtain⟨b,off,e,hb,hc⟩:=h k x hx
 exact⟨b,off,e,qM hb hB,fun j u hu=>(hk _ e _).trans (hc j u hu)⟩
theorem zq0{t:Tx}{n:Int}(h:figS t=some n):0<=n:=by
 unfold figS at h
 split at h
 .cases h
 .injection h with h;omega
theorem zk8:∀{l:List Tx} {n:List Int},zaP l=some n->∀ x∈n,0<=x
|[],n,h,x,hx=>by injection h with h;subst h;cases hx
|t :: l,n,h,x,hx=>by
  simp only[zaP] at h
  cases h1:figS t with
 |none=>rw[h1] at h;cases h
 |some y=>
   cases h2:zaP l with
  |none=>rw[h1,h2] at h;cases h
  |some r=>
    rw[h1,h2] at h
    injection h with h
    subst h
    rcases List.mem_cons.1 hx with rfl|hx
    .exact zq0 h1
    .exact zk8 h2 x hx
theorem zh9{x y:Int}(hx:0<=x)(hy:0<=y)(h0:x<=400)(h1:y<=400):0<=x*y/\x*y<=160000:=
 ⟨Int.mul_nonneg hx hy,by have:=Int.mul_le_mul h0 h1 hy (by omega);omega⟩
theorem zgs(x y:Int)(l:List Int):zbF .cut (x :: y :: l)=(decide (x<=400)&&(decide (y<=400)&&decide (((x :: y :: l).length:Int)=2+x*y))):=by
 show(decide (2<=l.length+2)&&_)=_
 rw[decide_eq_true (show 2<=l.length+2 by omega),Bool.true_and]
 rfl
theorem zn2(v:Vb):(v.many==-1)=decide (v=.cut):=by cases v <;> rfl
theorem zfS(b0 off c:Nat)(a:Tx)(r:List Tx)(w:World)(hl:(a :: r).length<=1000)(ht:∀ t∈a :: r,t.length<=1000)(hc:(a :: r).length<=c)(h:At w w.heap.size 1 zfl (some ⟨b0,off,none⟩) (a :: r)) :
  Calls Tryz.prog 65 #[.slice (some ⟨b0,off,none⟩) (a :: r).length c] w (zra (entS (a :: r)) w):=by
 have aF:=qG h
 have HT:=qG ht
 have aL:=qG (Bx.new w #[.int .i64 0,.nilFunc,.bool false,.slice none 0 0] 143)
 have ar:=qG (nxA w (.cells #[.int .i64 0,.nilFunc,.bool false,.slice none 0 0] 143))
 have bi:=qG (show w.heap.size<(w.alloc (.cells #[.int .i64 0,.nilFunc,.bool false,.slice none 0 0] 143)).heap.size from by simp)
 obtain⟨l0,aU⟩:=zbl (HT.o a (qE ..))
 have am:=qG (fun(bm:Nat) (W:World) (hm:MapIs Tryz.prog 9 kvT vbV bm vbOf W)=>(hm.look zaZ zbo zbD zpy aU).2)
 clear h ht aU
 go_enter Tryz.func65,Tryz.ntmps65
 go_upto_region 1 with fail
 generalize(w.alloc (.cells #[.int .i64 0,.nilFunc,.bool false,.slice none 0 0] 143))=V0 at *
 have bj:=(aF.o.below ar.o) 0 a rfl
 obtain⟨b,o,e0,bk,aB⟩:=bj
 injection e0 with e0
 injection e0 with e1 e2 _
 subst e1 e2
 have ah:=qG (show V0.cell? ⟨b0,off,none⟩=some (tx a) from by have:=aB 0 _ rfl;simpa using this)
 clear aB
 have an:=qG (show b0<V0.heap.size from qM bk ar.o.size)
 cases hv:vbOf a with
|none=>
  go_cut [3,4] (fun s3 s4 wx=>zj2 V0 (.int .i64 0) .nilFunc (.bool false) s3 s4 false wx)
  case first=>
   refine wp_region_noPanic ?_
   refine wp_region_held_drew (S:=(fun W=>W.cell? ⟨b0,off,none⟩=some (tx a))) (by kernel_rfl) ?_ (fun aa=>?_)
   ·(try dsimp only);first|exact ah.o|assumption
   refine ht 1 (h:=?_)
   refine ht 2 (h:=?_)
   refine ht 3 (h:=?_)
   refine wpAnyH_ready (rs:=[0,8]) (by kernel_rfl) (by simp) ?_
   refine zab rfl (fun K hK=>?_) (zab rfl (fun K hK=>?_) (AllReadyH.nil))
   go_simp
   refine(zdD _).mono ?_;rintro e V ⟨bm,rfl,hm,hb⟩;have ag:=qG hm;have ac:=qG hb;clear hm hb;try (have ab:=qG ((Bx.new V0.drew #[.int .i64 0,.nilFunc,.bool false] 141).next ac.o);have z0:=ab.o.c 0 _ rfl;have z1:=ab.o.c 1 _ rfl;have z2:=ab.o.c 2 _ rfl;have y0:=ab.o.fr 0;have y1:=ab.o.fr 1;have y2:=ab.o.fr 2;have zl:=ab.o.lt;change V.cell? ⟨V0.heap.size,0,none⟩=_ at z0;change V.cell? ⟨V0.heap.size,1,none⟩=_ at z1;change V.cell? ⟨V0.heap.size,2,none⟩=_ at z2;change V.frozen? ⟨V0.heap.size,0,none⟩=_ at y0;change V.frozen? ⟨V0.heap.size,1,none⟩=_ at y1;change V.frozen? ⟨V0.heap.size,2,none⟩=_ at y2;change V0.heap.size<_ at zl)
   refine hK.out _ _ ?_ (fun aa=>?_)
   ·(try dsimp only);exact(ac.o.cell (p:=⟨b0,off,none⟩) (zbi aa)).trans aa
   clear hK K
   try simp only[qW]
   refine wpAnyH_ready (rs:=[4,8]) (by kernel_rfl) (by simp) ?_
   refine zab rfl (fun K hK=>?_) (zab rfl (fun K hK=>?_) (AllReadyH.nil))
   go_simp
   have ae:∀ W:World,MapIs Tryz.prog 9 kvT vbV bm vbOf W->(Instr.lookup 242 (.map (some bm)) (tx a) true).run Tryz.prog W=.ok (.tuple #[.agg #[.int .i64 0,.nilFunc,.bool false],.bool false]) W:=(by intro W hW;have h4:=am.o bm W hW;rw[hv] at h4;exact h4);first|rw[ae _ ag.o]|rw[ae _ (ag.o.next (nxA V (.cells #[.int .i64 0,.nilFunc,.bool false] 141)))];simp only[Result.andThen];rw[Oper.upon_value];clear ae
   refine hK.out _ _ ?_ (fun aa=>?_)
   ·(try dsimp only);first|exact ah.o|assumption
   clear hK K
   try simp only[qW]
   refine ht 5 (h:=?_)
   refine ht 6 (h:=?_)
   refine ht 7 (h:=?_)
   refine r1 (i:=8) (by kernel_rfl) rfl fun K hK=>?_
   go_simp
   refine hK.out _ _ ?_ (fun aa=>?_)
   ·(try dsimp only);first|exact((nxA V (.cells #[.int .i64 0,.nilFunc,.bool false] 141)).cell (p:=⟨b0,off,none⟩) (zbi aa)).trans aa|exact((nxA V0.drew (.cells #[.int .i64 0,.nilFunc,.bool false] 141)).cell (p:=⟨b0,off,none⟩) (zbi aa)).trans aa
   clear hK K
   try simp only[qW]
   rotate_left
   go_simp
   refine hK.out _ _ ?_ (fun aa=>?_)
   ·(try dsimp only);first|exact((nxA V (.cells #[.int .i64 0,.nilFunc,.bool false] 141)).cell (p:=⟨b0,off,none⟩) (zbi aa)).trans aa|exact((nxA V0.drew (.cells #[.int .i64 0,.nilFunc,.bool false] 141)).cell (p:=⟨b0,off,none⟩) (zbi aa)).trans aa
   clear hK K
   try simp only[qW]
   refine r1 (i:=4) (by kernel_rfl) rfl fun K hK=>?_
   go_simp
   have ae:∀ W:World,MapIs Tryz.prog 9 kvT vbV bm vbOf W->(Instr.lookup 242 (.map (some bm)) (tx a) true).run Tryz.prog W=.ok (.tuple #[.agg #[.int .i64 0,.nilFunc,.bool false],.bool false]) W:=(by intro W hW;have h4:=am.o bm W hW;rw[hv] at h4;exact h4);first|rw[ae _ ag.o]|rw[ae _ (ag.o.next (nxA V (.cells #[.int .i64 0,.nilFunc,.bool false] 141)))];simp only[Result.andThen];rw[Oper.upon_value];clear ae
   refine hK.out _ _ ?_ (fun aa=>?_)
   ·(try dsimp only);first|exact ah.o|assumption
   clear hK K
   try simp only[qW]
   refine ht 5 (h:=?_)
   refine ht 6 (h:=?_)
   refine ht 7 (h:=?_)
   rotate_left
   go_simp
   refine hK.out _ _ ?_ (fun aa=>?_)
   ·(try dsimp only);first|exact((nxA V (.cells #[.int .i64 0,.nilFunc,.bool false] 141)).cell (p:=⟨b0,off,none⟩) (zbi aa)).trans aa|exact((nxA V0.drew (.cells #[.int .i64 0,.nilFunc,.bool false] 141)).cell (p:=⟨b0,off,none⟩) (zbi aa)).trans aa
   clear hK K
   try simp only[qW]
   refine r1 (i:=0) (by kernel_rfl) rfl fun K hK=>?_
   go_simp
   refine(zdD _).mono ?_;rintro e V ⟨bm,rfl,hm,hb⟩;have ag:=qG hm;have ac:=qG hb;clear hm hb;try (have ab:=qG ((Bx.new V0.drew #[.int .i64 0,.nilFunc,.bool false] 141).next ac.o);have z0:=ab.o.c 0 _ rfl;have z1:=ab.o.c 1 _ rfl;have z2:=ab.o.c 2 _ rfl;have y0:=ab.o.fr 0;have y1:=ab.o.fr 1;have y2:=ab.o.fr 2;have zl:=ab.o.lt;change V.cell? ⟨V0.heap.size,0,none⟩=_ at z0;change V.cell? ⟨V0.heap.size,1,none⟩=_ at z1;change V.cell? ⟨V0.heap.size,2,none⟩=_ at z2;change V.frozen? ⟨V0.heap.size,0,none⟩=_ at y0;change V.frozen? ⟨V0.heap.size,1,none⟩=_ at y1;change V.frozen? ⟨V0.heap.size,2,none⟩=_ at y2;change V0.heap.size<_ at zl)
   refine hK.out _ _ ?_ (fun aa=>?_)
   ·(try dsimp only);exact(ac.o.cell (p:=⟨b0,off,none⟩) (zbi aa)).trans aa
   clear hK K
   try simp only[qW]
   refine r1 (i:=4) (by kernel_rfl) rfl fun K hK=>?_
   go_simp
   have ae:∀ W:World,MapIs Tryz.prog 9 kvT vbV bm vbOf W->(Instr.lookup 242 (.map (some bm)) (tx a) true).run Tryz.prog W=.ok (.tuple #[.agg #[.int .i64 0,.nilFunc,.bool false],.bool false]) W:=(by intro W hW;have h4:=am.o bm W hW;rw[hv] at h4;exact h4);first|rw[ae _ ag.o]|rw[ae _ (ag.o.next (nxA V (.cells #[.int .i64 0,.nilFunc,.bool false] 141)))];simp only[Result.andThen];rw[Oper.upon_value];clear ae
   refine hK.out _ _ ?_ (fun aa=>?_)
   ·(try dsimp only);first|exact ah.o|assumption
   clear hK K
   try simp only[qW]
   refine ht 5 (h:=?_)
   refine ht 6 (h:=?_)
   refine ht 7 (h:=?_)
   all_goals
    refine r1 (i:=9) (by kernel_rfl) rfl fun K hK=>?_
    go_simp
    skip
    refine hK.out _ _ ?_ (fun aa=>?_)
    ·(try dsimp only);first|exact(zft (by first|exact Nat.ne_of_lt an.o|(have h9:V0.heap.size<=V.heap.size:=ac.o.size;have:=an.o;omega))).trans aa|exact((nxA V _).cell (p:=⟨b0,off,none⟩) (qM an.o ac.o.size)).trans ((ac.o.cell (p:=⟨b0,off,none⟩) an.o).trans ah.o)
    clear hK K
    try simp only[qW]
    refine ht 10 (h:=?_)
    refine wpAnyH_done (by kernel_rfl) ?_ _
    refine NoPanic.normal ?_
   iterate 12 (try clear aa)
   .go_wp2_with fail
    go_meet
    exact⟨rfl,V0.heap.size,rfl,qQ _,((ab.o.set (k:=0) (by simp) _).set (k:=1) (by simp) _).set (k:=2) (by simp) _,(((((nxA V0 _).drew.trans (ac.o.mono (nxA V0 (.cells #[.int .i64 0,.nilFunc,.bool false] 141)).size)).setCell (qQ _) _).setCell (qQ _) _).setCell (qQ _) _)⟩
   all_goals
    go_wp2_with fail
    go_meet
    exact⟨rfl,V.heap.size,rfl,ac.o.size,Bx.new V #[.int .i64 0,.nilFunc,.bool false] 141,((Below.refl _ V0).drew.trans ac.o).trans ((nxA V _).mono ac.o.size)⟩
  case rest=>
   obtain⟨rfl,b,rfl,hb,hx,ay⟩:=hcut
   have ao:=qG (ar.o.trans (ay.mono ar.o.size))
   clear hb hx ay am aF ah aL
   go_wp2_with fail
   refine(zak 8 wc).mono ?_
   rintro e w' ⟨rfl,rfl⟩
   exact⟨rfl,ao.o,by rw[zoH hv]⟩
|some v=>
  have HV:=qG hv
  have aM:=qG (zn2 v)
  clear hv
  go_cut [3,4] (fun s3 s4 wx=>zj2 V0 (.int .i64 v.many) (.func (.func (vbF v)) #[] #[]) (.bool v.clock) s3 s4 true wx)
  case first=>
   refine wp_region_noPanic ?_
   refine wp_region_held_drew (S:=(fun W=>W.cell? ⟨b0,off,none⟩=some (tx a))) (by kernel_rfl) ?_ (fun aa=>?_)
   ·(try dsimp only);first|exact ah.o|assumption
   refine ht 1 (h:=?_)
   refine ht 2 (h:=?_)
   refine ht 3 (h:=?_)
   refine wpAnyH_ready (rs:=[0,8]) (by kernel_rfl) (by simp) ?_
   refine zab rfl (fun K hK=>?_) (zab rfl (fun K hK=>?_) (AllReadyH.nil))
   go_simp
   refine(zdD _).mono ?_;rintro e V ⟨bm,rfl,hm,hb⟩;have ag:=qG hm;have ac:=qG hb;clear hm hb;try (have ab:=qG ((Bx.new V0.drew #[.int .i64 0,.nilFunc,.bool false] 141).next ac.o);have z0:=ab.o.c 0 _ rfl;have z1:=ab.o.c 1 _ rfl;have z2:=ab.o.c 2 _ rfl;have y0:=ab.o.fr 0;have y1:=ab.o.fr 1;have y2:=ab.o.fr 2;have zl:=ab.o.lt;change V.cell? ⟨V0.heap.size,0,none⟩=_ at z0;change V.cell? ⟨V0.heap.size,1,none⟩=_ at z1;change V.cell? ⟨V0.heap.size,2,none⟩=_ at z2;change V.frozen? ⟨V0.heap.size,0,none⟩=_ at y0;change V.frozen? ⟨V0.heap.size,1,none⟩=_ at y1;change V.frozen? ⟨V0.heap.size,2,none⟩=_ at y2;change V0.heap.size<_ at zl)
   refine hK.out _ _ ?_ (fun aa=>?_)
   ·(try dsimp only);exact(ac.o.cell (p:=⟨b0,off,none⟩) (zbi aa)).trans aa
   clear hK K
   try simp only[qW]
   refine wpAnyH_ready (rs:=[4,8]) (by kernel_rfl) (by simp) ?_
   refine zab rfl (fun K hK=>?_) (zab rfl (fun K hK=>?_) (AllReadyH.nil))
   go_simp
   have ae:∀ W:World,MapIs Tryz.prog 9 kvT vbV bm vbOf W->(Instr.lookup 242 (.map (some bm)) (tx a) true).run Tryz.prog W=.ok (.tuple #[.agg #[.int .i64 v.many,.func (.func (vbF v)) #[] #[],.bool v.clock],.bool true]) W:=(by intro W hW;have h4:=am.o bm W hW;rw[HV.o] at h4;exact h4);first|rw[ae _ ag.o]|rw[ae _ (ag.o.next (nxA V (.cells #[.int .i64 0,.nilFunc,.bool false] 141)))];simp only[Result.andThen];rw[Oper.upon_value];clear ae
   refine hK.out _ _ ?_ (fun aa=>?_)
   ·(try dsimp only);first|exact ah.o|assumption
   clear hK K
   try simp only[qW]
   refine ht 5 (h:=?_)
   refine ht 6 (h:=?_)
   refine ht 7 (h:=?_)
   refine r1 (i:=8) (by kernel_rfl) rfl fun K hK=>?_
   go_simp
   refine hK.out _ _ ?_ (fun aa=>?_)
   ·(try dsimp only);first|exact((nxA V (.cells #[.int .i64 0,.nilFunc,.bool false] 141)).cell (p:=⟨b0,off,none⟩) (zbi aa)).trans aa|exact((nxA V0.drew (.cells #[.int .i64 0,.nilFunc,.bool false] 141)).cell (p:=⟨b0,off,none⟩) (zbi aa)).trans aa
   clear hK K
   try simp only[qW]
   rotate_left
   go_simp
   refine hK.out _ _ ?_ (fun aa=>?_)
   ·(try dsimp only);first|exact((nxA V (.cells #[.int .i64 0,.nilFunc,.bool false] 141)).cell (p:=⟨b0,off,none⟩) (zbi aa)).trans aa|exact((nxA V0.drew (.cells #[.int .i64 0,.nilFunc,.bool false] 141)).cell (p:=⟨b0,off,none⟩) (zbi aa)).trans aa
   clear hK K
   try simp only[qW]
   refine r1 (i:=4) (by kernel_rfl) rfl fun K hK=>?_
   go_simp
   have ae:∀ W:World,MapIs Tryz.prog 9 kvT vbV bm vbOf W->(Instr.lookup 242 (.map (some bm)) (tx a) true).run Tryz.prog W=.ok (.tuple #[.agg #[.int .i64 v.many,.func (.func (vbF v)) #[] #[],.bool v.clock],.bool true]) W:=(by intro W hW;have h4:=am.o bm W hW;rw[HV.o] at h4;exact h4);first|rw[ae _ ag.o]|rw[ae _ (ag.o.next (nxA V (.cells #[.int .i64 0,.nilFunc,.bool false] 141)))];simp only[Result.andThen];rw[Oper.upon_value];clear ae
   refine hK.out _ _ ?_ (fun aa=>?_)
   ·(try dsimp only);first|exact ah.o|assumption
   clear hK K
   try simp only[qW]
   refine ht 5 (h:=?_)
   refine ht 6 (h:=?_)
   refine ht 7 (h:=?_)
   rotate_left
   go_simp
   refine hK.out _ _ ?_ (fun aa=>?_)
   ·(try dsimp only);first|exact((nxA V (.cells #[.int .i64 0,.nilFunc,.bool false] 141)).cell (p:=⟨b0,off,none⟩) (zbi aa)).trans aa|exact((nxA V0.drew (.cells #[.int .i64 0,.nilFunc,.bool false] 141)).cell (p:=⟨b0,off,none⟩) (zbi aa)).trans aa
   clear hK K
   try simp only[qW]
   refine r1 (i:=0) (by kernel_rfl) rfl fun K hK=>?_
   go_simp
   refine(zdD _).mono ?_;rintro e V ⟨bm,rfl,hm,hb⟩;have ag:=qG hm;have ac:=qG hb;clear hm hb;try (have ab:=qG ((Bx.new V0.drew #[.int .i64 0,.nilFunc,.bool false] 141).next ac.o);have z0:=ab.o.c 0 _ rfl;have z1:=ab.o.c 1 _ rfl;have z2:=ab.o.c 2 _ rfl;have y0:=ab.o.fr 0;have y1:=ab.o.fr 1;have y2:=ab.o.fr 2;have zl:=ab.o.lt;change V.cell? ⟨V0.heap.size,0,none⟩=_ at z0;change V.cell? ⟨V0.heap.size,1,none⟩=_ at z1;change V.cell? ⟨V0.heap.size,2,none⟩=_ at z2;change V.frozen? ⟨V0.heap.size,0,none⟩=_ at y0;change V.frozen? ⟨V0.heap.size,1,none⟩=_ at y1;change V.frozen? ⟨V0.heap.size,2,none⟩=_ at y2;change V0.heap.size<_ at zl)
   refine hK.out _ _ ?_ (fun aa=>?_)
   ·(try dsimp only);exact(ac.o.cell (p:=⟨b0,off,none⟩) (zbi aa)).trans aa
   clear hK K
   try simp only[qW]
   refine r1 (i:=4) (by kernel_rfl) rfl fun K hK=>?_
   go_simp
   have ae:∀ W:World,MapIs Tryz.prog 9 kvT vbV bm vbOf W->(Instr.lookup 242 (.map (some bm)) (tx a) true).run Tryz.prog W=.ok (.tuple #[.agg #[.int .i64 v.many,.func (.func (vbF v)) #[] #[],.bool v.clock],.bool true]) W:=(by intro W hW;have h4:=am.o bm W hW;rw[HV.o] at h4;exact h4);first|rw[ae _ ag.o]|rw[ae _ (ag.o.next (nxA V (.cells #[.int .i64 0,.nilFunc,.bool false] 141)))];simp only[Result.andThen];rw[Oper.upon_value];clear ae
   refine hK.out _ _ ?_ (fun aa=>?_)
   ·(try dsimp only);first|exact ah.o|assumption
   clear hK K
   try simp only[qW]
   refine ht 5 (h:=?_)
   refine ht 6 (h:=?_)
   refine ht 7 (h:=?_)
   all_goals
    refine r1 (i:=9) (by kernel_rfl) rfl fun K hK=>?_
    go_simp
    skip
    refine hK.out _ _ ?_ (fun aa=>?_)
    ·(try dsimp only);first|exact(zft (by first|exact Nat.ne_of_lt an.o|(have h9:V0.heap.size<=V.heap.size:=ac.o.size;have:=an.o;omega))).trans aa|exact((nxA V _).cell (p:=⟨b0,off,none⟩) (qM an.o ac.o.size)).trans ((ac.o.cell (p:=⟨b0,off,none⟩) an.o).trans ah.o)
    clear hK K
    try simp only[qW]
    refine ht 10 (h:=?_)
    refine wpAnyH_done (by kernel_rfl) ?_ _
    refine NoPanic.normal ?_
   iterate 12 (try clear aa)
   .go_wp2_with fail
    go_meet
    exact⟨rfl,V0.heap.size,rfl,qQ _,((ab.o.set (k:=0) (by simp) _).set (k:=1) (by simp) _).set (k:=2) (by simp) _,(((((nxA V0 _).drew.trans (ac.o.mono (nxA V0 (.cells #[.int .i64 0,.nilFunc,.bool false] 141)).size)).setCell (qQ _) _).setCell (qQ _) _).setCell (qQ _) _)⟩
   all_goals
    go_wp2_with fail
    go_meet
    exact⟨rfl,V.heap.size,rfl,ac.o.size,Bx.new V #[.int .i64 v.many,.func (.func (vbF v)) #[] #[],.bool v.clock] 141,((Below.refl _ V0).drew.trans ac.o).trans ((nxA V _).mono ac.o.size)⟩
  case rest=>
   obtain⟨rfl,b,rfl,hb,hx,ay⟩:=hcut
   have aN:=qG hx
   have ao:=qG (ar.o.trans (ay.mono ar.o.size))
   have aV:=qG hb
   have aO:=qG (aL.o.next ay)
   have aW:=qG ((aF.o.below ao.o).tail)
   have aP:=qG (fun t ht=>HT.o t (List.mem_cons_of_mem _ ht))
   clear hb hx ay aF ah aL HT am
   go_wp2_with fail
   refine(zat 8 wc).mono ?_
   rintro e w' ⟨rfl,rfl⟩
   have bD:r.length+1<=c:=hc
   have bE:r.length+1<=1000:=hl
   have bp:=qG hc
   clear hc
   go_upto_region 3 with fail
   go_cut [0,5] (fun _ s5 wx=>∃ n,zaP r=some n/\(∃ A c,s5=.slice A n.length c/\At wx wx.heap.size 1 zad A n/\n.length<=c/\∀ a,A=some a->wc.heap.size<=a.block)/\Below wc.heap.size wc wx)
   case first=>
    go_wp2_with fail
    all_goals
     refine(zky _ _ _ _).mono ?_
     rintro e V ⟨rfl,hV⟩
     have az:=qG (show Below wc.heap.size wc V from hV▸nxA wc _)
     have bF:=qG (show V.heap.size=wc.heap.size+1 from by rw[hV];simp)
     first
     |(have aX:=qG (zfT (some ⟨b0,off+1,none⟩) _ r (by omega) aP.o wc.heap.size V (hV▸Bx.new wc #[.slice (some ⟨b0,off+1,none⟩) r.length (c-1)] 30) ((aW.o.more ao.o.size).below az.o)))
     |(have aX:=qG (zfT (some ⟨b0,off,none⟩) _ r (by omega) aP.o wc.heap.size V (hV▸Bx.new wc #[.slice (some ⟨b0,off,none⟩) r.length 0] 30) (by rw[show r=[] from List.length_eq_zero_iff.1 (by omega)];exact At.nil)))
     clear hV
     go_wp2_with fail
     refine aX.o.mono ?_
     rintro e W2 ⟨aQ,hf⟩
     have bG:=qG (az.o.trans (aQ.mono az.o.size))
     have aY:=qG (show Below wc.heap.size wc W2 from az.o.trans (aQ.mono az.o.size))
     cases hfig:zaP r with
    |none=>
      rw[hfig] at hf
      have hf:e=.panicked (zaF 8):=hf
      subst hf
      exact⟨rfl,ao.o.trans (aY.o.mono ao.o.size),by rw[zqf hfig]⟩
    |some n=>
      rw[hfig] at hf
      obtain⟨v5,rfl,ho⟩:=hf
      obtain⟨A,c5,rfl,aC,aG,aA⟩:=zmw ho
      clear aQ ho
      have HF:=qG hfig
      have a9:=qG aC
      have au:=qG aA
      clear hfig aC aA
      go_wp2_with fail
      go_meet
      exact⟨n,HF.o,⟨A,c5,rfl,a9.o,aG,fun a h=>Nat.le_trans az.o.size (au.o a h)⟩,aY.o⟩
   case rest=>
    obtain⟨n,aR,⟨A,c5,rfl,aC,aG,aA⟩,aH⟩:=hcut
    have aq:=qG (zq3 HV.o aR)
    have aI:=qG aC
    have aZ:=qG aG
    have au:=qG (show ∀ a,A=some a->w.heap.size<a.block/\b<a.block from fun a h=>⟨qM aO.o.lt (aA a h),qM aN.o.lt (aA a h)⟩)
    have aw:=qG (ao.o.trans (aH.mono ao.o.size))
    have ak:=qG (aN.o.next aH)
    have a7:=qG (aO.o.next aH)
    have bq:=qG (show b≠w.heap.size from by have:=aV.o;have:=bi.o;omega)
    have bu:=qG (show w.heap.size<=b from Nat.le_trans ar.o.size aV.o)
    have bf:=qG aR
    clear aR aC aG aA aH aN aO aW aP bp
    have a8:=qG (zk8 bf.o)
    have m0:=ak.o.c 0 _ rfl
    have m1:=ak.o.c 1 _ rfl
    have m2:=ak.o.c 2 _ rfl
    have mf0:=ak.o.fr 0
    have mn:=aM.o
    by_cases aJ:v=.cut
    .subst aJ
     have mn':((-1:Int)==-1)=true:=rfl
     clear mn aM
     have m0':wc.cell? ⟨b,0,none⟩=some (.int .i64 (-1)):=m0
     clear m0
     cases n with
    |nil=>
      go_wp2_with fail
      refine(zak 8 wc).mono ?_
      rintro e w' ⟨rfl,rfl⟩
      exact⟨rfl,aw.o,by rw[aq.o];rfl⟩
    |cons x l=>
      cases l with
     |nil=>
       go_wp2_with fail
       refine(zak 8 wc).mono ?_
       rintro e w' ⟨rfl,rfl⟩
       exact⟨rfl,aw.o,by rw[aq.o];rfl⟩
     |cons y l=>
       obtain⟨ba,oa,rfl,-,aB⟩:=aI.o 0 x rfl
       have a0:=aB 0 _ rfl
       obtain⟨ba',oa',e',-,aS⟩:=aI.o 1 y rfl
       injection e' with e'
       injection e' with e1 e2 _
       subst e1 e2
       have a1:=aS 0 _ rfl
       rw[Nat.zero_mul,Nat.add_zero] at a0
       rw[Nat.one_mul,Nat.add_zero] at a1
       clear aB aS
       have bv:0<=x:=a8.o x (qE ..)
       have bw:0<=y:=a8.o y (List.mem_cons_of_mem _ (qE ..))
       by_cases h0:x<=400
       .by_cases h1:y<=400
        .have bz:=zh9 bv bw h0 h1
         have bA:IntKind.i64.wrap (x*y)=x*y:=qF _ (by omega)
         have bB:IntKind.i64.wrap (2+x*y)=2+x*y:=qF _ (by omega)
         have ax:=qG (show zbF .cut (x :: y :: l)=decide (((x :: y :: l).length:Int)=2+x*y) from by rw[zgs,decide_eq_true h0,decide_eq_true h1,Bool.true_and,Bool.true_and])
         clear bz
         go_wp2_with fail
         refine(zat 8 wc).mono ?_
         rintro e w' ⟨rfl,rfl⟩
         go_upto_region 6 with fail
         go_region
         have ai:=qG ((ak.o.set (k:=0) (by decide) (.int .i64 (2+x*y))).drew)
         have af:=qG ((a7.o.other (g:=b) bq.o.symm 0 (.int .i64 (2+x*y))).drew)
         have aK:=qG ((aw.o.setCell (p:=⟨b,0,none⟩) bu.o (.int .i64 (2+x*y))).drew)
         generalize hV6:((wc.setCell ⟨b,0,none⟩ (.int .i64 (2+x*y))).drew)=V6 at *
         have aT:=qG (show At V6 V6.heap.size 1 zad (some ⟨ba,oa,none⟩) (x :: y :: l) from aI.o.apart (by rw[<- hV6];exact Nat.le_of_eq (World.size_setCell _ _ _).symm) (fun a h o=>by rw[<- hV6];exact qA _ _ _ _ (by intro e;injection e with e;have:=(au.o a h).2;omega)))
         have n0:=ai.o.c 0 _ rfl
         clear m0' m1 m2 mf0 a0 a1 hV6 bA bB mn'
         go_wp2_with fail
         refine(zel _ 8 V6).mono ?_
         rintro e w' ⟨rfl,⟨h3,rfl⟩|⟨h3,rfl⟩⟩
         .have aj:((x :: y :: l).length:Int)=2+x*y:=by have:=(beq_iff_eq.1 h3);simpa using this
          have aD:=qG (show entS (a :: r)=some ⟨.cut,x :: y :: l⟩ from by rw[aq.o,if_pos (by rw[ax.o,aj];exact decide_eq_true rfl)])
          replace ai:=qG (show Bx V6 b [.int .i64 (x :: y :: l).length,.func (.func (vbF .cut)) #[] #[],.bool (Vb.clock .cut)] from by rw[aj];exact ai.o)
          clear n0
          have m0:True:=trivial
          have m1:True:=trivial
          have m2:True:=trivial
          have mf0:True:=trivial
          clear aj h3 ax
          clear m0 m1 m2 mf0
          have m0:=ai.o.c 0 _ rfl
          have m1:=ai.o.c 1 _ rfl
          have m2:=ai.o.c 2 _ rfl
          have z0:=af.o.c 0 _ rfl
          have z1:=af.o.c 1 _ rfl
          have z2:=af.o.c 2 _ rfl
          have z3:=af.o.c 3 _ rfl
          have zf0:=af.o.fr 0
          have zf1:=af.o.fr 1
          have zf2:=af.o.fr 2
          have zf3:=af.o.fr 3
          have aE:=qG (zkZ (af.o.setAll (enL ⟨.cut,x :: y :: l⟩ (some ⟨ba,oa,none⟩) c5) rfl))
          go_wp2_with fail
          (try simp only[Exit.inBlock,Exit.then])
          refine bodyPost_ret (zaH rfl rfl aE.o) rfl ?_
          rw[aD.o]
          exact⟨((((aK.o.setCell (qQ _) _).setCell (qQ _) _).setCell (qQ _) _).setCell (qQ _) _),some ⟨ba,oa,none⟩,c5,rfl,aT.o.apart (Nat.le_of_eq (zay w.heap.size (enL ⟨.cut,x :: y :: l⟩ (some ⟨ba,oa,none⟩) c5) 0 V6).symm) (fun a h o=>za1 w.heap.size (enL ⟨.cut,x :: y :: l⟩ (some ⟨ba,oa,none⟩) c5) 0 V6 a.block o (by have:=(au.o a h).1;omega)),aZ.o,fun a h=>Nat.le_of_lt (au.o a h).1⟩
         .exact⟨rfl,aK.o,by rw[aq.o,ax.o,if_neg (by rw[qC];intro e;rw[<- e] at h3;exact absurd h3 (by simp))]⟩
        .go_wp2_with fail
         refine(zak 8 wc).mono ?_
         rintro e w' ⟨rfl,rfl⟩
         exact⟨rfl,aw.o,by rw[aq.o,if_neg (by rw[zgs,decide_eq_false (show ¬ y<=400 by omega),Bool.false_and,Bool.and_false];decide)]⟩
       .go_wp2_with fail
        refine(zak 8 wc).mono ?_
        rintro e w' ⟨rfl,rfl⟩
        exact⟨rfl,aw.o,by rw[aq.o,if_neg (by rw[zgs,decide_eq_false (show ¬ x<=400 by omega),Bool.false_and];decide)]⟩
    .have hq:decide (v=Vb.cut)=false:=decide_eq_false aJ
     rw[hq] at mn
     have ax:=qG (show zbF v n=((n.length:Int)==v.many) from by unfold zbF;rw[if_neg aJ];exact Bool.eq_iff_iff.2 (by simp))
     clear aJ hq aM
     go_wp2_with fail
     refine(zel _ 8 wc).mono ?_
     rintro e w' ⟨rfl,⟨h3,rfl⟩|⟨h3,rfl⟩⟩
     .have aj:=(beq_iff_eq.1 h3)
      rw[<- aj] at m0 h3 mn
      have bh:=qG (show zbF v n=true from by rw[ax.o,<- aj];exact beq_self_eq_true _)
      have bC:=qG aj
      rw[<- aj]
      clear aj ax h3
      have ai:=qG (show Bx wc b [.int .i64 n.length,.func (.func (vbF v)) #[] #[],.bool v.clock] from by have:=ak.o;rwa[<- bC.o] at this)
      have af:=a7
      have aK:=aw
      have aT:=aI
      have aD:=qG (show entS (a :: r)=some ⟨v,n⟩ from by rw[aq.o,if_pos bh.o])
      clear m0 m1 m2 mf0
      have m0:=ai.o.c 0 _ rfl
      have m1:=ai.o.c 1 _ rfl
      have m2:=ai.o.c 2 _ rfl
      have z0:=af.o.c 0 _ rfl
      have z1:=af.o.c 1 _ rfl
      have z2:=af.o.c 2 _ rfl
      have z3:=af.o.c 3 _ rfl
      have zf0:=af.o.fr 0
      have zf1:=af.o.fr 1
      have zf2:=af.o.fr 2
      have zf3:=af.o.fr 3
      have aE:=qG (zkZ (af.o.setAll (enL ⟨v,n⟩ A c5) rfl))
      go_wp2_with fail
      (try simp only[Exit.inBlock,Exit.then])
      refine bodyPost_ret (zaH rfl rfl aE.o) rfl ?_
      rw[aD.o]
      exact⟨((((aK.o.setCell (qQ _) _).setCell (qQ _) _).setCell (qQ _) _).setCell (qQ _) _),A,c5,rfl,aT.o.apart (Nat.le_of_eq (zay w.heap.size (enL ⟨v,n⟩ A c5) 0 wc).symm) (fun a h o=>za1 w.heap.size (enL ⟨v,n⟩ A c5) 0 wc a.block o (by have:=(au.o a h).1;omega)),aZ.o,fun a h=>Nat.le_of_lt (au.o a h).1⟩
     .exact⟨rfl,aw.o,by rw[aq.o,ax.o,h3];rfl⟩
end
section
open Go.RowKit
open Le
theorem zd8(A:Option Addr)(c:Nat)(l:List Int)(w:World)(hl:l.length<=200000)(h:At w w.heap.size 1 zad A l):Calls Tryz.prog 101 #[.slice A l.length c] w (zdC 3 1 l.length (l.flatMap zad) w):=by
 obtain⟨i0,hi,ae,af,ag⟩:=zbd zd5
 have ah:=fun W=>Lib.run_eql_slice_nil (P:=Tryz.prog) W 35 3 A l.length c 0 0 Tryz.underlying35
 have HH:=qG h
 have HZ:=qG ae
 have HI:=qG hi
 have ai:=qG af
 have aj:=qG ag
 clear h hi ae af ag
 cases A with
|none=>
  have ak:l=[]:=by
   cases l with
  |nil=>rfl
  |cons x l=>obtain⟨b,off,e,-⟩:=HH.o 0 x rfl;cases e
  subst ak
  have am:=fun W=>Lib.run_eql_slice_nil (P:=Tryz.prog) W 35 3 none 0 c 0 0 Tryz.underlying35
  simp only[Option.isNone_none] at am
  clear ah
  go_enter Tryz.func101,Tryz.ntmps101
  go_wp2_with fail
  go_ret
  exact⟨_,rfl,⟨rfl,.inl ⟨none,rfl,rfl⟩⟩,fun g e=>(by cases e),Below.refl _ _⟩
|some a=>
  have hm:=qG (show At (w.alloc (.cells #[] 3)) w.heap.size 1 zad (some a) l from HH.o.below (nxA w (.cells #[] 3)))
  go_enter Tryz.func101,Tryz.ntmps101
  go_wp2_with (at_builtin;refine za3 rfl (.tmp 5) (.tmp 6) 35 rfl 3 i0 (.int .i64 0) 1 8 Tryz.underlying35 HI.o HZ.o ai.o aj.o rfl (by decide) zbp w.heap.size rfl (some a) l c w.heap.size rfl hm.o (by unfold maxLen;omega) (by omega) ?_;intro v' w' aa ab ac;have HR:=qG aa;have an:=qG ab;have ao:=qG ac;clear aa ab ac)
  go_wp2
  go_ret
  exact⟨v',rfl,HR.o,fun g e=>Nat.le_trans (nxA w (.cells #[] 3)).size (an.o g e),(nxA w (.cells #[] 3)).trans (ao.o.mono (nxA w (.cells #[] 3)).size)⟩
def zrd(a b2:Int)(p:List Int)(w:World)(s5:Value)(wx:World):Prop:=∃ b5 v,s5=.pointer (some ⟨b5,0,none⟩)/\Bx wx b5 [.int .i64 a,.int .i64 b2,v]/\Rw.ok ⟨3,1,v,p.length,p.flatMap zad⟩ wx/\w.heap.size<=b5/\(∀ g,blk v=some g->w.heap.size<=g/\g≠b5)/\Below w.heap.size w wx
theorem zaT{W:World}{b0 off g:Nat}{x y z:Value}(h:b0≠g):(((W.setCell ⟨g,0,none⟩ x).setCell ⟨g,1,none⟩ y).setCell ⟨g,2,none⟩ z).cell? ⟨b0,off,none⟩=W.cell? ⟨b0,off,none⟩:=by
 rw[qA _ _ _ _ (by intro e;injection e with e;exact h e.symm),qA _ _ _ _ (by intro e;injection e with e;exact h e.symm),qA _ _ _ _ (by intro e;injection e with e;exact h e.symm)]
theorem zqn(O:Nat->Prop)(w:World)(f:Nat)(R:Nat->Rw)(cs:List Cu.Cut)(ps:List Pq)(d:Ru.Die)(s:St)(A:Option Addr)(c:Nat)(a b2:Int)(p:List Int)(hp:Pre O w f R cs ps d s A c (a :: b2 :: p))(hpl:p.length<=200000) :
  Calls Tryz.prog 187 #[.pointer (some ⟨f,0,none⟩),.slice A (p.length+2) c] w (RetF O w f R d (resV d s .cut (a :: b2 :: p))):=by
 obtain⟨A0,c0,A1,c1,A2,c2,A3,c3,A4,c4,A5,c5,A6,c6,hs⟩:=hp.fl.sees
 obtain⟨b,off,rfl,aK,aF,na⟩:=hp.na.get (k:=0) (by simp)
 obtain⟨b',off',e',-,-,na1⟩:=hp.na.get (k:=1) (by simp)
 injection e' with e'
 injection e' with e1 e2 _
 subst e1 e2
 obtain⟨k,hk⟩:∃ k,c=k+2:=⟨c-2,by have h1:(a :: b2 :: p).length<=c:=hp.nc;simp only[List.length_cons] at h1;omega⟩
 subst hk
 have a7:p.length<=k:=by have h1:(a :: b2 :: p).length<=k+2:=hp.nc;simp only[List.length_cons] at h1;omega
 have ai:=qG (show w.cell? ⟨b,off,none⟩=some (.int .i64 a) from na)
 have ah:=qG (show w.cell? ⟨b,off+1,none⟩=some (.int .i64 b2) from na1)
 have a8:=qG (show ¬ zao f R b from fun k=>aF (hp.fl.sub b k))
 have aL:=qG (show At w w.heap.size 1 zad (some ⟨b,off+2,none⟩) p from Le.At.tail (Le.At.tail (show At w w.heap.size 1 zad (some ⟨b,off,none⟩) (a :: b2 :: p) from hp.na.at_)))
 have a9:=qG (hp.nn a (by simp))
 have ba:=qG (hp.nn b2 (by simp))
 have az:=qG (Mid.sees hp.fl hs)
 have HP:=qG hp
 have HS:=qG hs
 have aA:=qG hpl
 have f1:w.cell? ⟨f,1,none⟩=some (.slice A0 s.b.cuts.length c0):=hs.x.c 1 _ rfl
 clear hp hs na na1 aF aK hpl
 by_cases hl:6<=s.b.cuts.length
 .have hd:decide ((s.b.cuts.length:Int)<6)=false:=decide_eq_false (by omega)
  go_enter Tryz.func187,Tryz.ntmps187
  go_wp2_with fail
  refine(zak 9 w).mono ?_
  rintro e w' ⟨rfl,rfl⟩
  rw[show resV d s .cut (a :: b2 :: p)=.error 9 from by unfold resV doV;simp only[List.getD_cons_zero,List.getD_cons_succ];rw[if_pos hl]]
  exact⟨rfl,zau HP.o.fl (Below.refl _ _) rfl⟩
 .have hd:decide ((s.b.cuts.length:Int)<6)=true:=decide_eq_true (by omega)
  go_enter Tryz.func187,Tryz.ntmps187
  go_wp2_with fail
  refine(zat 9 w).mono ?_
  rintro e w' ⟨rfl,rfl⟩
  have HL:=qG hl
  clear hd f1 hl
  have am:=qG (show At w w.heap.size 1 zad (if k=0 then some ⟨b,off,none⟩ else some ⟨b,off+2,none⟩) p from by
   by_cases h0:k=0
   .have:p=[]:=List.length_eq_zero_iff.1 (by omega)
    subst this
    exact At.nil
   .rw[if_neg h0];exact aL.o)
  have aM:(0:Int)<(p.length:Int)+2:=by omega
  have aN:(1:Int)<(p.length:Int)+2:=by omega
  have aO:(2:Int)<=(p.length:Int)+2:=by omega
  have aP:(0<=(2:Int)/\(2:Int)<=(p.length:Int)+2)=True:=by simp;omega
  go_upto_region 2 with fail
  go_cut [5] (fun s5 wx=>zrd a b2 p w s5 wx)
  case first=>
   have aj:=qG (nxA w (.cells #[.int .i64 0,.int .i64 0,.slice none 0 0] 57))
   refine wp_region_noPanic ?_
   refine wp_region_held_drew (S:=(fun W=>W.cell? ⟨b,off,none⟩=some (.int .i64 a)/\W.cell? ⟨b,off+1,none⟩=some (.int .i64 b2))) (by kernel_rfl) ?_ (fun ab=>?_)
   ·(try dsimp only);exact⟨ai.o,ah.o⟩
   refine ht 0 (h:=?_)
   refine ht 1 (h:=?_)
   refine ht 2 (h:=?_)
   refine ht 3 (h:=?_)
   refine ht 4 (h:=?_)
   refine ht 5 (h:=?_)
   refine ht 6 (h:=?_)
   refine ht 7 (h:=?_)
   refine wpAnyH_ready (rs:=[8,10]) (by kernel_rfl) (by simp) ?_
   refine zab rfl (fun K hK=>?_) (zab rfl (fun K hK=>?_) (AllReadyH.nil))
   go_simp
   generalize(if k=0 then some (⟨b,off,none⟩:Addr) else some ⟨b,off+2,none⟩)=AP at *;refine(zd8 _ k p _ (by have:=aA.o;omega) (by first|exact(am.o.below (Below.refl _ w).drew).more (qQ _)|exact(am.o.below aj.o.drew).more aj.o.size)).mono ?_;rintro e V ⟨v,rfl,ag,ak,ac⟩;have HB:=qG (show Below w.heap.size w V from by first|exact(Below.refl _ w).drew.trans ac|exact aj.o.drew.trans (ac.mono aj.o.size));(try have af:=qG ((Bx.new w #[.int .i64 0,.int .i64 0,.slice none 0 0] 57).drew.next ac);have z0:=af.o.c 0 _ rfl;have z1:=af.o.c 1 _ rfl;have z2:=af.o.c 2 _ rfl;have y0:=af.o.fr 0;have y1:=af.o.fr 1;have y2:=af.o.fr 2;have zl:=af.o.lt;have ao:=qG (show ∀ g,blk v=some g->w.heap.size≠g from fun g e=>by have h9:(w.alloc (.cells #[.int .i64 0,.int .i64 0,.slice none 0 0] 57)).heap.size<=g:=ak g e;rw[World.size_alloc] at h9;omega));have aB:=qG (show ∀ g,blk v=some g->w.heap.size<=g from fun g e=>by have h9:=ak g e;first|exact h9|exact Nat.le_trans aj.o.size h9);have an:=qG ag;obtain⟨A',c',e6,-⟩:∃ A c,v=.slice A p.length c/\p.length<=c:=ag.form;subst e6;clear ac ag ak
   refine hK.out _ _ ?_ (fun ab=>?_)
   ·(try dsimp only);exact⟨n2 HB.o ai.o,n2 HB.o ah.o⟩
   clear hK K
   try simp only[qW]
   refine ht 9 (h:=?_)
   refine r1 (i:=10) (by kernel_rfl) rfl fun K hK=>?_
   go_simp
   refine hK.out _ _ ?_ (fun ab=>?_)
   ·(try dsimp only);first|exact⟨(n3 V (n2 HB.o ai.o)).trans rfl,(n3 V (n2 HB.o ah.o)).trans rfl⟩|exact⟨(n3 w ai.o).trans rfl,(n3 w ah.o).trans rfl⟩
   clear hK K
   try simp only[qW]
   rotate_left
   go_simp
   refine hK.out _ _ ?_ (fun ab=>?_)
   ·(try dsimp only);first|exact⟨(n3 V (n2 HB.o ai.o)).trans rfl,(n3 V (n2 HB.o ah.o)).trans rfl⟩|exact⟨(n3 w ai.o).trans rfl,(n3 w ah.o).trans rfl⟩
   clear hK K
   try simp only[qW]
   refine r1 (i:=8) (by kernel_rfl) rfl fun K hK=>?_
   go_simp
   generalize(if k=0 then some (⟨b,off,none⟩:Addr) else some ⟨b,off+2,none⟩)=AP at *;refine(zd8 _ k p _ (by have:=aA.o;omega) (by first|exact(am.o.below (Below.refl _ w).drew).more (qQ _)|exact(am.o.below aj.o.drew).more aj.o.size)).mono ?_;rintro e V ⟨v,rfl,ag,ak,ac⟩;have HB:=qG (show Below w.heap.size w V from by first|exact(Below.refl _ w).drew.trans ac|exact aj.o.drew.trans (ac.mono aj.o.size));(try have af:=qG ((Bx.new w #[.int .i64 0,.int .i64 0,.slice none 0 0] 57).drew.next ac);have z0:=af.o.c 0 _ rfl;have z1:=af.o.c 1 _ rfl;have z2:=af.o.c 2 _ rfl;have y0:=af.o.fr 0;have y1:=af.o.fr 1;have y2:=af.o.fr 2;have zl:=af.o.lt;have ao:=qG (show ∀ g,blk v=some g->w.heap.size≠g from fun g e=>by have h9:(w.alloc (.cells #[.int .i64 0,.int .i64 0,.slice none 0 0] 57)).heap.size<=g:=ak g e;rw[World.size_alloc] at h9;omega));have aB:=qG (show ∀ g,blk v=some g->w.heap.size<=g from fun g e=>by have h9:=ak g e;first|exact h9|exact Nat.le_trans aj.o.size h9);have an:=qG ag;obtain⟨A',c',e6,-⟩:∃ A c,v=.slice A p.length c/\p.length<=c:=ag.form;subst e6;clear ac ag ak
   refine hK.out _ _ ?_ (fun ab=>?_)
   ·(try dsimp only);exact⟨n2 HB.o ai.o,n2 HB.o ah.o⟩
   clear hK K
   try simp only[qW]
   refine ht 9 (h:=?_)
   all_goals
    refine r1 (i:=11) (by kernel_rfl) rfl fun K hK=>?_
    go_simp
    refine hK.out _ _ ?_ (fun ab=>?_)
    ·(try dsimp only);first|exact⟨(n3 V (n2 HB.o ai.o)).trans rfl,(n3 V (n2 HB.o ah.o)).trans rfl⟩|exact⟨(zaT (Nat.ne_of_lt (zaa ai.o))).trans (n2 HB.o ai.o),(zaT (Nat.ne_of_lt (zaa ah.o))).trans (n2 HB.o ah.o)⟩
    clear hK K
    try simp only[qW]
    refine wpAnyH_done (by kernel_rfl) ?_ _
    refine NoPanic.normal ?_
   iterate 13 (try clear ab)
   all_goals
    go_wp2_with fail
    go_meet
    first
    |exact⟨V.heap.size,_,rfl,Bx.new V #[.int .i64 a,.int .i64 b2,.slice A' p.length c'] 57,an.o.keep (O:=fun _=>False) (.of_below (nxA V _)) (fun _ _ x=>x),HB.o.size,fun g e=>⟨aB.o g e,Nat.ne_of_lt (an.o.lt e)⟩,HB.o.trans ((nxA V _).mono HB.o.size)⟩
    |exact⟨w.heap.size,_,rfl,((af.o.set (k:=0) (by simp) _).set (k:=1) (by simp) _).set (k:=2) (by simp) _,((an.o.grown (zaq _ _ _ _) (fun g e e2=>ao.o g e (by injection e2))).grown (zaq _ _ _ _) (fun g e e2=>ao.o g e (by injection e2))).grown (zaq _ _ _ _) (fun g e e2=>ao.o g e (by injection e2)),qQ _,fun g e=>⟨aB.o g e,fun h=>ao.o g e h.symm⟩,((HB.o.setCell (qQ _) _).setCell (qQ _) _).setCell (qQ _) _⟩
  case rest=>
   obtain⟨b5,v,rfl,aq,ag,bf,ak,ac⟩:=hcut
   generalize wc=w5 at *
   obtain⟨A',c',e6,aC,-⟩:=ag.at_ (cells:=zad) (l:=p) zbp (show 0<1 by decide) rfl rfl
   have e6:v=.slice A' p.length c':=e6
   have ar:∀ a,A'=some a->p≠[]->w.heap.size<=a.block:=fun ad e aQ=>by
    rcases ag.2 with ⟨B,e7,e8⟩|⟨g,cap,cur,e7,-⟩
    .exact absurd (List.length_eq_zero_iff.1 e8) aQ
    .have e7:v=.slice (some ⟨g,0,none⟩) p.length (cap+1):=e7
     have h8:=(ak g (by rw[e7];rfl)).1
     rw[e6] at e7
     injection e7 with e7 _ _
     rw[e] at e7
     injection e7 with e7
     subst e7
     exact h8
   subst e6
   have au:=qG ac
   have ae:=qG aq
   have aw:=qG (HP.o.fl.below ac)
   have aR:=qG (show Mid w5 w5 f R R (seL d s A0 c0 A1 c1 A2 c2 A3 c3 A4 c4 A5 c5 A6 c6) from⟨aw.o.own,az.o.x.next ac,.refl _ _,fun _ _ x=>x⟩)
   have aS:=qG (show Cu.CutAt w5 w5.heap.size ⟨a,b2,p,A',c'⟩ from⟨aC,by have:=aA.o;show p.length<=_;omega⟩)
   have aI:=qG (show AtO O w5 1 zad A' p from fun i x hx=>by
    obtain⟨b',off',e,hlt,hc⟩:=aC i x hx
    exact⟨b',off',e,hlt,fun ho=>by have h1:=HP.o.fl.lt _ ho;have h2:=ar _ e (by intro e0;rw[e0] at hx;simp at hx);simp only at h2;omega,hc⟩)
   have aa:=qG (show ¬ zao f R b5 from fun ho=>by have:=HP.o.fl.own.is_lt _ ho;omega)
   have x0:=aq.c 0 _ rfl
   have x1:=aq.c 1 _ rfl
   have x2:=aq.c 2 _ rfl
   clear aq ag ak ac aC ar aM aN aO aP
   go_wp2_with fail
   refine(Cu.zeD ⟨a,b2,p,A',c'⟩ w5 aS.o).mono ?_
   rintro e V ⟨rfl,hb⟩
   have aT:=qG (aR.o.below hb)
   have aU:=qG hb
   clear hb x0 x1 x2
   obtain⟨ck,ax⟩:∃ ck,ck=Cu.checkS ⟨a,b2,p,A',c'⟩:=⟨_,rfl⟩
   simp only[Cu.zfh]
   rw[<- ax]
   have aG:=qG (show Cu.checkS (⟨a,b2,p⟩:Ct).c=ck from by rw[ax];exact zcq ⟨a,b2,p,A',c'⟩)
   have aV:=qG (show ck.2=0->0<=ck.1/\ck.1<1000000000000000000 from fun h=>by rw[ax] at h ⊢;exact zeB h)
   clear ax
   go_wp2_with fail
   refine(zc3 _ V).mono ?_
   rintro e w' ⟨rfl,⟨h,rfl⟩|⟨h,rfl⟩⟩
   .have aH:=qG h
    have az:=aT
    clear h
    go_upto_region 5 with fail
    go_cut [47] (fun _ wx=>ziS w5 f R R (seL d s A0 c0 A1 c1 A2 c2 A3 c3 A4 c4 A5 c5 A6 c6) 0 1 57 3 (s.b.cuts.length+1) (cs.flatMap Cu.cutL++Cu.cutL ⟨a,b2,p,A',c'⟩) wx)
    case first=>
     obtain⟨i0,hi,aW,aX,aY⟩:=zbd zle
     have aD:=qG (show R 0=⟨57,3,.slice A0 s.b.cuts.length c0,s.b.cuts.length,cs.flatMap Cu.cutL⟩ from zgH (HS.o.nc▸HP.o.fl.h.ro.r0) HS.o.e0)
     have HM:=qG az.o
     refine wp_region_noPanic ?_
     refine wp_region_held_drew (S:=(fun W=>W.cell? ⟨b5,0,none⟩=some (.int .i64 a)/\W.cell? ⟨b5,1,none⟩=some (.int .i64 b2)/\W.cell? ⟨b5,2,none⟩=some (.slice A' p.length c'))) (by kernel_rfl) ?_ (fun ab=>?_)
     ·(try dsimp only);exact⟨HM.o.cell aa.o (ae.o.c 0 _ rfl),HM.o.cell aa.o (ae.o.c 1 _ rfl),HM.o.cell aa.o (ae.o.c 2 _ rfl)⟩
     refine ht 0 (h:=?_)
     refine ht 1 (h:=?_)
     refine ht 2 (h:=?_)
     refine ht 3 (h:=?_)
     refine ht 4 (h:=?_)
     refine ht 5 (h:=?_)
     refine ht 7 (h:=?_)
     refine wpAnyH_ready (rs:=[6,8]) (by kernel_rfl) (by simp) ?_
     refine zab rfl (fun K hK=>?_) (zab rfl (fun K hK=>?_) (AllReadyH.nil))
     have z5:=HM.o.x.c 1 _ rfl;go_simp;clear z5
     refine hK.out _ _ ?_ (fun ab=>?_)
     ·(try dsimp only);exact⟨HM.o.cell aa.o (ae.o.c 0 _ rfl),HM.o.cell aa.o (ae.o.c 1 _ rfl),HM.o.cell aa.o (ae.o.c 2 _ rfl)⟩
     clear hK K
     try simp only[qW]
     refine r1 (i:=8) (by kernel_rfl) rfl fun K hK=>?_
     go_simp
     (first|refine hold_alloc (fun Wa q1 q2 q3=>?_)|refine zaJ (fun Wa q1 q2 q3=>?_));have aE:=qG (show Bx _ _ (Cu.cutL ⟨a,b2,p,A',c'⟩) from q2);replace HM:=qG (HM.o.below q1);clear q1 q2 q3
     refine hK.out _ _ ?_ (fun ab=>?_)
     ·(try dsimp only);exact⟨HM.o.cell aa.o (ae.o.c 0 _ rfl),HM.o.cell aa.o (ae.o.c 1 _ rfl),HM.o.cell aa.o (ae.o.c 2 _ rfl)⟩
     clear hK K
     try simp only[qW]
     rotate_left
     go_simp
     (first|refine hold_alloc (fun Wa q1 q2 q3=>?_)|refine zaJ (fun Wa q1 q2 q3=>?_));have aE:=qG (show Bx _ _ (Cu.cutL ⟨a,b2,p,A',c'⟩) from q2);replace HM:=qG (HM.o.below q1);clear q1 q2 q3
     refine hK.out _ _ ?_ (fun ab=>?_)
     ·(try dsimp only);exact⟨HM.o.cell aa.o (ae.o.c 0 _ rfl),HM.o.cell aa.o (ae.o.c 1 _ rfl),HM.o.cell aa.o (ae.o.c 2 _ rfl)⟩
     clear hK K
     try simp only[qW]
     refine r1 (i:=6) (by kernel_rfl) rfl fun K hK=>?_
     have z5:=HM.o.x.c 1 _ rfl;go_simp;clear z5
     refine hK.out _ _ ?_ (fun ab=>?_)
     ·(try dsimp only);exact⟨HM.o.cell aa.o (ae.o.c 0 _ rfl),HM.o.cell aa.o (ae.o.c 1 _ rfl),HM.o.cell aa.o (ae.o.c 2 _ rfl)⟩
     clear hK K
     try simp only[qW]
     all_goals
      refine r1 (i:=9) (by kernel_rfl) rfl fun K hK=>?_
      refine zaI (r:=⟨57,3,.slice A0 s.b.cuts.length c0,s.b.cuts.length,cs.flatMap Cu.cutL⟩) rfl (.tmp 40) (.tmp 42) 34 rfl (aD.o▸HM.o.o.row 0 (by decide)) i0 _ 40 Tryz.underlying34 hi aW aX aY rfl (show 0<3 by decide) rfl ⟨_,0,none⟩ 1 1 (Cu.cutL ⟨a,b2,p,A',c'⟩) rfl (by decide) rfl aE.o.news (fun u hu=>by simp only[Cu.cutL,List.mem_cons,List.not_mem_nil,or_false] at hu;rcases hu with rfl|rfl|rfl <;> rfl) (show s.b.cuts.length+1<=maxLen by have:=HL.o;unfold maxLen;omega) (show(s.b.cuts.length+1)*40<=_ by have:=HL.o;omega) ?_;intro v' w' ag ay ar;replace HM:=qG (HM.o.app (k:=0) (r:=⟨57,3,v',s.b.cuts.length+1,cs.flatMap Cu.cutL++Cu.cutL ⟨a,b2,p,A',c'⟩⟩) (by decide) (by rw[aD.o];exact ay) ag (by rw[aD.o];exact ar));obtain⟨A6',c6',e6,-⟩:∃ A c,v'=.slice A (s.b.cuts.length+1) c/\s.b.cuts.length+1<=c:=ag.form;subst e6;clear ag ay ar aE
      refine hK.out _ _ ?_ (fun ab=>?_)
      ·(try dsimp only);exact⟨HM.o.cell aa.o (ae.o.c 0 _ rfl),HM.o.cell aa.o (ae.o.c 1 _ rfl),HM.o.cell aa.o (ae.o.c 2 _ rfl)⟩
      clear hK K
      try simp only[qW]
      refine ht 10 (h:=?_)
      refine ht 11 (h:=?_)
      refine ht 12 (h:=?_)
      refine ht 13 (h:=?_)
      refine r1 (i:=14) (by kernel_rfl) rfl fun K hK=>?_
      have z5:=HM.o.x.c 1 _ rfl;have y5:=HM.o.x.fr 1;go_simp;clear z5 y5;replace HM:=qG (HM.o.setF (j:=1) (by simp[seL]) (.slice A6' (s.b.cuts.length+1) c6'))
      refine hK.out _ _ ?_ (fun ab=>?_)
      ·(try dsimp only);exact⟨HM.o.cell aa.o (ae.o.c 0 _ rfl),HM.o.cell aa.o (ae.o.c 1 _ rfl),HM.o.cell aa.o (ae.o.c 2 _ rfl)⟩
      clear hK K
      try simp only[Act.put]
      refine wpAnyH_done (by kernel_rfl) ?_ _
      refine NoPanic.normal ?_
     iterate 16 (try clear ab)
     all_goals
      go_wp2_with fail
      go_meet
      exact⟨_,HM.o⟩
    case rest=>
     obtain⟨v',hm⟩:=hcut
     obtain⟨A9,c9,e9,-⟩:∃ A c,v'=.slice A (s.b.cuts.length+1) c/\s.b.cuts.length+1<=c:=(hm.o.row 0 (by decide)).form
     have HM:=qG hm
     clear hm
     have y1:wc.cell? ⟨f,1,none⟩=some (.slice A9 (s.b.cuts.length+1) c9):=by rw[<- e9];exact HM.o.x.c 1 _ rfl
     have bh:wrap64 (s.b.cuts.length:Int)=(s.b.cuts.length:Int):=IntWalk.wrap64_in _ (by have:=HL.o;omega)
     clear e9
     have aJ:=qG (show ∀ x∈[Pa.w Vb.cut.name,Pa.n ((s.b.cuts.length:Int)),Pa.w zdX,Pa.n (ck.1)],x.ok from by simp only[List.forall_mem_cons];exact⟨by show _<=20;decide,⟨by omega,by have:=HL.o;omega⟩,by show _<=20;decide,aV.o aH.o,fun x hx=>by cases hx⟩)
     go_wp2_with fail
     refine(zbf wc [Pa.w Vb.cut.name,Pa.n ((s.b.cuts.length:Int)),Pa.w zdX,Pa.n (ck.1)] ((HP.o.env.next au.o).keep HM.o.k (fun b hb=>HP.o.o6 b (HP.o.fl.sub b hb))) (by simp) (by simp) aJ.o).mono ?_
     rintro e V9 ⟨rfl,ac⟩
     have aZ:=qG ac
     clear ac
     go_wp2_with fail
     go_ret
     rw[show resV d s .cut (a :: b2 :: p)=.ok (⟨{ s.b with cuts:=s.b.cuts++[⟨a,b2,p⟩] },s.plans,s.planned⟩,rep [Pa.w Vb.cut.name,Pa.n ((s.b.cuts.length:Int)),Pa.w zdX,Pa.n (ck.1)]) from by unfold resV doV;simp only[List.getD_cons_zero,List.getD_cons_succ];rw[if_neg HL.o];simp only[List.drop_succ_cons,List.drop_zero];rw[aG.o,if_neg (fun k=>k aH.o)];rfl]
     have ht:=((show Turn w w5 f R R from Turn.of_below au.o)).trans HM.o.turn
     refine zbu (aw.o.up1 (s':=⟨{ s.b with cuts:=s.b.cuts++[⟨a,b2,p⟩] },s.plans,s.planned⟩) (cs':=cs++[⟨a,b2,p,A',c'⟩]) HM.o.turn HM.o.o ?_ ?_ ?_ ?_ HP.o.fl.h.hp (fun x hx=>.inl hx)) ht aZ.o rfl
     .exact zcn (v0:=v') rfl HS.o.e1 HS.o.e2 HS.o.e3 HS.o.e4 HS.o.e5 HS.o.e6 HM.o.x
     .have ro:=HP.o.fl.h.ro
      exact⟨⟨rfl,rfl,by show _=(cs++[_]).length;rw[qD,HS.o.nc];rfl,by show _=(cs++[_]).flatMap _;rw[List.flatMap_append];rfl⟩,ro.r1,ro.r2,ro.r3,ro.r4,ro.r5,ro.r6⟩
     .show(cs++[_]).map Ct.of=s.b.cuts++[_]
      rw[List.map_append,HP.o.fl.h.ec]
      rfl
     .intro c hc
      rcases List.mem_append.1 hc with hc|hc
      .exact .inl hc
      .rw[List.mem_singleton.1 hc]
       exact .inr (aI.o.keep HM.o.turn.k (fun b x=>fun y=>aw.o.sub b y) (aw.o.oldO HM.o.turn))
   .rw[show resV d s .cut (a :: b2 :: p)=.error ck.2 from by unfold resV doV;simp only[List.getD_cons_zero,List.getD_cons_succ];rw[if_neg HL.o];simp only[List.drop_succ_cons,List.drop_zero];rw[aG.o,if_pos h]]
    exact⟨rfl,zau HP.o.fl (au.o.trans (aU.o.mono au.o.size)) rfl⟩
abbrev zbs(a:Int)(x:Bt):Bool:=decide (x.cut=a)
theorem zmU(a:Int)(bm b off n c:Nat)(x:Bt)(w:World)(hx:Bx w bm [.slice (some ⟨b,off,none⟩) (n+1) c])(hn:w.cell? ⟨b,off,none⟩=some (.int .i64 a)):Calls Tryz.prog 243 #[.agg #[.int .i64 x.cut,.int .i64 x.n],.pointer (some ⟨bm,0,none⟩)] w (Ret (.bool (zbs a x)) w):=by
 have HB:=qG (nxA w (.cells #[.int .i64 x.cut,.int .i64 x.n] 65))
 have HX:=qG (Bx.new w #[.int .i64 x.cut,.int .i64 x.n] 65)
 have HM:=qG (hx.next HB.o)
 have HN:=qG ((HB.o.cell (p:=⟨b,off,none⟩) (zaa hn)).trans hn)
 clear hx hn
 go_enter Tryz.func243,Tryz.ntmps243
 go_upto_region 1 with fail
 generalize w.alloc (.cells #[.int .i64 x.cut,.int .i64 x.n] 65)=V at *
 have x0:=HX.o.c 0 _ rfl
 have m0:=HM.o.c 0 _ rfl
 have n0:=HN.o
 have hq:(0:Int)<(n:Int)+1:=by omega
 go_wp2_with (go_quiet (fail))
 go_ret
 exact zaA (by unfold zbs;first|rfl|(rw[Bool.eq_iff_iff];simp)) (by first|exact Le.zbz HB.o _|exact HB.o.drew)
def zhn(l:List Bt)(p:Bt->Bool)(w0:World)(i:Value)(w:World):Prop:=∃ k:Nat,k<=l.length/\i=.int .i64 k/\Below w0.heap.size w0 w/\(l.take k).all (fun x=>!p x)=true
theorem zhF(a:Int)(bm b0 o0 n0 c0:Nat)(A:Option Addr)(c:Nat)(l:List Bt)(w:World)(h:At w w.heap.size 2 btL A l)(hl:l.length<=9223372036854775807)(hx:Bx w bm [.slice (some ⟨b0,o0,none⟩) (n0+1) c0])(hn:w.cell? ⟨b0,o0,none⟩=some (.int .i64 a)) :
  Calls Tryz.prog 273 #[.slice A l.length c,.func (.func 243) #[] #[.pointer (some ⟨bm,0,none⟩)]] w (zeb l (zbs a) w):=by
 go_enter Tryz.func273,Tryz.ntmps273
 go_wp2
 go_loopw [8] (fun i wr=>zhn l (zbs a) w i wr) (fun i _=>l.length-(intOf i).toNat)
 case atStart=>exact⟨0,by omega,rfl,Below.refl _ _,rfl⟩
 case round=>
  obtain⟨k,hk,rfl,hb,aa⟩:=hrel
  by_cases hlt:k<l.length
  .obtain⟨b,off,rfl,af,ac⟩:=h.below hb k l[k] (qN hlt)
   have h0:=ac 0 _ rfl
   have h1:=ac 1 _ rfl
   simp only[Nat.add_zero] at h0
   have ag:Below wr.heap.size wr wr:=Below.refl _ _
   have Hb:=qG hb
   have Ha:=qG (zbO (p:=fun x=>!(zbs a) x) hlt aa)
   have Hf:=qG (show(zbs a) l[k]=true->l.any (zbs a)=true from fun e=>List.any_eq_true.2 ⟨_,List.getElem_mem hlt,e⟩)
   have Hg:=qG (show(zbs a) l[k]=true->∃ yy,l[k]?=some yy/\(zbs a) yy=true/\l.find? (zbs a)=some yy from fun e=>⟨_,qN hlt,e,zcP hlt aa e⟩)
   have Hx:=qG (hx.next hb)
   have Hn:=qG ((hb.cell (p:=⟨b0,o0,none⟩) (zaa hn)).trans hn)
   clear hx hn
   generalize l[k]=x at *
   clear aa h ac hb
   go_wp2_with fail
   refine(zmU a bm b0 o0 n0 c0 x wr Hx.o Hn.o).mono ?_
   rintro e w1 ⟨rfl,ae⟩
   have ab:=qG (Hb.o.trans (ae.mono Hb.o.size))
   generalize hq:zbs a x=q
   rw[hq] at Ha Hf Hg
   clear ae
   cases q
   .go_wp2
    all_goals (first|(refine⟨?_,?_⟩;(unfold zhn;exact⟨k+1,by omega,by go_num,ab.o,Ha.o (by simp)⟩);(simp[intOf];omega))|(go_roundw;(case rel=>(unfold zhn;exact⟨k+1,by omega,by go_num,ab.o,Ha.o (by simp)⟩));(case measure=>(simp[intOf];omega)))|(go_round;(case rel=>(unfold zhn;exact⟨k+1,by omega,by go_num,ab.o,Ha.o (by simp)⟩));(case measure=>(simp[intOf];omega))))
   .go_wp2
    go_ret
    exact⟨_,rfl,by rw[Hf.o (by simp)];simp,fun k' e'=>(show k=k' by omega)▸Hg.o (by simp),ab.o⟩
  .have e:=zbP hlt aa
   go_wp2
   go_ret
   refine⟨_,rfl,?_,fun k' e'=>absurd e' (by omega),hb⟩
   rw[show l.any (zbs a)=false from zcH e]
   simp
theorem zfK(a:Int)(bm b0 o0 n0 c0:Nat)(A:Option Addr)(c:Nat)(l:List Bt)(w:World)(h:At w w.heap.size 2 btL A l)(hl:l.length<=9223372036854775807)(hx:Bx w bm [.slice (some ⟨b0,o0,none⟩) (n0+1) c0])(hn:w.cell? ⟨b0,o0,none⟩=some (.int .i64 a)) :
  Calls Tryz.prog 242 #[.slice A l.length c,.func (.func 243) #[] #[.pointer (some ⟨bm,0,none⟩)]] w (Ret (.bool (l.any (zbs a))) w):=by
 go_enter Tryz.func242,Tryz.ntmps242
 go_wp2_with fail
 refine(zhF a bm b0 o0 n0 c0 _ _ _ _ h hl hx hn).mono ?_
 rintro e w1 ⟨r,rfl,hr,_,aa⟩
 have Hb:=qG aa
 have Hr:=qG hr
 clear aa hr
 by_cases h0:0<=r
 .go_wp2
  go_ret
  exact zaA (by rw[<- Hr.o];first|done|simp[h0]) Hb.o
 .go_wp2
  go_ret
  exact zaA (by rw[<- Hr.o];first|done|simp[h0]) Hb.o
def zqy(cc:Cu.Cut)(x y:Int)(w:World)(s6 s7:Value)(wx:World):Prop:=s7=.int .i64 (Cu.zbb cc x y)/\∃ b6 j A cap,s6=.pointer (some ⟨b6,0,none⟩)/\j=Cu.zgW cc x y A cap/\Bx wx b6 (Cu.cutL j)/\Cu.CutAt wx wx.heap.size j/\(∀ g,A=some g->w.heap.size<=g.block)/\w.heap.size<=b6/\Below w.heap.size w wx
theorem zfd{W:World}{j:Cu.Cut}{g:Nat}(h:Cu.CutAt W W.heap.size j)(hg:∀ a,j.A=some a->a.block≠g)(o:Nat)(u:Value):Cu.CutAt (W.setCell ⟨g,o,none⟩ u) (W.setCell ⟨g,o,none⟩ u).heap.size j:=⟨fun k x hx=>by
 obtain⟨b,off,e,hb,hc⟩:=h.pa k x hx
 exact⟨b,off,e,by rw[World.size_setCell];exact hb,fun i v hv=>(qA _ _ _ _ (by intro e2;injection e2 with e2;exact hg _ e e2.symm)).trans (hc i v hv)⟩,h.l1⟩
theorem zjG(d:Ru.Die)(s:Bk)(a b2 b3:Int)(cc:Cu.Cut)(ck:Int×Int)(h1:¬(s.cuts.length:Int)<=a)(h2:¬ s.made.any (fun x=>decide (x.cut=a))=true)(h3:Ct.of cc=s.cuts.getD a.toNat ⟨0,0,[]⟩)(h4:Cu.zbb cc b2 b3=0)(h5:Cu.checkS ⟨cc.wide,cc.high,Cu.za6 cc b2 b3,none,0⟩=ck) :
  doV d s .join [a,b2,b3]=if ck.2≠0 then .error ck.2 else .ok ({ s with cuts:=s.cuts.set a.toNat ⟨cc.wide,cc.high,Cu.za6 cc b2 b3⟩ },rep [Pa.w Vb.join.name,Pa.n ck.1]):=by
 unfold doV
 simp only[List.getD_cons_zero,List.getD_cons_succ]
 rw[if_neg h1,if_neg h2,<- h3,zdN,zkr,if_neg (fun k=>k h4)]
 subst h5
 rfl
theorem Mid.late2{O:Nat->Prop}{w w5 V w':World}{f:Nat}{R R':Nat->Rw}{L:List Value}{d:Ru.Die}(aa:Below w.heap.size w w5)(h:Mid w5 V f R R' L)(ab:L.drop 13=dieL d)(hl:13<=L.length)(hb:Below V.heap.size V w'){en:Ending}{c:Int}(e:en=.panicked (zaF c)):RetF O w f R d (.error c) en w':=
 zjb ((show Turn w w5 f R R from Turn.of_below aa).k.trans h.k (fun _ _ x=>x)) (vs:=L.take 13) (by rw[List.length_take];omega) (by rw[<- ab,List.take_append_drop];exact h.x) hb e
theorem zol(O:Nat->Prop)(w:World)(f:Nat)(R:Nat->Rw)(cs:List Cu.Cut)(ps:List Pq)(d:Ru.Die)(s:St)(A:Option Addr)(c:Nat)(a:Int)(b2:Int)(b3:Int)(hp:Pre O w f R cs ps d s A c [a,b2,b3]) :
  Calls Tryz.prog 188 #[.pointer (some ⟨f,0,none⟩),.slice A 3 c] w (RetF O w f R d (resV d s .join [a,b2,b3])):=by
 obtain⟨A0,c0,A1,c1,A2,c2,A3,c3,A4,c4,A5,c5,A6,c6,hs⟩:=hp.fl.sees
 obtain⟨b,off,rfl,bB,aM,na⟩:=hp.na.get (k:=0) (by simp)
 have na:w.cell? ⟨b,off,none⟩=some (.int .i64 a):=na
 obtain⟨b',off',e',-,-,na1⟩:=hp.na.get (k:=1) (by simp)
 injection e' with e'
 injection e' with e1 e2 _
 subst e1 e2
 have na1:w.cell? ⟨b,off+1,none⟩=some (.int .i64 b2):=na1
 obtain⟨b',off',e',-,-,na2⟩:=hp.na.get (k:=2) (by simp)
 injection e' with e'
 injection e' with e1 e2 _
 subst e1 e2
 have na2:w.cell? ⟨b,off+2,none⟩=some (.int .i64 b3):=na2
 have aV:b≠f:=fun e=>aM (hp.fl.sub b (.inl e))
 have bP:=qG aV
 have bC:=qG aM
 have aW:=qG na
 have bq:=qG na1
 have bu:=qG na2
 have bQ:3<=c:=hp.nc
 clear aM aV bB
 have HP:=qG hp
 have HS:=qG hs
 clear hp hs
 have h0:0<=a:=(HP.o.nn a (qE ..)).1
 obtain⟨g0,aN⟩:=HS.o.addr0 HP.o.fl
 have aE:=qG (show ¬ zao f R b from fun k=>bC.o (HP.o.fl.sub b k))
 have aX:=qG (Mid.sees HP.o.fl HS.o)
 have ag:=qG (nxA w (.cells #[.slice (some ⟨b,off,none⟩) 3 c] 35))
 have aF:=qG (Bx.new w #[.slice (some ⟨b,off,none⟩) 3 c] 35)
 clear na na1 na2
 go_enter Tryz.func188,Tryz.ntmps188
 go_upto_region 1 with fail
 generalize hV1:w.alloc (.cells #[.slice (some ⟨b,off,none⟩) 3 c] 35)=V1 at *
 obtain⟨bx,aO⟩:∃ bx,bx=w.heap.size:=⟨_,rfl⟩
 rw[<- aO] at aF ⊢
 have bR:=qG (show w.heap.size<=bx by rw[aO];omega)
 clear hV1 aO
 have aB:=qG (aX.o.below ag.o)
 have F1:=aB.o.x.c 1 _ rfl
 have X0:=aF.o.c 0 _ rfl
 have n0:=aB.o.cell aE.o aW.o
 have hq:(0:Int)<3:=by omega
 go_wp2_with fail
 refine(zfc f a g0 0 s.b.cuts.length c0 A0 V1 h0 aN F1).mono ?_
 rintro e w' ⟨rfl,⟨h,rfl⟩|⟨h,rfl⟩⟩
 .have hk:a.toNat<s.b.cuts.length:=by omega
  obtain⟨g,cc,e1,eg,ecc,eCt,ae⟩:=HS.o.cutAt HP.o.fl hk
  have bD:g=g0:=by have e2:=aN (by omega);rw[e1] at e2;injection e2 with e2;injection e2
  subst bD
  subst e1
  obtain⟨aY,okC,hl⟩:=zka HP.o.fl HP.o.ok ecc
  have bE:=qG (aY.next ag.o)
  have aP:=qG eCt
  have aZ:=qG eg
  have bS:=qG ecc
  have HK:=qG hk
  have a7:=qG (show V1.cell? ⟨g,a.toNat*3,none⟩=some (.int .i64 cc.wide) from(ag.o.cell (p:=⟨g,a.toNat*3,none⟩) (zaa (ae 0 _ rfl).1)).trans (ae 0 _ rfl).1)
  have a8:=qG (show V1.cell? ⟨g,a.toNat*3+1,none⟩=some (.int .i64 cc.high) from(ag.o.cell (p:=⟨g,a.toNat*3+1,none⟩) (zaa (ae 1 _ rfl).1)).trans (ae 1 _ rfl).1)
  have a9:=qG (show V1.cell? ⟨g,a.toNat*3+2,none⟩=some (.slice cc.A cc.piece.length cc.c) from(ag.o.cell (p:=⟨g,a.toNat*3+2,none⟩) (zaa (ae 2 _ rfl).1)).trans (ae 2 _ rfl).1)
  have aG:=qG h
  have bF:=qG (show At V1 V1.heap.size 2 btL A2 s.b.made from(HS.o.a2.below ag.o).more ag.o.size)
  have f3:=aB.o.x.c 3 _ rfl
  have bv:=qG (aB.o.cell aE.o aW.o)
  clear ae aY okC eCt eg ecc aN F1 n0 h
  have bG:∀(fn:Fn) (first cap:Array Value) (w:World),(Instr.makeFunc fn first cap).run Tryz.prog w=.ok (.func fn first cap) w:=fun _ _ _ _=>rfl
  go_wp2_with fail
  refine(zfK a bx b off 2 c A2 c2 s.b.made V1 bF.o (by have:=HP.o.ok.b.nm;omega) aF.o bv.o).mono ?_
  rintro e V2 ⟨rfl,aQ⟩
  have aC:=qG (ag.o.trans (aQ.mono ag.o.size))
  have aq:=qG aQ
  clear aQ f3 X0 bG
  obtain⟨anyb,aD⟩:∃ q,q=s.b.made.any (zbs a):=⟨_,rfl⟩
  rw[<- aD]
  have az:=qG aD
  clear aD
  cases anyb
  .go_wp2_with fail
   refine(zat 6 V2).mono ?_
   rintro e w' ⟨rfl,rfl⟩
   have ba:=qG (aB.o.below aq.o)
   have ah:=qG ((aq.o.cell (p:=⟨g,a.toNat*3,none⟩) (zaa a7.o)).trans a7.o)
   have ai:=qG ((aq.o.cell (p:=⟨g,a.toNat*3+1,none⟩) (zaa a8.o)).trans a8.o)
   have aj:=qG ((aq.o.cell (p:=⟨g,a.toNat*3+2,none⟩) (zaa a9.o)).trans a9.o)
   have ak:=qG (ba.o.cell aE.o bq.o)
   have am:=qG (ba.o.cell aE.o bu.o)
   have ac:=qG (show V2.cell? ⟨bx,0,none⟩=some (.slice (some ⟨b,off,none⟩) 3 c) from(aF.o.next aq.o).c 0 _ rfl)
   have aA:=qG (bE.o.next aq.o)
   have bf:=qG (HP.o.nn b2 (by simp))
   have bh:=qG (HP.o.nn b3 (by simp))
   have bH:(1:Int)<3:=by omega
   have bI:(2:Int)<3:=by omega
   go_upto_region 3 with fail
   go_cut [6,7] (fun s6 s7 wx=>zqy cc b2 b3 V2 s6 s7 wx)
   case first=>
    have ar:=qG (nxA V2 (.cells #[.int .i64 0,.int .i64 0,.slice none 0 0] 57))
    refine wp_region_noPanic ?_
    refine wp_region_held_drew (S:=(fun W=>W.cell? ⟨g,a.toNat*3,none⟩=some (.int .i64 cc.wide)/\W.cell? ⟨g,a.toNat*3+1,none⟩=some (.int .i64 cc.high)/\W.cell? ⟨g,a.toNat*3+2,none⟩=some (.slice cc.A cc.piece.length cc.c)/\W.cell? ⟨b,off+1,none⟩=some (.int .i64 b2)/\W.cell? ⟨b,off+2,none⟩=some (.int .i64 b3)/\W.cell? ⟨bx,0,none⟩=some (.slice (some ⟨b,off,none⟩) 3 c))) (by kernel_rfl) ?_ (fun af=>?_)
    ·(try dsimp only);exact⟨ah.o,ai.o,aj.o,ak.o,am.o,ac.o⟩
    refine ht 0 (h:=?_)
    refine ht 1 (h:=?_)
    refine ht 2 (h:=?_)
    refine ht 3 (h:=?_)
    refine ht 4 (h:=?_)
    refine ht 5 (h:=?_)
    refine ht 6 (h:=?_)
    refine ht 7 (h:=?_)
    refine ht 8 (h:=?_)
    refine wpAnyH_ready (rs:=[9,13]) (by kernel_rfl) (by simp) ?_
    refine zab rfl (fun K hK=>?_) (zab rfl (fun K hK=>?_) (AllReadyH.nil))
    go_simp
    refine(Cu.ziu cc b2 b3 _ (by have:=bf.o;exact⟨by omega,by omega⟩) (by have:=bh.o;exact⟨by omega,by omega⟩) (by first|exact aA.o.next (Below.refl _ V2).drew|exact aA.o.next ar.o.drew)).mono ?_;rintro e V ⟨j,AJ,capj,hj,rfl,an,ao,aa⟩;have HB:=qG (show Below V2.heap.size V2 V from by first|exact(Below.refl _ V2).drew.trans aa|exact ar.o.drew.trans (aa.mono ar.o.size));(try have ab:=qG ((Bx.new V2 #[.int .i64 0,.int .i64 0,.slice none 0 0] 57).drew.next aa);have z0:=ab.o.c 0 _ rfl;have z1:=ab.o.c 1 _ rfl;have z2:=ab.o.c 2 _ rfl;have y0:=ab.o.fr 0;have y1:=ab.o.fr 1;have y2:=ab.o.fr 2;have zl:=ab.o.lt;have aH:=qG (show ∀ g,AJ=some g->g.block≠V2.heap.size from fun g e=>by have h9:(V2.alloc (.cells #[.int .i64 0,.int .i64 0,.slice none 0 0] 57)).heap.size<=g.block:=ao g e;rw[World.size_alloc] at h9;omega));have aR:=qG (show ∀ g,AJ=some g->V2.heap.size<=g.block from fun g e=>by have h9:=ao g e;first|exact h9|exact Nat.le_trans ar.o.size h9);have aI:=qG an;have HJ:=qG hj;clear aa an ao hj
    refine hK.out _ _ ?_ (fun af=>?_)
    ·(try dsimp only);exact⟨n2 HB.o ah.o,n2 HB.o ai.o,n2 HB.o aj.o,n2 HB.o ak.o,n2 HB.o am.o,n2 HB.o ac.o⟩
    clear hK K
    try simp only[qW]
    refine ht 10 (h:=?_)
    refine ht 11 (h:=?_)
    refine ht 12 (h:=?_)
    refine r1 (i:=13) (by kernel_rfl) rfl fun K hK=>?_
    go_simp
    refine hK.out _ _ ?_ (fun af=>?_)
    ·(try dsimp only);first|exact⟨(n3 V (n2 HB.o ah.o)).trans rfl,(n3 V (n2 HB.o ai.o)).trans rfl,(n3 V (n2 HB.o aj.o)).trans rfl,(n3 V (n2 HB.o ak.o)).trans rfl,(n3 V (n2 HB.o am.o)).trans rfl,(n3 V (n2 HB.o ac.o)).trans rfl⟩|exact⟨(n3 V2 ah.o).trans rfl,(n3 V2 ai.o).trans rfl,(n3 V2 aj.o).trans rfl,(n3 V2 ak.o).trans rfl,(n3 V2 am.o).trans rfl,(n3 V2 ac.o).trans rfl⟩
    clear hK K
    try simp only[qW]
    rotate_left
    go_simp
    refine hK.out _ _ ?_ (fun af=>?_)
    ·(try dsimp only);first|exact⟨(n3 V (n2 HB.o ah.o)).trans rfl,(n3 V (n2 HB.o ai.o)).trans rfl,(n3 V (n2 HB.o aj.o)).trans rfl,(n3 V (n2 HB.o ak.o)).trans rfl,(n3 V (n2 HB.o am.o)).trans rfl,(n3 V (n2 HB.o ac.o)).trans rfl⟩|exact⟨(n3 V2 ah.o).trans rfl,(n3 V2 ai.o).trans rfl,(n3 V2 aj.o).trans rfl,(n3 V2 ak.o).trans rfl,(n3 V2 am.o).trans rfl,(n3 V2 ac.o).trans rfl⟩
    clear hK K
    try simp only[qW]
    refine r1 (i:=9) (by kernel_rfl) rfl fun K hK=>?_
    go_simp
    refine(Cu.ziu cc b2 b3 _ (by have:=bf.o;exact⟨by omega,by omega⟩) (by have:=bh.o;exact⟨by omega,by omega⟩) (by first|exact aA.o.next (Below.refl _ V2).drew|exact aA.o.next ar.o.drew)).mono ?_;rintro e V ⟨j,AJ,capj,hj,rfl,an,ao,aa⟩;have HB:=qG (show Below V2.heap.size V2 V from by first|exact(Below.refl _ V2).drew.trans aa|exact ar.o.drew.trans (aa.mono ar.o.size));(try have ab:=qG ((Bx.new V2 #[.int .i64 0,.int .i64 0,.slice none 0 0] 57).drew.next aa);have z0:=ab.o.c 0 _ rfl;have z1:=ab.o.c 1 _ rfl;have z2:=ab.o.c 2 _ rfl;have y0:=ab.o.fr 0;have y1:=ab.o.fr 1;have y2:=ab.o.fr 2;have zl:=ab.o.lt;have aH:=qG (show ∀ g,AJ=some g->g.block≠V2.heap.size from fun g e=>by have h9:(V2.alloc (.cells #[.int .i64 0,.int .i64 0,.slice none 0 0] 57)).heap.size<=g.block:=ao g e;rw[World.size_alloc] at h9;omega));have aR:=qG (show ∀ g,AJ=some g->V2.heap.size<=g.block from fun g e=>by have h9:=ao g e;first|exact h9|exact Nat.le_trans ar.o.size h9);have aI:=qG an;have HJ:=qG hj;clear aa an ao hj
    refine hK.out _ _ ?_ (fun af=>?_)
    ·(try dsimp only);exact⟨n2 HB.o ah.o,n2 HB.o ai.o,n2 HB.o aj.o,n2 HB.o ak.o,n2 HB.o am.o,n2 HB.o ac.o⟩
    clear hK K
    try simp only[qW]
    refine ht 10 (h:=?_)
    refine ht 11 (h:=?_)
    refine ht 12 (h:=?_)
    all_goals
     refine r1 (i:=14) (by kernel_rfl) rfl fun K hK=>?_
     go_simp
     refine hK.out _ _ ?_ (fun af=>?_)
     ·(try dsimp only);first|exact⟨(n3 V (n2 HB.o ah.o)).trans rfl,(n3 V (n2 HB.o ai.o)).trans rfl,(n3 V (n2 HB.o aj.o)).trans rfl,(n3 V (n2 HB.o ak.o)).trans rfl,(n3 V (n2 HB.o am.o)).trans rfl,(n3 V (n2 HB.o ac.o)).trans rfl⟩|exact⟨(zaT (Nat.ne_of_lt (zaa ah.o))).trans (n2 HB.o ah.o),(zaT (Nat.ne_of_lt (zaa ai.o))).trans (n2 HB.o ai.o),(zaT (Nat.ne_of_lt (zaa aj.o))).trans (n2 HB.o aj.o),(zaT (Nat.ne_of_lt (zaa ak.o))).trans (n2 HB.o ak.o),(zaT (Nat.ne_of_lt (zaa am.o))).trans (n2 HB.o am.o),(zaT (Nat.ne_of_lt (zaa ac.o))).trans (n2 HB.o ac.o)⟩
     clear hK K
     try simp only[qW]
     refine ht 15 (h:=?_)
     refine wpAnyH_done (by kernel_rfl) ?_ _
     refine NoPanic.normal ?_
    iterate 17 (try clear af)
    all_goals
     go_wp2_with fail
     go_meet
     first
     |exact⟨rfl,V.heap.size,j,AJ,capj,rfl,HJ.o,Bx.new V #[.int .i64 j.wide,.int .i64 j.high,.slice j.A j.piece.length j.c] 57,aI.o.next (nxA V _),aR.o,HB.o.size,HB.o.trans ((nxA V _).mono HB.o.size)⟩
     |exact⟨rfl,V2.heap.size,j,AJ,capj,rfl,HJ.o,((ab.o.set (k:=0) (by simp) _).set (k:=1) (by simp) _).set (k:=2) (by simp) _,zfd (zfd (zfd aI.o (by rw[HJ.o];exact aH.o) _ _) (by rw[HJ.o];exact aH.o) _ _) (by rw[HJ.o];exact aH.o) _ _,aR.o,qQ _,((HB.o.setCell (qQ _) _).setCell (qQ _) _).setCell (qQ _) _⟩
   case rest=>
    obtain⟨rfl,b6,j,AJ,capj,rfl,hj,bi,an,ao,bJ,aa⟩:=hcut
    generalize wc=w5 at *
    have aw:=qG (aC.o.trans (aa.mono aC.o.size))
    have ax:=qG bi
    have ay:=qG (HP.o.fl.below aw.o)
    have bK:=qG (show Mid w5 w5 f R R (seL d s (some ⟨g,0,none⟩) c0 A1 c1 A2 c2 A3 c3 A4 c4 A5 c5 A6 c6) from⟨ay.o.own,aX.o.x.next aw.o,.refl _ _,fun _ _ x=>x⟩)
    have aS:=qG (show AtO O w5 1 zad j.A j.piece from AtO.new (w:=w) an.pa (fun ad e=>by have h1:=ao ad (by rw[<- e,hj];rfl);have h2:=aC.o.size;omega) HP.o.fl.lt)
    have bw:=qG (show ¬ zao f R b6 from fun ho=>by have h1:=HP.o.fl.own.is_lt _ ho;have h2:=aC.o.size;omega)
    have aI:=qG an
    have HJ:=qG hj
    have bL:=qG (show j.piece.length<=9223372036854775807 from an.l1)
    clear bi an hj ao aa bJ hq bH bI
    go_wp2_with fail
    refine(zc3 _ w5).mono ?_
    rintro e w' ⟨rfl,⟨h,rfl⟩|⟨h,rfl⟩⟩
    .have aT:=qG h
     clear h
     have aU:a.toNat*3+(Cu.cutL j).length<=(R 0).xs.length:=by rw[HP.o.fl.h.ro.r0.2.2.2,zbr zbC];have h1:=HK.o;have h2:=HS.o.nc;show a.toNat*3+3<=_;omega
     have bM:=qG (show w5.there g (a.toNat*3) 3 from(ay.o.own.row 0 (by decide)).there aZ.o aU)
     have aJ:=qG (bK.o.setRs (k:=0) (by decide) aZ.o (Cu.cutL j) (j:=a.toNat*3) aU)
     have x0:=ax.o.c 0 _ rfl
     have x1:=ax.o.c 1 _ rfl
     have x2:=ax.o.c 2 _ rfl
     rw[<- zbk] at aJ
     clear aU
     go_upto_region 6 with (refine wpList_store_mid rfl 57 (.tmp 41) (.tmp 40) rfl g (a.toNat*3) (Cu.cutL j).toArray rfl rfl bM.o (by kernel_rfl) (by kernel_rfl) ?_)
     generalize w5.setCells g (a.toNat*3) (Cu.cutL j)=w6 at *
     clear x0 x1 x2
     have aK:=fun(o:Nat) (v:Value) (e:w5.cell? ⟨b6,o,none⟩=some v)=>aJ.o.cell bw.o e
     have x0:=aK 0 _ (ax.o.c 0 _ rfl)
     have x1:=aK 1 _ (ax.o.c 1 _ rfl)
     have x2:=aK 2 _ (ax.o.c 2 _ rfl)
     have bz:=qG (show Cu.CutAt w6 w6.heap.size j from⟨aJ.o.at_ aS.o (fun b x=>ay.o.sub b x),bL.o⟩)
     clear aK
     go_wp2_with fail
     refine(Cu.zeD j w6 bz.o).mono ?_
     rintro e V ⟨rfl,hb⟩
     have au:=qG (aJ.o.below hb)
     clear hb x0 x1 x2
     obtain⟨ck,aL⟩:∃ ck,ck=Cu.checkS j:=⟨_,rfl⟩
     simp only[Cu.zfh]
     rw[<- aL]
     have bj:=qG (show(⟨cc.wide,cc.high,Cu.za6 cc b2 b3⟩:Ct)=Ct.of j from by rw[HJ.o];unfold Ct.of Cu.zgW;simp only[aT.o,if_true])
     have bk:=qG (show Cu.checkS ⟨cc.wide,cc.high,Cu.za6 cc b2 b3,none,0⟩=ck from by rw[show(⟨cc.wide,cc.high,Cu.za6 cc b2 b3,none,0⟩:Cu.Cut)=(⟨cc.wide,cc.high,Cu.za6 cc b2 b3⟩:Ct).c from rfl,bj.o,zcq,aL])
     have bN:=qG (show ck.2=0->0<=ck.1/\ck.1<1000000000000000000 from fun h=>by rw[aL] at h ⊢;exact zeB h)
     clear aL
     go_wp2_with fail
     refine(zc3 _ V).mono ?_
     rintro e w' ⟨rfl,⟨h,rfl⟩|⟨h,rfl⟩⟩
     .have bp:=qG h
      clear h
      have bA:=qG (show ∀ x∈[Pa.w Vb.join.name,Pa.n (ck.1)],x.ok from by simp only[List.forall_mem_cons];exact⟨by show _<=20;decide,bN.o bp.o,fun x hx=>by cases hx⟩)
      go_wp2_with fail
      refine(zbf V [Pa.w Vb.join.name,Pa.n (ck.1)] ((HP.o.env.next aw.o).keep au.o.k (fun b hb=>HP.o.o6 b (HP.o.fl.sub b hb))) (by simp) (by simp) bA.o).mono ?_
      rintro e V9 ⟨rfl,aa⟩
      have bO:=qG aa
      clear aa
      go_wp2_with fail
      go_ret
      rw[show resV d s .join [a,b2,b3]=.ok (⟨{ s.b with cuts:=s.b.cuts.set a.toNat ⟨cc.wide,cc.high,Cu.za6 cc b2 b3⟩ },s.plans,s.planned⟩,rep [Pa.w Vb.join.name,Pa.n (ck.1)]) from by unfold resV;rw[zjG d s.b a b2 b3 cc ck (by have:=aG.o;omega) (by rw[show s.b.made.any (fun x=>decide (x.cut=a))=false from az.o.symm];decide) aP.o aT.o bk.o,if_neg (fun k=>k bp.o)]]
      have ht:=((show Turn w w5 f R R from Turn.of_below aw.o)).trans au.o.turn
      refine zbu (ay.o.up1 (s':=⟨{ s.b with cuts:=s.b.cuts.set a.toNat ⟨cc.wide,cc.high,Cu.za6 cc b2 b3⟩ },s.plans,s.planned⟩) (cs':=cs.set a.toNat j) au.o.turn au.o.o ?_ ?_ ?_ ?_ HP.o.fl.h.hp (fun x hx=>.inl hx)) ht bO.o rfl
      .have hx:=au.o.x
       exact zcn (v0:=.slice (some ⟨g,0,none⟩) (s.b.cuts.set a.toNat ⟨cc.wide,cc.high,Cu.za6 cc b2 b3⟩).length c0) (by show(R 0).v=_;rw[List.length_set];exact HS.o.e0) HS.o.e1 HS.o.e2 HS.o.e3 HS.o.e4 HS.o.e5 HS.o.e6 (by rw[List.length_set];exact hx)
      .have ro:=HP.o.fl.h.ro
       exact⟨⟨ro.r0.1,ro.r0.2.1,by show _=(cs.set _ _).length;rw[List.length_set];exact ro.r0.2.2.1,by show putL (R 0).xs _ _=(cs.set _ _).flatMap _;rw[ro.r0.2.2.2,zeu zbC (by decide) cs (by have h1:=HK.o;have h2:=HS.o.nc;omega) j]⟩,ro.r1,ro.r2,ro.r3,ro.r4,ro.r5,ro.r6⟩
      .show(cs.set _ _).map Ct.of=s.b.cuts.set _ _
       rw[List.map_set,HP.o.fl.h.ec,bj.o]
      .intro c hc
       rcases List.mem_or_eq_of_mem_set hc with hc|hc
       .exact .inl hc
       .rw[hc]
        exact .inr (aS.o.keep au.o.turn.k (fun b _ y=>ay.o.sub b y) (ay.o.oldO au.o.turn))
     .rw[show resV d s .join [a,b2,b3]=.error ck.2 from by unfold resV;rw[zjG d s.b a b2 b3 cc ck (by have:=aG.o;omega) (by rw[show s.b.made.any (fun x=>decide (x.cut=a))=false from az.o.symm];decide) aP.o aT.o bk.o,if_pos h]]
      exact⟨rfl,(Mid.late2 aw.o au.o) rfl (by simp[seL]) (Below.refl _ _) rfl⟩
    .rw[show resV d s .join [a,b2,b3]=.error (Cu.zbb cc b2 b3) from by unfold resV doV;simp only[List.getD_cons_zero,List.getD_cons_succ];rw[if_neg (by have:=aG.o;omega),if_neg (show ¬ s.b.made.any (fun x=>decide (x.cut=a))=true from by rw[show s.b.made.any (fun x=>decide (x.cut=a))=false from az.o.symm];decide),<- aP.o,zdN,if_pos h]]
     exact⟨rfl,zau HP.o.fl aw.o rfl⟩
  .go_wp2_with fail
   refine(zak 6 V2).mono ?_
   rintro e w' ⟨rfl,rfl⟩
   rw[show resV d s .join [a,b2,b3]=.error 6 from by unfold resV doV;simp only[List.getD_cons_zero,List.getD_cons_succ];rw[if_neg (by have:=aG.o;omega),if_pos (show s.b.made.any (fun x=>decide (x.cut=a))=true from az.o.symm)]]
   exact⟨rfl,zau HP.o.fl aC.o rfl⟩
 .rw[show resV d s .join [a,b2,b3]=.error 2 from by unfold resV doV;simp only[List.getD_cons_zero];rw[if_pos (by omega)]]
  exact⟨rfl,zau HP.o.fl ag.o rfl⟩
end
end Go.Proofs.YtankkcbofgighaaGreatDoor
