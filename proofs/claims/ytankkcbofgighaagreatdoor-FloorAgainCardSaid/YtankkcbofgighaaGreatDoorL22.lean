import Derived.Test.YtankkcbofgighaaGreatDoorL21
import Derived.BigQuiet
import Derived.BigRegion
import Derived.Laws.EntriesVeiled
import Derived.Shelf.Strings.BuilderK
import Derived.Lib.OthersKept
import Derived.Lib.BufferKept
import Derived.RangeFuncBound
import Derived.RangeFuncCalls
import Derived.OwnWalkIn
import Derived.TacticsInMore
import Derived.LoopNIn
import Derived.LoopIn
set_option linter.all false
set_option maxRecDepth 100000
set_option maxHeartbeats 40000000
namespace Go.Proofs.YtankkcbofgighaaGreatDoor
section
open Go.RowKit
open Le
def zdj(s:St):Prop:=∀ p∈s.plans,s.b.hour<=p.hour/\p.hour<=1048575/\EnOk p.e
theorem FlAt.shrink{O O':Nat->Prop}{w:World}{f:Nat}{R:Nat->Rw}{cs:List Cu.Cut}{ps:List Pq}{d:Ru.Die}{s:St}(h:FlAt O w f R cs ps d s)(hO:∀ b,O' b->O b)(hs:∀ b,zao f R b->O' b):FlAt O' w f R cs ps d s:=
 h.keepO (P:=fun _=>False) (.refl _ _) (fun _ x=>x.elim) (fun _ _ x=>x) hO hs
structure HrI(O:Nat->Prop)(w:World)(f:Nat)(R:Nat->Rw)(d:Ru.Die)(s:St)(a:Int)(m k:Nat)(s':St)(R':Nat->Rw)(cs':List Cu.Cut)(ps':List Pq)(W:World):Prop where
 fl:FlAt (orO O f R') W f R' cs' ps' d s'
 t:Turn w W f R R'
 r:runP d a s'.plans s'.b m k=runP d a s.plans s.b 0 0
 ok:VOk d s'
 pl:zdj s'
 pn:s'.planned=s.planned
 m8:m+s'.plans.length=s.plans.length/\k<=m
 hh:s'.b.hour<=a
 co:s'.b.cost<=s.b.cost+20000*(m:Int)
def HrR(O:Nat->Prop)(w:World)(f:Nat)(R:Nat->Rw)(d:Ru.Die)(s:St)(a:Int)(mv kv:Value)(W:World):Prop:=∃(m k:Nat) (s':St) (R':Nat->Rw) (cs':List Cu.Cut) (ps':List Pq),mv=.int .i64 m/\kv=.int .i64 k/\HrI O w f R d s a m k s' R' cs' ps' W
theorem zeO{R:Nat->Rw}{cs:List Cu.Cut}{ps:List Pq}{b:Bk}(h:RowsOk R cs ps b)(a:Int):RowsOk R cs ps { b with hour:=a }:=⟨h.r0,h.r1,h.r2,h.r3,h.r4,h.r5,h.r6⟩
theorem zgh(d:Ru.Die)(s:St)(a:Int):cmdV d s (.do_ ⟨.hour,[a]⟩)=if ¬(s.b.hour<=a/\a<=1048575) then .error 7
  else .ok (⟨{ (runP d a s.plans s.b 0 0).1 with hour:=a },(runP d a s.plans s.b 0 0).2.1,s.planned⟩,rep [wd Vb.hour.name,.n a,.n (runP d a s.plans s.b 0 0).2.2.1,.n (runP d a s.plans s.b 0 0).2.2.2]):=rfl
theorem zos(O:Nat->Prop)(w:World)(f:Nat)(R:Nat->Rw)(cs:List Cu.Cut)(ps:List Pq)(d:Ru.Die)(s:St)(A:Option Addr)(c:Nat)(a:Int)(hp:Pre O w f R cs ps d s A c [a])(aS:zdj s)(aT:s.b.cost<=99999000000) :
  Calls Tryz.prog 185 #[.pointer (some ⟨f,0,none⟩),.slice A 1 c] w (RetF O w f R d (cmdV d s (.do_ ⟨.hour,[a]⟩))):=by
 obtain⟨A0,c0,A1,c1,A2,c2,A3,c3,A4,c4,A5,c5,A6,c6,hs⟩:=hp.fl.sees
 obtain⟨b,off,rfl,bk,aL,na⟩:=hp.na.get (k:=0) (by simp)
 have na:w.cell? ⟨b,off,none⟩=some (.int .i64 a):=na
 have aU:b≠f:=fun e=>aL (hp.fl.sub b (.inl e))
 have bN:=qG aU
 have bp:=qG aL
 have ae:=qG na
 have bO:1<=c:=hp.nc
 clear aL aU bk
 have HP:=qG hp
 have HS:=qG hs
 clear hp hs
 have aH:=qG (HP.o.nn a (qE ..))
 have az:=qG (show ¬ zao f R b from fun k=>bp.o (HP.o.fl.sub b k))
 have aB:=qG (HS.o.x.c 0 _ rfl)
 have bq:=qG aS
 have bu:=qG aT
 have aI:=qG HP.o.ok.n8
 clear na aS aT
 go_enter Tryz.func185,Tryz.ntmps185
 go_upto_region 1 with fail
 by_cases hq:s.b.hour<=a/\a<=1048575
 .have bv:decide (s.b.hour<=a)=true:=decide_eq_true hq.1
  have bw:decide (a<=1048575)=true:=decide_eq_true hq.2
  refine wp_region_noPanic ?_
  refine wp_region_held_drew (S:=(fun W=>W.cell? ⟨b,off,none⟩=some (.int .i64 a)/\W.cell? ⟨f,0,none⟩=some (.int .i64 s.b.hour))) (by kernel_rfl) ?_ (fun ak=>?_)
  ·(try dsimp only);exact⟨ae.o,aB.o⟩
  refine ht 0 (h:=?_)
  refine ht 1 (h:=?_)
  refine ht 2 (h:=?_)
  refine ht 3 (h:=?_)
  refine ht 4 (h:=?_)
  refine ht 5 (h:=?_)
  refine ht 6 (h:=?_)
  refine ht 7 (h:=?_)
  refine ht 8 (h:=?_)
  refine r1 (i:=9) (by kernel_rfl) rfl fun K hK=>?_
  go_simp
  refine(zam a s.b.hour 1048575 _).mono ?_;rintro e w' ⟨rfl,rfl⟩
  refine hK.out _ _ ?_ (fun ak=>?_)
  ·(try dsimp only);exact⟨ae.o,aB.o⟩
  clear hK K
  try simp only[qW]
  refine r1 (i:=10) (by kernel_rfl) rfl fun K hK=>?_
  go_simp
  refine(zat 7 _).mono ?_;rintro e w' ⟨rfl,rfl⟩
  refine hK.out _ _ ?_ (fun ak=>?_)
  ·(try dsimp only);exact⟨ae.o,aB.o⟩
  clear hK K
  try simp only[qW]
  refine wpAnyH_done (by kernel_rfl) ?_ _
  refine NoPanic.normal ?_
  iterate 12 (try clear ak)
  have HQ:=qG hq
  clear bv bw hq
  have bz:=qG (show HrR O w f R d s a (.int .i64 0) (.int .i64 0) w.drew from⟨0,0,s,R,cs,ps,rfl,rfl,HP.o.fl.or.below ((Below.refl _ w).drew),Turn.of_below ((Below.refl _ w).drew),rfl,HP.o.ok,bq.o,rfl,⟨by omega,qQ _⟩,HQ.o.1,by omega⟩)
  generalize w.drew=V0 at *
  go_wp2_with fail
  go_loopw [5,6] (fun mv kv wr=>HrR O w f R d s a mv kv wr) (fun mv _ _=>100-(intOf mv).toNat)
  case atStart=>exact bz.o
  case round=>
   obtain⟨m,k,s',R',cs',ps',rfl,rfl,hI⟩:=hrel
   have HI:=qG hI
   clear hI
   obtain⟨A0',c0',A1',c1',A2',c2',A3',c3',A4',c4',A5',c5',A6',c6',hs⟩:=HI.o.fl.sees
   have aC:=qG hs
   clear hs
   have bh:=qG (show ∀ o v,w.cell? ⟨b,o,none⟩=some v->wr.cell? ⟨b,o,none⟩=some v from fun o v hv=>(HI.o.t.k.cell (zaa hv) az.o).trans hv)
   have f11:=aC.o.x.c 11 _ rfl
   have n0:=bh.o _ _ ae.o
   cases hpl:s'.plans with
  |nil=>
    rw[hpl] at f11
    go_upto_region 10 with (go_quiet (fail))
    generalize hV1:wr.drewN nq=V1 at *
    have an:=qG (show Below wr.heap.size wr V1 from hV1▸Le.zbz (Below.refl _ wr) nq)
    have aa:=qG (HI.o.fl.below an.o)
    have ac:=qG (HI.o.t.trans (Turn.of_below an.o))
    clear hV1 n0 f11
    obtain⟨A0,c0,A1,c1,A2,c2,A3,c3,A4,c4,A5,c5,A6,c6,hs⟩:=aa.o.sees
    have ab:=qG hs
    have ah:=qG (Mid.sees aa.o hs)
    have ao:=qG (show ∀ o v,w.cell? ⟨b,o,none⟩=some v->V1.cell? ⟨b,o,none⟩=some v from fun o v hv=>(ac.o.k.cell (zaa hv) az.o).trans hv)
    have aw:=qG (show ∀ g,zao f R' g->6<=g from fun g hg=>by
     by_cases hl:g<w.heap.size
     .exact HP.o.o6 g (HP.o.fl.sub g (ac.o.n g hl hg))
     .have:=HP.o.env.sz;omega)
    have aM:=qG (show w.heap.size<=V1.heap.size from ac.o.k.size)
    clear hs
    have aN:=qG (show runP d a s.plans s.b 0 0=(s'.b,s'.plans,(m:Int),(k:Int)) from by rw[<- HI.o.r,hpl];rfl)
    clear hpl
    have n0:=ao.o _ _ ae.o
    have y0:=ah.o.x.c 0 _ rfl
    have z0:=ah.o.x.fr 0
    have l0:=ah.o.x.lt
    go_upto_region 11 with fail
    have ag:=qG (ah.o.setF (j:=0) (by simp[seL]) (.int .i64 a))
    generalize V1.setCell ⟨f,0,none⟩ (.int .i64 a)=V2 at *
    clear n0 y0 z0 l0
    have n0:=(ag.o.k.cell (o:=off) (zaa (ao.o _ _ ae.o)) (fun ho=>az.o (ac.o.n b (zaa ae.o) ho))).trans (ao.o _ _ ae.o)
    have ai:=qG (show(m:Int)<=8/\(k:Int)<=8 by have h1:=HI.o.m8;have h2:=aI.o;omega)
    have aG:=qG (show ∀ x∈[Pa.w Vb.hour.name,Pa.n (a),Pa.n ((m:Int)),Pa.n ((k:Int))],x.ok from by simp only[List.forall_mem_cons];exact⟨by show _<=20;decide,⟨aH.o.1,by have:=aH.o.2;omega⟩,⟨by omega,by have:=ai.o;omega⟩,⟨by omega,by have:=ai.o;omega⟩,fun x hx=>by cases hx⟩)
    go_wp2_with fail
    refine(zbf V2 [Pa.w Vb.hour.name,Pa.n (a),Pa.n ((m:Int)),Pa.n ((k:Int))] ((HP.o.env.keep ac.o.k (fun b hb=>HP.o.o6 b (HP.o.fl.sub b hb))).keep ag.o.k aw.o) (by simp) (by simp) aG.o).mono ?_
    rintro e V9 ⟨rfl,ax⟩
    have aO:=qG ax
    clear ax
    go_wp2_with fail
    go_ret
    rw[show cmdV d s (.do_ ⟨.hour,[a]⟩)=.ok (⟨{ s'.b with hour:=a },s'.plans,s.planned⟩,rep [Pa.w Vb.hour.name,Pa.n (a),Pa.n ((m:Int)),Pa.n ((k:Int))]) from by rw[zgh,if_neg (fun q=>q HQ.o),aN.o];rfl]
    have hst:=aa.o.up1 (s':=⟨{ s'.b with hour:=a },s'.plans,s'.planned⟩) ag.o.turn ag.o.o (zcn ab.o.e0 ab.o.e1 ab.o.e2 ab.o.e3 ab.o.e4 ab.o.e5 ab.o.e6 ag.o.x) (zeO aa.o.h.ro a) aa.o.h.ec (fun c hc=>.inl hc) aa.o.h.hp (fun x hx=>.inl hx)
    rw[HI.o.pn] at hst
    exact zbu (hst.shrink (fun b hb=>hb.elim (fun x=>.inl (.inl x)) .inr) (fun b hb=>.inr hb)) (ac.o.trans ag.o.turn) aO.o rfl
  |cons p q=>
    obtain⟨x,aV,bA⟩:=HpOk.head (show HpOk Pq.p ps' (p :: q) s'.planned from by rw[<- hpl];exact HI.o.fl.h.hp)
    subst bA
    have af:=qG hpl
    have bL:x∈ps':=List.mem_of_getElem? aV
    have aD:=qG (show ps'.length=q.length+1 from by rw[aC.o.np,hpl];rfl)
    obtain⟨g,c9,ev,aW⟩:∃ g c9,(R' 6).v=.slice (some ⟨g,0,none⟩) ps'.length (c9+1)/\PqAt wr g 0 x:=by
     have bB:=zd0 (Mid.sees HI.o.fl aC.o) HI.o.fl.h.ro (show _=some (R' 6).v from by rw[aC.o.e6];rfl) (by rw[aD.o];have h1:=HI.o.ok.n8;rw[hpl] at h1;simp only[List.length_cons] at h1;omega)
     obtain⟨g,c9,e1,-,e2,-⟩:=bB.at_ aV
     exact⟨g,c9,e1,e2⟩
    have bC:A6'=some ⟨g,0,none⟩:=by have:=aC.o.e6;rw[ev] at this;injection this with q1 _ q2;exact q1.symm
    subst bC
    have g0:wr.cell? ⟨g,0,none⟩=some (.int .i64 x.p.hour):=by have:=aW.1;rw[Nat.zero_mul] at this;exact this
    rw[hpl] at f11
    have bM:(0:Int)<(q.length:Int)+1:=by omega
    clear aW ev
    by_cases aA:x.p.hour<=a
    .have hd:decide (x.p.hour<=a)=true:=decide_eq_true aA
     have aq:=qG aA
     clear aA
     go_upto_region 4 with (go_quiet (fail))
     clear g0
     generalize hV1:wr.drewN nq=V1 at *
     have an:=qG (show Below wr.heap.size wr V1 from hV1▸Le.zbz (Below.refl _ wr) nq)
     have aa:=qG (HI.o.fl.below an.o)
     have ac:=qG (HI.o.t.trans (Turn.of_below an.o))
     clear hV1 n0 f11
     obtain⟨A0,c0,A1,c1,A2,c2,A3,c3,A4,c4,A5,c5,A6,c6,hs⟩:=aa.o.sees
     have ab:=qG hs
     have ah:=qG (Mid.sees aa.o hs)
     have ao:=qG (show ∀ o v,w.cell? ⟨b,o,none⟩=some v->V1.cell? ⟨b,o,none⟩=some v from fun o v hv=>(ac.o.k.cell (zaa hv) az.o).trans hv)
     have aw:=qG (show ∀ g,zao f R' g->6<=g from fun g hg=>by
      by_cases hl:g<w.heap.size
      .exact HP.o.o6 g (HP.o.fl.sub g (ac.o.n g hl hg))
      .have:=HP.o.env.sz;omega)
     have aM:=qG (show w.heap.size<=V1.heap.size from ac.o.k.size)
     clear hs
     have bD:=qG (zd0 ah.o aa.o.h.ro (show _=some (R' 6).v from by rw[ab.o.e6];rfl) (by rw[aD.o];have h1:=HI.o.ok.n8;rw[af.o] at h1;simp only[List.length_cons] at h1;omega))
     have bE:=qG (show HpOk Pq.p ps' (x.p :: q) s'.planned from by rw[<- af.o];exact aa.o.h.hp)
     obtain⟨z,hz,aE,aX⟩:∃ z,(Hp.popH ltP ps')[q.length]?=some z/\z.p=x.p/\HpOk Pq.p ((Hp.popH ltP ps').take q.length) q s'.planned:=by
      obtain⟨p1,⟨z,hz,aE⟩,p3⟩:=bE.o.pop
      rw[show ps'.length-1=q.length from by rw[aD.o];rfl] at hz p3
      exact⟨z,hz,aE,p3⟩
     have aP:=qG (show(Hp.popH ltP ps').Perm ps' from(Hp.downL_perm ltP _ _ _ _ (qQ _)).trans (Hp.swapL_perm _ _ _))
     have aY:=qG (show z∈ps' from(aP.o.mem_iff).1 (List.mem_of_getElem? hz))
     have aZ:=qG (zor V1 V1 f R' R' R' (seL d s' A0 c0 A1 c1 A2 c2 A3 c3 A4 c4 A5 c5 A6 c6) ps' bD.o q.length aD.o z hz)
     replace af:=qG (show s'.plans=z.p :: q from by rw[aE];exact af.o)
     replace aq:=qG (show z.p.hour<=a from by rw[aE];exact aq.o)
     have bF:=qG aX
     have aF:=qG (HI.o.pl z.p (by rw[af.o];exact qE ..))
     clear hz aE aX
     go_wp2_with fail
     refine aZ.o.mono ?_
     rintro e V2 ⟨rfl,R2,aQ⟩
     have aj:=qG aQ
     obtain⟨A',c',ev,-⟩:=aQ.form
     have bG:=qG (show((Hp.popH ltP ps').take q.length).length=q.length from by rw[List.length_take,aP.o.length_eq,aD.o];omega)
     rw[bG.o] at ev
     have bH:=qG ev
     clear aQ ev aZ
     have bI:∀ W:World,(Instr.typeAssert (.iface 251 (.agg #[.int .i64 z.p.hour,.int .i64 z.p.num,.int .i64 z.p.e.n.length,.func (.func (vbF z.p.e.v)) #[] #[],.bool z.p.e.v.clock,.slice z.A z.p.e.n.length z.c])) 20 251 false).run Tryz.prog W=.ok (.agg #[.int .i64 z.p.hour,.int .i64 z.p.num,.int .i64 z.p.e.n.length,.func (.func (vbF z.p.e.v)) #[] #[],.bool z.p.e.v.clock,.slice z.A z.p.e.n.length z.c]) W:=fun W=>by kernel_rfl
     have bJ:=qG (nxA V2 (.cells #[.int .i64 z.p.hour,.int .i64 z.p.num,.int .i64 z.p.e.n.length,.func (.func (vbF z.p.e.v)) #[] #[],.bool z.p.e.v.clock,.slice z.A z.p.e.n.length z.c] 251))
     have aR:=qG (Bx.new V2 #[.int .i64 z.p.hour,.int .i64 z.p.num,.int .i64 z.p.e.n.length,.func (.func (vbF z.p.e.v)) #[] #[],.bool z.p.e.v.clock,.slice z.A z.p.e.n.length z.c] 251)
     go_upto_region 5 with fail
     generalize hV3:V2.alloc (.cells #[.int .i64 z.p.hour,.int .i64 z.p.num,.int .i64 z.p.e.n.length,.func (.func (vbF z.p.e.v)) #[] #[],.bool z.p.e.v.clock,.slice z.A z.p.e.n.length z.c] 251)=V3 at *
     obtain⟨b7,a7⟩:∃ b7,b7=V2.heap.size:=⟨_,rfl⟩
     rw[<- a7] at aR ⊢
     have ay:=qG (aj.o.m.below bJ.o)
     have a8:=qG (show b7≠f from fun e=>by have:=aj.o.m.x.lt;omega)
     clear hV3 a7 bI
     have x11:V3.cell? ⟨f,11,none⟩=some (.slice A' q.length c'):=by rw[<- bH.o];exact ay.o.x.c 11 _ rfl
     have x7:=aR.o.c 0 _ rfl
     have y9:=ay.o.x.c 9 _ rfl
     have z9:=ay.o.x.fr 9
     have y0:=ay.o.x.c 0 _ rfl
     have z0:=ay.o.x.fr 0
     have l0:=ay.o.x.lt
     go_region
     have ar:=qG (((ay.o.setF (j:=9) (by simp[seL]) (.int .i64 (q.length:Int))).setF (j:=0) (by simp[seL]) (.int .i64 z.p.hour)).drew)
     have aJ:=qG (((aR.o.other (g:=f) a8.o 9 (.int .i64 (q.length:Int))).other (g:=f) a8.o 0 (.int .i64 z.p.hour)).next ((Below.refl _ _).drew))
     generalize((V3.setCell ⟨f,9,none⟩ (.int .i64 (q.length:Int))).setCell ⟨f,0,none⟩ (.int .i64 z.p.hour)).drew=V5 at *
     clear x11 x7 y9 z9 y0 z0 l0
     have bi:=qG (aa.o.upP (ps':=(Hp.popH ltP ps').take q.length) (s':=(⟨(⟨z.p.hour,s'.b.cuts,s'.b.ran,s'.b.made,s'.b.t,s'.b.cost,s'.b.opn⟩:Bk),q,s'.planned⟩:St)) ar.o.turn ar.o.o (zcn ((congrArg Rw.v (aj.o.e 0 (by decide))).trans ab.o.e0) ((congrArg Rw.v (aj.o.e 1 (by decide))).trans ab.o.e1) ((congrArg Rw.v (aj.o.e 2 (by decide))).trans ab.o.e2) ((congrArg Rw.v (aj.o.e 3 (by decide))).trans ab.o.e3) ((congrArg Rw.v (aj.o.e 4 (by decide))).trans ab.o.e4) ((congrArg Rw.v (aj.o.e 5 (by decide))).trans ab.o.e5) rfl ar.o.x) rfl (zeO (zf4 aa.o.h.ro aj.o.e aj.o.r) z.p.hour) bF.o (fun y hy=>.inl ((aP.o.mem_iff).1 (List.mem_of_mem_take hy))))
     have aK:=qG (show VOk d (⟨(⟨z.p.hour,s'.b.cuts,s'.b.ran,s'.b.made,s'.b.t,s'.b.cost,s'.b.opn⟩:Bk),q,s'.planned⟩:St) from⟨HP.o.ok.dd,HI.o.ok.b.later aF.o.1 aF.o.2.1,by have h1:=HI.o.ok.n8;rw[af.o,List.length_cons] at h1;show q.length<=8;omega,HI.o.ok.pn,HI.o.ok.cs⟩)
     have bK:=qG (show Pre (orO (orO O f R') f R2) V5 f R2 cs' ((Hp.popH ltP ps').take q.length) d (⟨(⟨z.p.hour,s'.b.cuts,s'.b.ran,s'.b.made,s'.b.t,s'.b.cost,s'.b.opn⟩:Bk),q,s'.planned⟩:St) z.A z.c z.p.e.n from
      ⟨(HP.o.env.keep ac.o.k (fun b hb=>HP.o.o6 b (HP.o.fl.sub b hb))).keep ar.o.k aw.o,
       fun g hg=>hg.elim (fun hg=>hg.elim (HP.o.o6 g) (aw.o g)) (fun hg=>by
        by_cases hl:g<V1.heap.size
        .exact aw.o g (ar.o.turn.n g hl hg)
        .have:=HP.o.env.sz;have:=aM.o;omega),
       bi.o,aK.o,(aa.o.h.pa z aY.o).keep ar.o.turn.k (fun b _ q=>aa.o.sub b q) (aa.o.oldO ar.o.turn),aa.o.h.pc z aY.o,aF.o.2.2.bd⟩)
     have a9:=qG (zq4 (orO (orO O f R') f R2) V5 f R2 cs' ((Hp.popH ltP ps').take q.length) d (⟨(⟨z.p.hour,s'.b.cuts,s'.b.ran,s'.b.made,s'.b.t,s'.b.cost,s'.b.opn⟩:Bk),q,s'.planned⟩:St) z.p.e z.A z.c bK.o aF.o.2.2)
     have v2:=aJ.o.c 2 _ rfl
     have v3:=aJ.o.c 3 _ rfl
     have v4:=aJ.o.c 4 _ rfl
     have v5:=aJ.o.c 5 _ rfl
     go_wp2_with fail
     refine a9.o.mono ?_
     rintro e V6 ⟨rfl,R3,cs3,ps3,h1,h2⟩
     have am:=qG h1
     have ba:=qG (ac.o.trans (ar.o.turn.trans h2))
     clear h1 h2 v2 v3 v4 v5 a9
     have bf:=qG (show ∀ y∈q,z.p.hour<=y.hour from by have h1:=zdQ aa.o.h.hp.pl.so;rw[af.o] at h1;exact(List.pairwise_cons.1 h1).1)
     have ai:=qG (show(m:Int)<=8/\(k:Int)<=8 by have h1:=HI.o.m8;have h2:=aI.o;omega)
     have wm1:wrap64 ((m:Int)+1)=(m:Int)+1:=IntWalk.wrap64_in _ (by have:=ai.o;omega)
     have wk1:IntKind.i64.wrap ((k:Int)+1)=(k:Int)+1:=qF _ (by have:=ai.o;omega)
     have wk2:wrap64 ((k:Int)+1)=(k:Int)+1:=IntWalk.wrap64_in _ (by have:=ai.o;omega)
     cases hdo:doV d (⟨z.p.hour,s'.b.cuts,s'.b.ran,s'.b.made,s'.b.t,s'.b.cost,s'.b.opn⟩:Bk) z.p.e.v z.p.e.n with
    |error c=>
      have au:=qG hdo
      have he:(c !=0)=true:=by simp[zld hdo]
      have bP:decide (c≠0)=true:=by simp[zld hdo]
      have hr:resT (⟨(⟨z.p.hour,s'.b.cuts,s'.b.ran,s'.b.made,s'.b.t,s'.b.cost,s'.b.opn⟩:Bk),q,s'.planned⟩:St) (resV d (⟨(⟨z.p.hour,s'.b.cuts,s'.b.ran,s'.b.made,s'.b.t,s'.b.cost,s'.b.opn⟩:Bk),q,s'.planned⟩:St) z.p.e.v z.p.e.n)=((⟨(⟨z.p.hour,s'.b.cuts,s'.b.ran,s'.b.made,s'.b.t,s'.b.cost,s'.b.opn⟩:Bk),q,s'.planned⟩:St),[],c):=by
       have h1:resV d (⟨(⟨z.p.hour,s'.b.cuts,s'.b.ran,s'.b.made,s'.b.t,s'.b.cost,s'.b.opn⟩:Bk),q,s'.planned⟩:St) z.p.e.v z.p.e.n=.error c:=by
        unfold resV
        rw[show doV d ((⟨(⟨z.p.hour,s'.b.cuts,s'.b.ran,s'.b.made,s'.b.t,s'.b.cost,s'.b.opn⟩:Bk),q,s'.planned⟩:St):St).b z.p.e.v z.p.e.n=_ from hdo]
       rw[h1];rfl
      rw[hr]
      replace am:=qG (show FlAt (orO (orO (orO O f R') f R2) f R3) V6 f R3 cs3 ps3 d (⟨(⟨z.p.hour,s'.b.cuts,s'.b.ran,s'.b.made,s'.b.t,s'.b.cost,s'.b.opn⟩:Bk),q,s'.planned⟩:St) from by have h1:=am.o;rw[hr] at h1;exact h1)
      clear hdo hr
      have hst:∀ V',Below V6.heap.size V6 V'->HrI O w f R d s a (m+1) (k+1) (⟨(⟨z.p.hour,s'.b.cuts,s'.b.ran,s'.b.made,s'.b.t,s'.b.cost,s'.b.opn⟩:Bk),q,s'.planned⟩:St) R3 cs3 ps3 V':=fun V' hb=>
       ⟨(am.o.below hb).shrink (fun b hb=>hb.elim (fun x=>.inl (.inl (.inl x))) .inr) (fun b hb=>.inr hb),ba.o.trans (Turn.of_below hb),
        by rw[<- HI.o.r,af.o];show _=(if z.p.hour<=a then(match doV d (⟨z.p.hour,s'.b.cuts,s'.b.ran,s'.b.made,s'.b.t,s'.b.cost,s'.b.opn⟩:Bk) z.p.e.v z.p.e.n with|.ok (s',_)=>runP d a q s' ((m:Int)+1) k|.error _=>runP d a q (⟨z.p.hour,s'.b.cuts,s'.b.ran,s'.b.made,s'.b.t,s'.b.cost,s'.b.opn⟩:Bk) ((m:Int)+1) ((k:Int)+1)) else _);rw[if_pos aq.o,au.o];rfl,
        aK.o,
        fun y hy=>⟨bf.o y hy,(HI.o.pl y (by rw[af.o];exact List.mem_cons_of_mem _ hy)).2⟩,
        HI.o.pn,⟨by have h1:=HI.o.m8.1;rw[af.o,List.length_cons] at h1;show m+1+q.length=_;omega,by have:=HI.o.m8.2;omega⟩,
        aq.o,
        by have:=HI.o.co;show s'.b.cost<=_;push_cast;omega⟩
      go_wp2_with fail
      exact⟨⟨m+1,k+1,_,R3,cs3,ps3,by go_num,by go_num,hst V6 (Below.refl _ _)⟩,by have:=ai.o;simp[intOf];omega⟩
    |ok y=>
      have au:=qG hdo
      have hr:resT (⟨(⟨z.p.hour,s'.b.cuts,s'.b.ran,s'.b.made,s'.b.t,s'.b.cost,s'.b.opn⟩:Bk),q,s'.planned⟩:St) (resV d (⟨(⟨z.p.hour,s'.b.cuts,s'.b.ran,s'.b.made,s'.b.t,s'.b.cost,s'.b.opn⟩:Bk),q,s'.planned⟩:St) z.p.e.v z.p.e.n)=((⟨y.1,q,s'.planned⟩:St),y.2,0):=by
       have h1:resV d (⟨(⟨z.p.hour,s'.b.cuts,s'.b.ran,s'.b.made,s'.b.t,s'.b.cost,s'.b.opn⟩:Bk),q,s'.planned⟩:St) z.p.e.v z.p.e.n=.ok ((⟨y.1,q,s'.planned⟩:St),y.2):=by
        unfold resV
        rw[show doV d ((⟨(⟨z.p.hour,s'.b.cuts,s'.b.ran,s'.b.made,s'.b.t,s'.b.cost,s'.b.opn⟩:Bk),q,s'.planned⟩:St):St).b z.p.e.v z.p.e.n=_ from hdo]
       rw[h1];rfl
      rw[hr]
      replace am:=qG (show FlAt (orO (orO (orO O f R') f R2) f R3) V6 f R3 cs3 ps3 d (⟨y.1,q,s'.planned⟩:St) from by have h1:=am.o;rw[hr] at h1;exact h1)
      clear hdo hr
      have hst:∀ V',Below V6.heap.size V6 V'->HrI O w f R d s a (m+1) (k) (⟨y.1,q,s'.planned⟩:St) R3 cs3 ps3 V':=fun V' hb=>
       ⟨(am.o.below hb).shrink (fun b hb=>hb.elim (fun x=>.inl (.inl (.inl x))) .inr) (fun b hb=>.inr hb),ba.o.trans (Turn.of_below hb),
        by rw[<- HI.o.r,af.o];show _=(if z.p.hour<=a then(match doV d (⟨z.p.hour,s'.b.cuts,s'.b.ran,s'.b.made,s'.b.t,s'.b.cost,s'.b.opn⟩:Bk) z.p.e.v z.p.e.n with|.ok (s',_)=>runP d a q s' ((m:Int)+1) k|.error _=>runP d a q (⟨z.p.hour,s'.b.cuts,s'.b.ran,s'.b.made,s'.b.t,s'.b.cost,s'.b.opn⟩:Bk) ((m:Int)+1) ((k:Int)+1)) else _);rw[if_pos aq.o,au.o];rfl,
        ⟨HP.o.ok.dd,zj8 HP.o.ok.dd (b':=y.1) (t:=y.2) aK.o.b (fun v hv=>(aF.o.2.2.bd v hv).1) au.o,aK.o.n8,HI.o.ok.pn,by have h1:=zez HP.o.ok.dd au.o;have h2:=HI.o.co;have h3:=bu.o;have h4:=HI.o.m8.1;have h5:=aI.o;have h6:y.1.cost<=s'.b.cost+20000:=h1;show y.1.cost<=_;omega⟩,
        fun v hv=>⟨by have h1:y.1.hour=z.p.hour:=zey au.o;show y.1.hour<=_;rw[h1];exact bf.o v hv,(HI.o.pl v (by rw[af.o];exact List.mem_cons_of_mem _ hv)).2⟩,
        HI.o.pn,⟨by have h1:=HI.o.m8.1;rw[af.o,List.length_cons] at h1;show m+1+q.length=_;omega,by have:=HI.o.m8.2;omega⟩,
        by have h1:y.1.hour=z.p.hour:=zey au.o;show y.1.hour<=a;rw[h1];exact aq.o,
        by have h0:=zez HP.o.ok.dd au.o;have h1:y.1.cost<=s'.b.cost+20000:=h0;have:=HI.o.co;show y.1.cost<=_;push_cast;omega⟩
      go_wp2_with fail
      exact⟨⟨m+1,k,_,R3,cs3,ps3,by go_num,by go_num,hst V6 (Below.refl _ _)⟩,by have:=ai.o;simp[intOf];omega⟩
    .have hd:decide (x.p.hour<=a)=false:=decide_eq_false aA
     have aq:=qG aA
     clear aA
     go_upto_region 10 with (go_quiet (fail))
     clear g0
     generalize hV1:wr.drewN nq=V1 at *
     have an:=qG (show Below wr.heap.size wr V1 from hV1▸Le.zbz (Below.refl _ wr) nq)
     have aa:=qG (HI.o.fl.below an.o)
     have ac:=qG (HI.o.t.trans (Turn.of_below an.o))
     clear hV1 n0 f11
     obtain⟨A0,c0,A1,c1,A2,c2,A3,c3,A4,c4,A5,c5,A6,c6,hs⟩:=aa.o.sees
     have ab:=qG hs
     have ah:=qG (Mid.sees aa.o hs)
     have ao:=qG (show ∀ o v,w.cell? ⟨b,o,none⟩=some v->V1.cell? ⟨b,o,none⟩=some v from fun o v hv=>(ac.o.k.cell (zaa hv) az.o).trans hv)
     have aw:=qG (show ∀ g,zao f R' g->6<=g from fun g hg=>by
      by_cases hl:g<w.heap.size
      .exact HP.o.o6 g (HP.o.fl.sub g (ac.o.n g hl hg))
      .have:=HP.o.env.sz;omega)
     have aM:=qG (show w.heap.size<=V1.heap.size from ac.o.k.size)
     clear hs
     have aN:=qG (show runP d a s.plans s.b 0 0=(s'.b,s'.plans,(m:Int),(k:Int)) from by rw[<- HI.o.r,af.o];exact if_neg aq.o)
     have n0:=ao.o _ _ ae.o
     have y0:=ah.o.x.c 0 _ rfl
     have z0:=ah.o.x.fr 0
     have l0:=ah.o.x.lt
     go_upto_region 11 with fail
     have ag:=qG (ah.o.setF (j:=0) (by simp[seL]) (.int .i64 a))
     generalize V1.setCell ⟨f,0,none⟩ (.int .i64 a)=V2 at *
     clear n0 y0 z0 l0
     have n0:=(ag.o.k.cell (o:=off) (zaa (ao.o _ _ ae.o)) (fun ho=>az.o (ac.o.n b (zaa ae.o) ho))).trans (ao.o _ _ ae.o)
     have ai:=qG (show(m:Int)<=8/\(k:Int)<=8 by have h1:=HI.o.m8;have h2:=aI.o;omega)
     have aG:=qG (show ∀ x∈[Pa.w Vb.hour.name,Pa.n (a),Pa.n ((m:Int)),Pa.n ((k:Int))],x.ok from by simp only[List.forall_mem_cons];exact⟨by show _<=20;decide,⟨aH.o.1,by have:=aH.o.2;omega⟩,⟨by omega,by have:=ai.o;omega⟩,⟨by omega,by have:=ai.o;omega⟩,fun x hx=>by cases hx⟩)
     go_wp2_with fail
     refine(zbf V2 [Pa.w Vb.hour.name,Pa.n (a),Pa.n ((m:Int)),Pa.n ((k:Int))] ((HP.o.env.keep ac.o.k (fun b hb=>HP.o.o6 b (HP.o.fl.sub b hb))).keep ag.o.k aw.o) (by simp) (by simp) aG.o).mono ?_
     rintro e V9 ⟨rfl,ax⟩
     have aO:=qG ax
     clear ax
     go_wp2_with fail
     go_ret
     rw[show cmdV d s (.do_ ⟨.hour,[a]⟩)=.ok (⟨{ s'.b with hour:=a },s'.plans,s.planned⟩,rep [Pa.w Vb.hour.name,Pa.n (a),Pa.n ((m:Int)),Pa.n ((k:Int))]) from by rw[zgh,if_neg (fun q=>q HQ.o),aN.o];rfl]
     have hst:=aa.o.up1 (s':=⟨{ s'.b with hour:=a },s'.plans,s'.planned⟩) ag.o.turn ag.o.o (zcn ab.o.e0 ab.o.e1 ab.o.e2 ab.o.e3 ab.o.e4 ab.o.e5 ab.o.e6 ag.o.x) (zeO aa.o.h.ro a) aa.o.h.ec (fun c hc=>.inl hc) aa.o.h.hp (fun x hx=>.inl hx)
     rw[HI.o.pn] at hst
     exact zbu (hst.shrink (fun b hb=>hb.elim (fun x=>.inl (.inl x)) .inr) (fun b hb=>.inr hb)) (ac.o.trans ag.o.turn) aO.o rfl
 .have hd:(decide (s.b.hour<=a)&&decide (a<=1048575))=false:=by rw[<- Bool.decide_and];exact decide_eq_false hq
  have bj:=qG (show ∀ w',Below w.heap.size w w'->RetF O w f R d (cmdV d s (.do_ ⟨.hour,[a]⟩)) (.panicked (zaF 7)) w' from fun w' hb=>by rw[show cmdV d s (.do_ ⟨.hour,[a]⟩)=.error 7 from by rw[zgh,if_pos hq]];exact zau HP.o.fl hb rfl)
  refine zru (fun ch W'=>ch=zaF 7/\Below w.heap.size w W') (fun ch a' w' hd h=>by obtain⟨rfl,h⟩:=h;exact⟨hd,bj.o w' h⟩) ?_
  refine wp_region_held_drew (S:=(fun W=>W.cell? ⟨b,off,none⟩=some (.int .i64 a)/\W.cell? ⟨f,0,none⟩=some (.int .i64 s.b.hour))) (by kernel_rfl) ?_ (fun ak=>?_)
  ·(try dsimp only);exact⟨ae.o,aB.o⟩
  refine ht 0 (h:=?_) (hQ:=fun _ _ _=>zrr)
  refine ht 1 (h:=?_) (hQ:=fun _ _ _=>zrr)
  refine ht 2 (h:=?_) (hQ:=fun _ _ _=>zrr)
  refine ht 3 (h:=?_) (hQ:=fun _ _ _=>zrr)
  refine ht 4 (h:=?_) (hQ:=fun _ _ _=>zrr)
  refine ht 5 (h:=?_) (hQ:=fun _ _ _=>zrr)
  refine ht 6 (h:=?_) (hQ:=fun _ _ _=>zrr)
  refine ht 7 (h:=?_) (hQ:=fun _ _ _=>zrr)
  refine ht 8 (h:=?_) (hQ:=fun _ _ _=>zrr)
  refine r1 (i:=9) (by kernel_rfl) rfl fun K hK=>?_
  go_simp
  refine(zam a s.b.hour 1048575 _).mono ?_;rintro e w' ⟨rfl,rfl⟩
  refine hK.out _ _ ?_ (fun ak=>?_)
  ·(try dsimp only);exact⟨ae.o,aB.o⟩
  clear hK K
  try simp only[qW]
  refine r1 (i:=10) (by kernel_rfl) rfl fun K hK=>?_
  go_simp
  (try rw[hd]);refine(zak 7 _).mono ?_;rintro e w' ⟨rfl,rfl⟩;exact⟨rfl,rfl,(Below.refl _ w).drew⟩
theorem zpB(l:List ByteArray):l.map Value.string=(l.map (·.data.toList)).map tx:=by
 rw[List.map_map]
 refine List.map_congr_left fun b _=>?_
 rfl
theorem zmh(t:Tx)(w:World)(hE:Env w)(hl:t.length<4294967281):Calls Tryz.prog 64 #[tx t,.string ⟨#[32]⟩] w fun e w'=>
  e=.returned (.slice (some ⟨w.heap.size,0,none⟩) (Bo.zas 32 t).length (Bo.zas 32 t).length)/\w'=w.alloc (.cells (((Bo.zas 32 t).map tx).toArray) 9):=by
 obtain⟨m,hm⟩:=hE.mx
 have h1:(Lib.splitB ⟨#[32]⟩ 0 (Lib.countB ⟨t.toArray⟩ ⟨#[32]⟩) ⟨t.toArray⟩).map (·.data.toList)=Bo.zas 32 t:=by
  rw[Lib.splitB_data]
  exact Bo.ziZ 32 t.length t (qQ _)
 have h2:Lib.countB ⟨t.toArray⟩ ⟨#[32]⟩+1=(Bo.zas 32 t).length:=by
  rw[<- h1,List.length_map,Lib.splitB_all ⟨#[32]⟩ (by decide) 0 _ _ rfl]
 refine(Tryz.strings_Split ⟨t.toArray⟩ ⟨#[32]⟩ m w hl hm (by decide)).mono ?_
 rintro e w' ⟨rfl,rfl⟩
 rw[h2,zpB,h1]
 exact⟨rfl,rfl⟩
theorem zqW(w:World)(l:List Tx):At (w.alloc (.cells ((l.map tx).toArray) 9)) (w.alloc (.cells ((l.map tx).toArray) 9)).heap.size 1 zfl (some ⟨w.heap.size,0,none⟩) l:=fun k x hx=>by
 refine⟨w.heap.size,0,rfl,by simp,fun j u hu=>?_⟩
 rcases j with _|j
 .injection hu with hu
  subst hu
  rw[Nat.zero_add,Nat.mul_one,Nat.add_zero]
  rw[cell_of_row _ _ _ _ 9 (0,0) (heap_alloc_new w _)]
  simp[hx]
 .cases hu
theorem zl7{O:Nat->Prop}{w:World}{f:Nat}{R:Nat->Rw}{cs:List Cu.Cut}{ps:List Pq}{d:Ru.Die}{s:St}{A:Option Addr}{c:Nat}{e:En}(hp:Pre O w f R cs ps d s A c e.n)(hm:zbF e.v e.n=true)(aa:zdj s)(ab:s.b.cost<=99999000000) :
  Calls Tryz.prog (vbF e.v) #[.pointer (some ⟨f,0,none⟩),.slice A e.n.length c] w (RetF O w f R d (cmdV d s (.do_ e))):=by
 obtain⟨v,n⟩:=e
 by_cases h1:v=.hour
 .subst h1
  obtain⟨a,rfl⟩:=len1 (zbn (k:=1) hm (fun h=>by cases h) rfl)
  exact zos O w f R cs ps d s A c a hp aa ab
 .by_cases h2:v=.drop
  .subst h2
   have:=zbn (k:=0) hm (fun h=>by cases h) rfl
   have hn:n=[]:=List.length_eq_zero_iff.1 this
   subst hn
   exact zoO O w f R cs ps d s A c hp
  .have hc:v.clock=false:=by cases v <;> first|rfl|exact absurd rfl h1|exact absurd rfl h2
   have he:cmdV d s (.do_ ⟨v,n⟩)=resV d s v n:=by
    unfold cmdV resV
    dsimp only
    rw[if_neg h1,if_neg h2]
    cases doV d s.b v n <;> rfl
   rw[he]
   exact ziU hp hm hc
theorem zi0(c:UInt8):∀ t:Tx,(Bo.zas c t).length<=t.length+1/\∀ x∈Bo.zas c t,x.length<=t.length
|[]=>⟨qQ _,fun x hx=>by rw[List.mem_singleton.1 hx];exact Nat.zero_le _⟩
|b :: l=>by
  obtain⟨h1,h2⟩:=zi0 c l
  rw[Bo.zcb]
  split
  .exact⟨by simp only[List.length_cons];omega,fun x hx=>by
    rcases List.mem_cons.1 hx with rfl|hx
    .exact Nat.zero_le _
    .have:=h2 x hx;simp only[List.length_cons];omega⟩
  .cases hs:Bo.zas c l with
  |nil=>exact absurd hs (Bo.zcB c l)
  |cons y r=>
    rw[hs] at h1 h2
    refine⟨by show(((b :: y) :: r):List Tx).length<=_;simp only[List.length_cons] at *;omega,fun x hx=>?_⟩
    rcases List.mem_cons.1 (show x∈(b :: y) :: r from hx) with rfl|hx
    .have:=h2 y (qE ..);simp only[List.length_cons];omega
    .have:=h2 x (List.mem_cons_of_mem _ hx);simp only[List.length_cons];omega
noncomputable def lineR(d:Ru.Die)(s:St)(t:Tx):Res:=match cmdS t with
|none=>.error 8
|some c=>cmdV d s c
theorem zqo{v:Tx}{r:List Tx}(h:v≠[97,116]):cmdW (v :: r)=(entS (v :: r)).map .do_:=by
 rcases r with _|⟨x,_|⟨y,r⟩⟩
 .exact if_neg (fun e=>h (Option.some.inj e))
 .exact if_neg (fun e=>h (Option.some.inj e))
 .exact if_neg h
theorem zli(h b:Tx)(r:List Tx):cmdW ([97,116] :: h :: b :: r)=match figS h,entS (b :: r) with
  |some n,some e=>if e.v.clock=true then none else some (.at_ n e)
  |_,_=>none:=by
 unfold cmdW
 exact if_pos rfl
theorem zke{h b:Tx}{r:List Tx}{n:Int}{e:En}(hf:figS h=some n)(he:entS (b :: r)=some e):cmdW ([97,116] :: h :: b :: r)=if e.v.clock=true then none else some (.at_ n e):=by
 rw[zli,hf,he]
theorem zjc{O:Nat->Prop}{w V w':World}{f:Nat}{R:Nat->Rw}{d:Ru.Die}{r:Res}{en:Ending}(hb:Below w.heap.size w V)(h:RetF O V f R d r en w'):RetF O w f R d r en w':=by
 cases r with
|ok x=>obtain⟨e,R',cs',ps',h1,h2⟩:=h;exact⟨e,R',cs',ps',h1,(Turn.of_below hb).trans h2⟩
|error c=>obtain⟨e,h1,h2⟩:=h;exact⟨e,(Turn.of_below (f:=f) (R:=R) hb).k.trans h1 (fun _ _ x=>x),h2⟩
theorem zmO(O:Nat->Prop)(w:World)(f:Nat)(R:Nat->Rw)(cs:List Cu.Cut)(ps:List Pq)(d:Ru.Die)(s:St)(t:Tx)(bt bf:Nat)(hl:t.length<=400)(bi:w.cell? ⟨bt,0,none⟩=some (tx t))(aF:w.cell? ⟨bf,0,none⟩=some (.pointer (some ⟨f,0,none⟩)))(am:Env w)(aG:∀ b,O b->6<=b)(aH:FlAt O w f R cs ps d s)(aI:VOk d s)(aJ:zdj s)(aK:s.b.cost<=99999000000) :
  Calls Tryz.prog 63 #[.pointer (some ⟨bt,0,none⟩),.pointer (some ⟨bf,0,none⟩)] w (RetF O w f R d (lineR d s t)):=by
 obtain⟨an,aL⟩:=zi0 32 t
 have aM:=qG (zmh t w am (by omega))
 have aN:=qG (zqW w (Bo.zas 32 t))
 have aO:=qG (nxA w (.cells (((Bo.zas 32 t).map tx).toArray) 9))
 have aX:=qG aJ
 have aY:=qG aK
 have aP:=qG aI
 have ac:=qG aH
 have aQ:=qG am
 have aR:=qG aF
 have aS:=qG aG
 have aa:=qG (show lineR d s t=match cmdW (Bo.zas 32 t) with|none=>.error 8|some c=>cmdV d s c from rfl)
 have aT:=Bo.zcB 32 t
 have aU:=qG (show(Bo.zas 32 t).length<=1000 from by omega)
 have au:=qG (show ∀ x∈Bo.zas 32 t,x.length<=1000 from fun x hx=>by have:=aL x hx;omega)
 clear an aL
 clear aJ aK aI aH am aF aG
 generalize lineR d s t=rr at *
 generalize Bo.zas 32 t=ws at *
 cases ws with
|nil=>exact absurd rfl aT
|cons v r=>
  clear aT
  go_enter Tryz.func63,Tryz.ntmps63
  go_wp2_with fail
  refine aM.o.mono ?_
  rintro e V1 ⟨rfl,hV1⟩
  have ao:=qG (hV1.symm▸aN.o)
  have ab:=qG (hV1.symm▸aO.o)
  clear hV1 aN aO aM
  obtain⟨b1,an⟩:∃ b1,b1=w.heap.size:=⟨_,rfl⟩
  rw[<- an] at ao ⊢
  have ag:∀ k x,(v :: r)[k]?=some x->V1.cell? ⟨b1,k,none⟩=some (tx x):=fun k x hx=>by
   obtain⟨b',off',e,-,hc⟩:=ao.o k x hx
   injection e with e
   injection e with e1 e2 _
   subst e1 e2
   have:=hc 0 _ rfl
   rwa[Nat.zero_add,Nat.mul_one,Nat.add_zero] at this
  have aZ:=qG ag
  have c0:=ag 0 v rfl
  clear ag an
  by_cases hv:v=[97,116]
  .subst hv
   have hd:(!([97,116]:List UInt8)==[97,116])=false:=by decide
   rcases r with _|⟨x,_|⟨y,r⟩⟩
   .go_wp2_with fail
    refine(zak 8 V1).mono ?_
    rintro e w' ⟨rfl,rfl⟩
    rw[show rr=.error 8 from aa.o]
    exact⟨rfl,zau ac.o ab.o rfl⟩
   .go_wp2_with fail
    refine(zak 8 V1).mono ?_
    rintro e w' ⟨rfl,rfl⟩
    rw[show rr=.error 8 from aa.o]
    exact⟨rfl,zau ac.o ab.o rfl⟩
   .have aV:=qG aa.o
    rw[zli] at aa
    have c1:=aZ.o 1 x rfl
    have a7:decide ((2:Int)<(r.length:Int)+1+1+1)=true:=decide_eq_true (by omega)
    go_wp2_with fail
    refine(zat 8 V1).mono ?_
    rintro e w' ⟨rfl,rfl⟩
    go_wp2_with fail
    refine(zg5 x V1 (au.o x (by simp))).mono ?_
    rintro e V2 ⟨hb,he⟩
    have ae:=qG hb
    clear hb
    cases hf:figS x with
   |none=>
     rw[hf] at he
     have he:e=.panicked (zaF 8):=he
     subst he
     rw[show rr=.error 8 from by rw[aa.o,hf]]
     exact⟨rfl,zau ac.o (ab.o.trans (ae.o.mono ab.o.size)) rfl⟩
   |some n=>
     rw[hf] at he aa
     have he:e=.returned (.int .i64 n):=he
     subst he
     have a8:=qG (show 0<=n/\n<10000000000000 from zj0 hf)
     have aw:=(ao.o.tail.tail).keep (w':=V2) (fun b o hb=>ae.o.cell (p:=⟨b,o,none⟩) hb)
     have a9:=qG (show At V2 V2.heap.size 1 zfl (some ⟨b1,0+1+1,none⟩) (y :: r) from fun k z hz=>by
      obtain⟨b,off,e,hb,hc⟩:=aw k z hz
      exact⟨b,off,e,qM hb ae.o.size,hc⟩)
     have HF:=qG hf
     clear aw hf c0 c1 hd a7
     go_wp2_with fail
     refine(zfS b1 (0+1+1) (r.length+1) y r V2 (by have:=aU.o;simp only[List.length_cons] at *;omega) (fun z hz=>au.o z (List.mem_cons_of_mem _ (List.mem_cons_of_mem _ hz))) (qQ _) a9.o).mono ?_
     rintro e V3 ⟨hb,he⟩
     have aq:=qG hb
     clear hb
     have ax:=qG (show Below w.heap.size w V3 from ab.o.trans ((ae.o.trans (aq.o.mono ae.o.size)).mono ab.o.size))
     cases hent:entS (y :: r) with
    |none=>
      rw[hent] at he
      have he:e=.panicked (zaF 8):=he
      subst he
      rw[show rr=.error 8 from by rw[aa.o,hent]]
      exact⟨rfl,zau ac.o ax.o rfl⟩
    |some en=>
      rw[hent] at he aa
      obtain⟨A,c,he,ah,hc,ai⟩:=he
      have he:e=.returned (.agg #[.int .i64 en.n.length,.func (.func (vbF en.v)) #[] #[],.bool en.v.clock,.slice A en.n.length c]):=he
      subst he
      have ay:=qG ah
      have HC:=qG hc
      have az:=qG ai
      have HE:=qG hent
      have ar:=qG (ze8 hent)
      have aW:=qG (nxA V3 (.cells #[.int .i64 en.n.length,.func (.func (vbF en.v)) #[] #[],.bool en.v.clock,.slice A en.n.length c] 143))
      have aj:=qG (Bx.new V3 #[.int .i64 en.n.length,.func (.func (vbF en.v)) #[] #[],.bool en.v.clock,.slice A en.n.length c] 143)
      clear hent ah hc ai
      go_upto_region 8 with fail
      generalize hV4:V3.alloc (.cells #[.int .i64 en.n.length,.func (.func (vbF en.v)) #[] #[],.bool en.v.clock,.slice A en.n.length c] 143)=V4 at *
      obtain⟨b4,ak⟩:∃ b4,b4=V3.heap.size:=⟨_,rfl⟩
      rw[<- ak] at aj ⊢
      clear hV4 ak
      have HB:=qG (show Below w.heap.size w V4 from ax.o.trans (aW.o.mono ax.o.size))
      have x0:=aj.o.c 0 _ rfl
      have x1:=aj.o.c 1 _ rfl
      have x2:=aj.o.c 2 _ rfl
      have x3:=aj.o.c 3 _ rfl
      have y1:V4.cell? ⟨bf,0,none⟩=some (.pointer (some ⟨f,0,none⟩)):=n2 HB.o aR.o
      by_cases af:en.v.clock=true
      .have ba:(!en.v.clock)=false:=by rw[af];rfl
       go_wp2_with fail
       refine(zak 8 V4).mono ?_
       rintro e w' ⟨rfl,rfl⟩
       rw[show rr=.error 8 from by rw[aV.o,zke HF.o HE.o,if_pos af]]
       exact⟨rfl,zau ac.o HB.o rfl⟩
      .have af:en.v.clock=false:=by simpa using af
       have bj:=qG af
       have ba:(!en.v.clock)=true:=by rw[af];rfl
       have bh:=qG (show rr=cmdV d s (.at_ n en) from by rw[aV.o,zke HF.o HE.o,if_neg (by rw[af];decide)])
       have aA:=qG (show Pre O V4 f R cs ps d s A c en.n from⟨aQ.o.next HB.o,aS.o,ac.o.below HB.o,aP.o,(AtO.new (w:=V2) (O:=O) ay.o az.o (fun b hb=>qM (qM (ac.o.lt b hb) ab.o.size) ae.o.size)).keep (O':=O) (P:=fun _=>False) (.of_below aW.o) (fun _ _ q=>q.elim) (fun _ _ q=>q),HC.o,ar.o.2⟩)
       have aB:=zq6 O V4 f R cs ps d s A c n en aA.o a8.o
       rw[af] at aB
       have aC:=qG aB
       clear aB
       clear af
       go_wp2_with fail
       refine(zat 8 V4).mono ?_
       rintro e w' ⟨rfl,rfl⟩
       go_wp2_with fail
       refine aC.o.mono ?_
       intro en' w' hq
       have hq:RetF O w f R d rr en' w':=by rw[bh.o];exact zjc HB.o hq
       rcases zeR en' w' hq with ⟨u,rfl⟩|⟨ch,rfl⟩
       .have aD:=qG hq
        clear hq
        go_wp2_with fail
        go_ret
        exact aD.o
       .exact⟨rfl,hq⟩
  .have hd:(!v==[97,116])=true:=by simp[hv]
   rw[zqo hv] at aa
   clear hv
   go_wp2_with fail
   refine(zfS b1 0 (r.length+1) v r V1 aU.o au.o (qQ _) ao.o).mono ?_
   rintro e V2 ⟨hb,he⟩
   have ae:=qG hb
   clear hb
   cases hent:entS (v :: r) with
  |none=>
    rw[hent] at he aa
    have he:e=.panicked (zaF 8):=he
    subst he
    rw[aa.o]
    exact⟨rfl,zau ac.o (ab.o.trans (ae.o.mono ab.o.size)) rfl⟩
  |some en=>
    rw[hent] at he aa
    obtain⟨A,c,he,ah,hc,ai⟩:=he
    have he:e=.returned (.agg #[.int .i64 en.n.length,.func (.func (vbF en.v)) #[] #[],.bool en.v.clock,.slice A en.n.length c]):=he
    subst he
    have ay:=qG ah
    have HC:=qG hc
    have az:=qG ai
    have ar:=qG (ze8 hent)
    have aq:=qG (nxA V2 (.cells #[.int .i64 en.n.length,.func (.func (vbF en.v)) #[] #[],.bool en.v.clock,.slice A en.n.length c] 143))
    have aE:=qG (Bx.new V2 #[.int .i64 en.n.length,.func (.func (vbF en.v)) #[] #[],.bool en.v.clock,.slice A en.n.length c] 143)
    clear hent ah hc ai c0 hd
    go_upto_region 4 with fail
    generalize hV3:V2.alloc (.cells #[.int .i64 en.n.length,.func (.func (vbF en.v)) #[] #[],.bool en.v.clock,.slice A en.n.length c] 143)=V3 at *
    obtain⟨b4,ak⟩:∃ b4,b4=V2.heap.size:=⟨_,rfl⟩
    rw[<- ak] at aE ⊢
    clear hV3 ak
    have HB:=qG (show Below w.heap.size w V3 from ab.o.trans ((ae.o.trans (aq.o.mono ae.o.size)).mono ab.o.size))
    have x1:=aE.o.c 1 _ rfl
    have x3:=aE.o.c 3 _ rfl
    have y1:V3.cell? ⟨bf,0,none⟩=some (.pointer (some ⟨f,0,none⟩)):=n2 HB.o aR.o
    have bk:=zkK en.v (.pointer (some ⟨f,0,none⟩)) (.slice A en.n.length c)
    have aA:=qG (show Pre O V3 f R cs ps d s A c en.n from⟨aQ.o.next HB.o,aS.o,ac.o.below HB.o,aP.o,(AtO.new (w:=V1) (O:=O) ay.o az.o (fun b hb=>qM (ac.o.lt b hb) ab.o.size)).keep (O':=O) (P:=fun _=>False) (.of_below aq.o) (fun _ _ q=>q.elim) (fun _ _ q=>q),HC.o,ar.o.2⟩)
    have aC:=qG (zl7 aA.o ar.o.1 aX.o aY.o)
    go_wp2_with fail
    refine aC.o.mono ?_
    intro en' w' hq
    have hq:RetF O w f R d rr en' w':=by rw[aa.o];exact zjc HB.o hq
    rcases zeR en' w' hq with ⟨u,rfl⟩|⟨ch,rfl⟩
    .have aD:=qG hq
     clear hq
     go_wp2_with fail
     go_ret
     exact aD.o
    .exact⟨rfl,hq⟩
theorem zmN(d:Ru.Die)(s:St)(t:Tx):lineS d s t=if 400<t.length then(s,[],3) else resT s (lineR d s t):=by
 have h:zbZ d s t=if 400<t.length then .error 3 else lineR d s t:=rfl
 have h2:lineS d s t=resT s (zbZ d s t):=by unfold lineS;cases zbZ d s t <;> rfl
 rw[h2,h]
 split <;> rfl
theorem zob(O:Nat->Prop)(w:World)(f:Nat)(R:Nat->Rw)(cs:List Cu.Cut)(ps:List Pq)(d:Ru.Die)(s:St)(t:Tx)(ab:Env w)(ag:∀ b,O b->6<=b)(aa:FlAt O w f R cs ps d s)(ah:VOk d s)(ai:zdj s)(aj:s.b.cost<=99999000000) :
  Calls Tryz.prog 19 #[.pointer (some ⟨f,0,none⟩),tx t] w (RetT O w f R d (lineS d s t)):=by
 have an:=qG ai
 have ao:=qG aj
 have ak:=qG ah
 have aq:=qG aa
 have am:=qG ab
 have ar:=qG ag
 have n1:=nxA w (.cells #[.pointer (some ⟨f,0,none⟩)] 31)
 have y1:=Bx.new w #[.pointer (some ⟨f,0,none⟩)] 31
 have s1:(w.alloc (.cells #[.pointer (some ⟨f,0,none⟩)] 31)).heap.size=w.heap.size+1:=by simp
 have au:∀(fn:Fn) (first cap:Array Value) (w:World),(Instr.makeFunc fn first cap).run Tryz.prog w=.ok (.func fn first cap) w:=fun _ _ _ _=>rfl
 clear ai aj ah aa ab ag
 go_enter Tryz.func19,Tryz.ntmps19
 go_upto_region 1 with fail
 generalize w.alloc (.cells #[.pointer (some ⟨f,0,none⟩)] 31)=V1 at *
 have n2:=nxA V1 (.cells #[tx t] 9)
 have y2:=Bx.new V1 #[tx t] 9
 generalize V1.alloc (.cells #[tx t] 9)=V2 at *
 rw[s1] at y2
 have x1:=y1.next n2
 have HB:=qG (n1.trans (n2.mono n1.size))
 obtain⟨b2,ac⟩:∃ b2,b2=w.heap.size:=⟨_,rfl⟩
 obtain⟨b3,ae⟩:∃ b3,b3=w.heap.size+1:=⟨_,rfl⟩
 rw[<- ac] at x1
 rw[<- ae] at y2
 rw[<- ae,<- ac]
 have X1:=qG x1
 have X2:=qG y2
 have f2:=x1.c 0 _ rfl
 have f3:=y2.c 0 _ rfl
 have af:=qG (aq.o.below HB.o)
 have f17:=af.o.box.c 17 _ rfl
 clear n1 n2 y1 y2 s1 ac ae x1
 go_upto_region 3 with (go_quiet (fail))
 by_cases hl:400<t.length
 .have hd:decide ((400:Int)<(t.length:Int))=true:=decide_eq_true (by omega)
  have HL:=qG hl
  clear hl
  go_wp2_with fail
  go_ret2
  rw[zmN,if_pos HL.o]
  exact⟨rfl,R,cs,ps,af.o.or,Turn.of_below HB.o⟩
 .have hd:decide ((400:Int)<(t.length:Int))=false:=decide_eq_false (by omega)
  have HL:=qG hl
  clear hl f17
  have HT:=qG (zkL O V2 f R cs ps d s af.o ak.o 63 #[.pointer (some ⟨b3,0,none⟩),.pointer (some ⟨b2,0,none⟩)] (lineR d s t) (fun W=>by kernel_rfl) (fun O' w1 aa hO hb=>
   zmO O' w1 f R cs ps d s t b3 b2 (by have:=HL.o;omega) ((hb.cell (p:=⟨b3,0,none⟩) X2.o.lt).trans (X2.o.c 0 _ rfl)) ((hb.cell (p:=⟨b2,0,none⟩) X1.o.lt).trans (X1.o.c 0 _ rfl)) ((am.o.next HB.o).next hb) (fun b ho=>(hO b ho).elim (fun x=>ar.o b x) (fun x=>by have:=(am.o.next HB.o).sz;omega)) aa ak.o an.o ao.o))
  go_wp2_with fail
  refine HT.o.mono ?_
  rintro en w' ⟨rfl,R',cs',ps',h1,h2⟩
  have H1:=qG h1
  have H2:=qG h2
  clear h1 h2 f2 f3
  go_wp2_with fail
  go_ret2
  rw[zmN,if_neg HL.o]
  exact⟨rfl,R',cs',ps',H1.o,(Turn.of_below HB.o).trans H2.o⟩
theorem SOk.v{d:Ru.Die}{s:St}{N:Nat}(hd:Ru.dieS d=true)(h:SOk d s N)(hN:N<=400000):VOk d s:=⟨hd,h.b,h.n8,⟨h.pn.1,by have:=h.pn;omega⟩,by have:=h.cs;omega⟩
theorem SOk.p{d:Ru.Die}{s:St}{N:Nat}(h:SOk d s N):zdj s:=fun p hp=>by
 have:=h.pe p hp
 exact⟨by omega,this.2⟩
theorem zp5(O:Nat->Prop)(w:World)(f:Nat)(R:Nat->Rw)(cs:List Cu.Cut)(ps:List Pq)(d:Ru.Die)(s:St)(t:Tx)(N:Nat)(hN:N<=400000)(aa:Env w)(ab:∀ b,O b->6<=b)(ac:FlAt O w f R cs ps d s)(hd:Ru.dieS d=true)(h:SOk d s N) :
  Calls Tryz.prog 19 #[.pointer (some ⟨f,0,none⟩),tx t] w (RetT O w f R d (lineS d s t)):=
 zob O w f R cs ps d s t aa ab ac (h.v hd hN) h.p (by have:=h.cs;omega)
theorem zop(fn:Value)(w:World):Calls Tryz.prog 266 #[.slice none 0 0,fn] w (fun e w'=>e=.returned (.int .i64 (-1))/\w'=w):=by
 go_enter Tryz.func266,Tryz.ntmps266
 go_wp2
 go_loopw [8] (fun i wr=>i=.int .i64 0/\wr=w) (fun i _=>0)
 case atStart=>exact⟨rfl,rfl⟩
 case round=>
  obtain⟨rfl,rfl⟩:=hrel
  go_wp2
  go_ret
  exact⟨rfl,rfl⟩
theorem zot(fn:Value)(w:World):Calls Tryz.prog 224 #[.slice none 0 0,fn] w (fun e w'=>e=.returned (.bool false)/\w'=w):=by
 go_enter Tryz.func224,Tryz.ntmps224
 go_wp2_with fail
 refine(zop fn w).mono ?_
 rintro e w' ⟨rfl,rfl⟩
 go_wp2
 go_ret
 exact⟨rfl,rfl⟩
theorem zks(w:World):Calls Tryz.prog 166 #[.slice none 0 0] w (fun e w'=>e=.returned (.bool true)/\w'=w):=by
 go_enter Tryz.func166,Tryz.ntmps166
 go_wp2_with fail
 refine(zot _ w).mono ?_
 rintro e w' ⟨rfl,rfl⟩
 go_wp2
 go_ret
 exact⟨rfl,rfl⟩
theorem zdp{fn:Func}{p q:Tmp}{ty:TypeId}(h:fn.results=#[.cell p ty,.tmp q]){tmps:Array Value}{P:Program}{w:World}{a:Addr}{v u:Value}(hp:tmps.getD p undef=.pointer (some a))(hq:tmps.getD q undef=u)(hv:(loadVar ty a).run P w=.ok v w) :
  (results fn tmps).run P w=.ok (.tuple #[v,u]) w:=by
 have aa:(tmps[p]?).getD undef=.pointer (some a):=by rw[<- hp];simp
 have ab:(tmps[q]?).getD undef=u:=by rw[<- hq];simp
 simp[results,h,aa,ab,asAddr,hv]
theorem zgR{w:World}{b:Nat}{a0 a1 a2 a3 a4:Value}(h:Bx w b [a0,a1,a2,a3,a4]):(loadVar 197 ⟨b,0,none⟩).run Tryz.prog w=.ok (.agg #[a0,a1,a2,a3,a4]) w:=by
 have c0:=h.c 0 _ rfl
 have c1:=h.c 1 _ rfl
 have c2:=h.c 2 _ rfl
 have c3:=h.c 3 _ rfl
 have c4:=h.c 4 _ rfl
 clear h
 go_simp
theorem zlB(d:Ru.Die)(w:World)(hd:Ru.DieAt w w.heap.size d):Calls Tryz.prog 106 #[.agg #[.slice d.A d.blades.length d.c,.int .i64 d.bound,.int .i64 d.stop,.int .i64 d.bend],.slice none 0 0] w (fun e w'=>Below w.heap.size w w'/\if Ru.dieS d=true then e=.returned (.tuple #[.agg #[.slice d.A d.blades.length d.c,.int .i64 d.bound,.int .i64 d.stop,.int .i64 d.bend,.slice none 0 0],.int .i64 0]) else e=.returned (.tuple #[.agg #[.slice none 0 0,.int .i64 0,.int .i64 0,.int .i64 0,.slice none 0 0],.int .i64 1])):=by
 have HD:=qG hd
 have n1:=nxA w (.cells #[.slice d.A d.blades.length d.c,.int .i64 d.bound,.int .i64 d.stop,.int .i64 d.bend] 24)
 have y1:=Bx.new w #[.slice d.A d.blades.length d.c,.int .i64 d.bound,.int .i64 d.stop,.int .i64 d.bend] 24
 have s1:(w.alloc (.cells #[.slice d.A d.blades.length d.c,.int .i64 d.bound,.int .i64 d.stop,.int .i64 d.bend] 24)).heap.size=w.heap.size+1:=by simp
 clear hd
 go_enter Tryz.func106,Tryz.ntmps106
 go_upto_region 1 with fail
 generalize w.alloc (.cells #[.slice d.A d.blades.length d.c,.int .i64 d.bound,.int .i64 d.stop,.int .i64 d.bend] 24)=V1 at *
 have n2:=nxA V1 (.cells #[.slice none 0 0,.int .i64 0,.int .i64 0,.int .i64 0,.slice none 0 0] 197)
 have y2:=Bx.new V1 #[.slice none 0 0,.int .i64 0,.int .i64 0,.int .i64 0,.slice none 0 0] 197
 generalize V1.alloc (.cells #[.slice none 0 0,.int .i64 0,.int .i64 0,.int .i64 0,.slice none 0 0] 197)=V2 at *
 rw[s1] at y2
 have x1:=y1.next n2
 have HB:=qG (n1.trans (n2.mono n1.size))
 have ac:=qG (HD.o.next HB.o)
 have X1:=qG x1
 have X2:=qG y2
 have c0:=x1.c 0 _ rfl
 have c1:=x1.c 1 _ rfl
 have c2:=x1.c 2 _ rfl
 have c3:=x1.c 3 _ rfl
 clear n1 n2 y1 y2 x1
 go_wp2_with fail
 refine(Ru.zic d V2 ac.o).mono ?_
 rintro e V3 ⟨rfl,hb⟩
 have ae:=qG (HB.o.trans (hb.mono HB.o.size))
 obtain⟨b1,af⟩:∃ b1,b1=w.heap.size:=⟨_,rfl⟩
 have HL:=qG (show w.heap.size<=b1 from by omega)
 rw[<- af] at X1 X2 ⊢
 replace X1:=qG (X1.o.next hb)
 replace X2:=qG (X2.o.next hb)
 clear c0 c1 c2 c3 hb s1 af HB ac HD
 have c0:=X1.o.c 0 _ rfl
 have c1:=X1.o.c 1 _ rfl
 have c2:=X1.o.c 2 _ rfl
 have c3:=X1.o.c 3 _ rfl
 have y0:=X2.o.c 0 _ rfl
 have y1:=X2.o.c 1 _ rfl
 have y2:=X2.o.c 2 _ rfl
 have y3:=X2.o.c 3 _ rfl
 have y4:=X2.o.c 4 _ rfl
 have z0:=X2.o.fr 0
 have z1:=X2.o.fr 1
 have z2:=X2.o.fr 2
 have z3:=X2.o.fr 3
 have z4:=X2.o.fr 4
 have l2:=X2.o.lt
 cases hdd:Ru.dieS d with
|true=>
  go_wp2_with fail
  refine(zks V3).mono ?_
  rintro e w' ⟨rfl,rfl⟩
  go_wp2_with fail
  have aa:=qG (((((X2.o.set (k:=0) (by simp) (Value.slice d.A d.blades.length d.c)).set (k:=1) (by simp) (.int .i64 d.bound)).set (k:=2) (by simp) (.int .i64 d.stop)).set (k:=3) (by simp) (.int .i64 d.bend)).set (k:=4) (by simp) (.slice none 0 0))
  have ab:=qG (show Below _ w _ from by
   have hl:=HL.o
   exact(((((ae.o.setCell (p:=⟨b1+1,0,none⟩) (Nat.le_succ_of_le HL.o) (Value.slice d.A d.blades.length d.c)).setCell (p:=⟨b1+1,1,none⟩) (Nat.le_succ_of_le HL.o) (.int .i64 d.bound)).setCell (p:=⟨b1+1,2,none⟩) (Nat.le_succ_of_le HL.o) (.int .i64 d.stop)).setCell (p:=⟨b1+1,3,none⟩) (Nat.le_succ_of_le HL.o) (.int .i64 d.bend)).setCell (p:=⟨b1+1,4,none⟩) (Nat.le_succ_of_le HL.o) (.slice none 0 0)))
  refine bodyPost_ret (zdp rfl rfl rfl (zgR aa.o)) rfl ?_
  exact⟨ab.o,rfl⟩
|false=>
  go_wp2_with fail
  all_goals
   have aa:=qG (((((X2.o.set (k:=0) (by simp) (.slice none 0 0)).set (k:=1) (by simp) (.int .i64 0)).set (k:=2) (by simp) (.int .i64 0)).set (k:=3) (by simp) (.int .i64 0)).set (k:=4) (by simp) (.slice none 0 0))
   have ab:=qG (show Below _ w _ from by
    have hl:=HL.o
    exact(((((ae.o.setCell (p:=⟨b1+1,0,none⟩) (Nat.le_succ_of_le HL.o) (.slice none 0 0)).setCell (p:=⟨b1+1,1,none⟩) (Nat.le_succ_of_le HL.o) (.int .i64 0)).setCell (p:=⟨b1+1,2,none⟩) (Nat.le_succ_of_le HL.o) (.int .i64 0)).setCell (p:=⟨b1+1,3,none⟩) (Nat.le_succ_of_le HL.o) (.int .i64 0)).setCell (p:=⟨b1+1,4,none⟩) (Nat.le_succ_of_le HL.o) (.slice none 0 0)))
   refine bodyPost_ret (zdp rfl rfl rfl (zgR aa.o)) rfl ?_
   exact⟨ab.o,rfl⟩
theorem zmJ{w:World}{b:Nat}{a0 a1 a2:Value}(h:Bx w b [a0,a1,a2]):(loadVar 207 ⟨b,0,none⟩).run Tryz.prog w=.ok (.agg #[a0,a1,a2]) w:=by
 have c0:=h.c 0 _ rfl
 have c1:=h.c 1 _ rfl
 have c2:=h.c 2 _ rfl
 clear h
 go_simp
theorem zpZ(W:World)(bl:Nat)(x y z:Value)(hb:W.cell? ⟨bl,0,none⟩=some (.slice none 0 0)):Calls Tryz.prog 107 #[.agg #[.int .i64 0,.int .i64 0,.int .i64 0,.int .i64 0,.int .i64 0,.int .i64 0],.pointer (some ⟨bl,0,none⟩),x,y,z] W (fun e w'=>Below W.heap.size W w'/\e=.returned (.agg #[.slice none 0 0,.int .i64 0,.bool true])):=by
 have HB:=qG hb
 clear hb
 have n1:=nxA W (.cells #[.int .i64 0,.int .i64 0,.int .i64 0,.int .i64 0,.int .i64 0,.int .i64 0] 205)
 have y1:=Bx.new W #[.int .i64 0,.int .i64 0,.int .i64 0,.int .i64 0,.int .i64 0,.int .i64 0] 205
 have s1:(W.alloc (.cells #[.int .i64 0,.int .i64 0,.int .i64 0,.int .i64 0,.int .i64 0,.int .i64 0] 205)).heap.size=W.heap.size+1:=by simp
 go_enter Tryz.func107,Tryz.ntmps107
 go_wp2_with fail
 refine wp_scope_straight ?_
 generalize W.alloc (.cells #[.int .i64 0,.int .i64 0,.int .i64 0,.int .i64 0,.int .i64 0,.int .i64 0] 205)=V1 at *
 have n2:=nxA V1 (.cells #[.slice none 0 0,.int .i64 0,.bool false] 207)
 have y2:=Bx.new V1 #[.slice none 0 0,.int .i64 0,.bool false] 207
 generalize V1.alloc (.cells #[.slice none 0 0,.int .i64 0,.bool false] 207)=V2 at *
 rw[s1] at y2
 have x1:=y1.next n2
 have aa:=qG (n1.trans (n2.mono n1.size))
 have c0:=x1.c 0 _ rfl
 have l0:=(aa.o.cell (p:=⟨bl,0,none⟩) (zaa HB.o)).trans HB.o
 have u0:=y2.c 0 _ rfl
 have u1:=y2.c 1 _ rfl
 have u2:=y2.c 2 _ rfl
 have z0:=y2.fr 0
 have z1:=y2.fr 1
 have z2:=y2.fr 2
 have k2:=y2.lt
 have X2:=qG y2
 clear n1 n2 y1 y2 x1
 go_wp2_with fail
 have ab:=qG (((X2.o.set (k:=0) (by simp) (.slice none 0 0)).set (k:=1) (by simp) (.int .i64 0)).set (k:=2) (by simp) (.bool true))
 refine bodyPost_ret (zaH rfl rfl (zmJ ab.o)) rfl ?_
 exact⟨((aa.o.setCell (p:=⟨W.heap.size+1,0,none⟩) (Nat.le_succ _) _).setCell (p:=⟨W.heap.size+1,1,none⟩) (Nat.le_succ _) _).setCell (p:=⟨W.heap.size+1,2,none⟩) (Nat.le_succ _) _,rfl⟩
def RetPlan0(d:Ru.Die)(w:World)(e:Ending)(w':World):Prop:=Below w.heap.size w w'/\e=.returned (.tuple #[.slice none 0 0,.int .i64 0,.int .i64 (if Ru.dieS d=true then 0 else 1)])
theorem zms(d:Ru.Die)(w:World)(hd:Ru.DieAt w w.heap.size d):Calls Tryz.prog 41 #[.agg #[.slice d.A d.blades.length d.c,.int .i64 d.bound,.int .i64 d.stop,.int .i64 d.bend],.slice none 0 0] w (RetPlan0 d w):=by
 have HD:=qG hd
 have HF:=qG (show ∀ e w',RetPlan0 d w e w'=(Below w.heap.size w w'/\e=.returned (.tuple #[.slice none 0 0,.int .i64 0,.int .i64 (if Ru.dieS d=true then 0 else 1)])) from fun _ _=>rfl)
 have n1:=nxA w (.cells #[.slice d.A d.blades.length d.c,.int .i64 d.bound,.int .i64 d.stop,.int .i64 d.bend] 24)
 have y1:=Bx.new w #[.slice d.A d.blades.length d.c,.int .i64 d.bound,.int .i64 d.stop,.int .i64 d.bend] 24
 have s1:(w.alloc (.cells #[.slice d.A d.blades.length d.c,.int .i64 d.bound,.int .i64 d.stop,.int .i64 d.bend] 24)).heap.size=w.heap.size+1:=by simp
 clear hd
 generalize RetPlan0 d w=RR at *
 go_enter Tryz.func41,Tryz.ntmps41
 go_upto_region 1 with fail
 generalize w.alloc (.cells #[.slice d.A d.blades.length d.c,.int .i64 d.bound,.int .i64 d.stop,.int .i64 d.bend] 24)=V1 at *
 have n2:=nxA V1 (.cells #[.slice none 0 0] 96)
 have y2:=Bx.new V1 #[.slice none 0 0] 96
 generalize V1.alloc (.cells #[.slice none 0 0] 96)=V2 at *
 rw[s1] at y2
 have HB:=qG (n1.trans (n2.mono n1.size))
 have ai:=qG (HD.o.next HB.o)
 have x1:=y1.next n2
 obtain⟨b1,ac⟩:∃ b1,b1=w.heap.size:=⟨_,rfl⟩
 obtain⟨b2,ae⟩:∃ b2,b2=w.heap.size+1:=⟨_,rfl⟩
 rw[<- ac] at x1
 rw[<- ae] at y2
 rw[<- ae,<- ac]
 have X1:=qG x1
 have X2:=qG y2
 have c0:=x1.c 0 _ rfl
 have c1:=x1.c 1 _ rfl
 have c2:=x1.c 2 _ rfl
 have c3:=x1.c 3 _ rfl
 have d0:=y2.c 0 _ rfl
 clear n1 n2 y1 y2 x1 s1 ac ae HD
 go_wp2_with fail
 refine(zlB d V2 ai.o).mono ?_
 rintro e V3 ⟨hb,he⟩
 have aa:=qG (HB.o.trans (hb.mono HB.o.size))
 have HE:=qG he
 replace X2:=qG (X2.o.next hb)
 clear hb he HB c0 c1 c2 c3 d0 ai X1
 cases hdd:Ru.dieS d with
|true=>
  rw[hdd,if_pos rfl] at HE
  have he:=HE.o
  subst he
  have ak:=qG hdd
  clear hdd HE
  have am:∀ W:World,(Instr.makeMap 200 none).run Tryz.prog W=.ok (.map (some W.heap.size)) (W.alloc (.map #[] 0)):=fun W=>by kernel_rfl
  have n3:=nxA V3 (.cells #[.slice d.A d.blades.length d.c,.int .i64 d.bound,.int .i64 d.stop,.int .i64 d.bend,.slice none 0 0] 197)
  go_upto_region 2 with fail
  generalize V3.alloc (.cells #[.slice d.A d.blades.length d.c,.int .i64 d.bound,.int .i64 d.stop,.int .i64 d.bend,.slice none 0 0] 197)=V4 at *
  obtain⟨b3,aj⟩:∃ b3,b3=V3.heap.size:=⟨_,rfl⟩
  rw[<- aj]
  replace X2:=qG (X2.o.next n3)
  have af:=qG (aa.o.trans (n3.mono aa.o.size))
  clear n3 aj aa
  have n4:=nxA V4 (.map #[] 0)
  have s4:(V4.alloc (.map #[] 0)).heap.size=V4.heap.size+1:=by simp
  go_upto_region 5 with fail
  generalize V4.alloc (.map #[] 0)=V5 at *
  have an:∀(fn:Fn) (first cap:Array Value) (w:World),(Instr.makeFunc fn first cap).run Tryz.prog w=.ok (.func fn first cap) w:=fun _ _ _ _=>rfl
  have n5:=nxA V5 (.cells #[.map (some V4.heap.size)] 200)
  have ag:=qG (af.o.trans ((n4.trans (n5.mono n4.size)).mono af.o.size))
  replace X2:=qG ((X2.o.next n4).next n5)
  rw[<- s4]
  generalize V5.alloc (.cells #[.map (some V4.heap.size)] 200)=V6 at *
  generalize V5.heap.size=b4 at *
  clear n4 n5 s4 af am
  go_upto_region 7 with fail
  generalize ah:(#[.pointer (some ⟨b2,0,none⟩),.pointer (some ⟨b4,0,none⟩),.pointer (some ⟨b3,0,none⟩),.pointer (some ⟨V6.heap.size,0,none⟩)]:Array Value)=caps at *
  have n6:=nxA V6 (.cells #[.func (.func 107) #[] caps] 201)
  have y6:=Bx.new V6 #[.func (.func 107) #[] caps] 201
  have ab:=qG (ag.o.trans (n6.mono ag.o.size))
  replace X2:=qG (X2.o.next n6)
  generalize V6.alloc (.cells #[.func (.func 107) #[] caps] 201)=V7 at *
  generalize V6.heap.size=b6 at *
  have c0:=y6.c 0 _ rfl
  have ao:=qG (ah:(_:Array Value)=caps)
  clear n6 ag y6 ah an
  go_wp2_with fail
  rw[<- ao.o]
  refine(zpZ V7 b2 _ _ _ (X2.o.c 0 _ rfl)).mono ?_
  rintro e V8 ⟨hb,rfl⟩
  replace X2:=qG (X2.o.next hb)
  replace ab:=qG (ab.o.trans (hb.mono ab.o.size))
  clear hb c0
  have n8:=nxA V8 (.cells #[.slice none 0 0,.int .i64 0,.bool true] 207)
  have y8:=Bx.new V8 #[.slice none 0 0,.int .i64 0,.bool true] 207
  have HR:=qG (show ∀ w',Below w.heap.size w w'->RR (.returned (.tuple #[.slice none 0 0,.int .i64 0,.int .i64 0])) w' from fun w' h=>by rw[HF.o];exact⟨h,by rw[ak.o];rfl⟩)
  go_upto_region 8 with fail
  generalize V8.alloc (.cells #[.slice none 0 0,.int .i64 0,.bool true] 207)=V9 at *
  have aq:=qG (ab.o.trans (n8.mono ab.o.size))
  replace X2:=qG (X2.o.next n8)
  generalize V8.heap.size=b8 at *
  have c0:=y8.c 0 _ rfl
  have c1:=y8.c 1 _ rfl
  have c2:=y8.c 2 _ rfl
  have d0:=X2.o.c 0 _ rfl
  clear n8 y8
  go_wp2_with fail
  exact HR.o _ aq.o
|false=>
  rw[hdd,if_neg (by decide)] at HE
  have he:=HE.o
  subst he
  have HR:=qG (show ∀ w',Below w.heap.size w w'->RR (.returned (.tuple #[.slice none 0 0,.int .i64 0,.int .i64 1])) w' from fun w' h=>by rw[HF.o];exact⟨h,by rw[hdd];rfl⟩)
  have n3:=nxA V3 (.cells #[.slice none 0 0,.int .i64 0,.int .i64 0,.int .i64 0,.slice none 0 0] 197)
  clear hdd HE
  go_wp2_with fail
  exact HR.o _ (aa.o.trans (n3.mono aa.o.size))
structure Bv where
 A0:Option Addr
 c0:Nat
 A1:Option Addr
 c1:Nat
 A2:Option Addr
 c2:Nat
 A3:Option Addr
 c3:Nat
 A4:Option Addr
 c4:Nat
 A5:Option Addr
 c5:Nat
 cs:List Cu.Cut
structure BkAt(O:Nat->Prop)(w:World)(m:Bv)(b:Bk):Prop where
 ec:m.cs.map Ct.of=b.cuts
 cu:AtO O w 3 Cu.cutL m.A0 m.cs
 pc:∀ c∈m.cs,AtO O w 1 zad c.A c.piece
 pl:∀ c∈m.cs,c.piece.length<=c.c
 rn:AtO O w 1 zad m.A1 b.ran
 md:AtO O w 2 btL m.A2 b.made
 ln:AtO O w 3 Le.Loan.cells m.A3 b.t.loans
 lk:AtO O w 3 Le.Look.cells m.A4 b.t.looks
 ad:AtO O w 1 zad m.A5 b.t.admits
 l0:b.cuts.length<=m.c0
 l1:b.ran.length<=m.c1
 l2:b.made.length<=m.c2
 l3:b.t.loans.length<=m.c3
 l4:b.t.looks.length<=m.c4
 l5:b.t.admits.length<=m.c5
theorem BkAt.keep{O O' P:Nat->Prop}{w w':World}{m:Bv}{b:Bk}(h:BkAt O w m b)(k:Keep P w w')(hP:∀ b,b<w.heap.size->P b->O b)(hO:∀ b,b<w.heap.size->O' b->O b):BkAt O' w' m b:=
 ⟨h.ec,h.cu.keep k hP hO,fun c hc=>(h.pc c hc).keep k hP hO,h.pl,h.rn.keep k hP hO,h.md.keep k hP hO,h.ln.keep k hP hO,h.lk.keep k hP hO,h.ad.keep k hP hO,h.l0,h.l1,h.l2,h.l3,h.l4,h.l5⟩
theorem BkAt.next{O:Nat->Prop}{w w':World}{m:Bv}{b:Bk}(h:BkAt O w m b)(hb:Below w.heap.size w w'):BkAt O w' m b:=
 h.keep (P:=fun _=>False) (.of_below hb) (fun _ _ x=>x.elim) (fun _ _ x=>x)
theorem zcC{α:Type}{cells:α->List Value}{O:Nat->Prop}{w:World}{r:Rw}{e:TypeId}{size:Nat}{l:List α}(h:r.ok w)(hr:r.e=e/\r.size=size/\r.n=l.length/\r.xs=l.flatMap cells)(hs:∀ x,(cells x).length=size)(h0:0<size)(hO:∀ g,blk r.v=some g->¬ O g):∃ A c,r.v=.slice A l.length c/\AtO O w size cells A l/\l.length<=c:=by
 obtain⟨A,c,e1,ha,hl⟩:=zbe h hr hs h0
 refine⟨A,c,e1,fun k x hx=>?_,hl⟩
 obtain⟨b,off,e2,hb,hc⟩:=ha k x hx
 refine⟨b,off,e2,hb,hO b ?_,hc⟩
 have hk:=(qO.1 hx).1
 rw[e1,e2]
 cases c with
|zero=>omega
|succ c=>rfl
theorem zrk{R':Nat->Rw}{cs':List Cu.Cut}{ps:List Pq}{s:St}{w':World}{F:Nat->Option Rw}{b3 B:Nat}(ro:RowsOk R' cs' ps s.b)(ec:cs'.map Ct.of=s.b.cuts)(hF:MadeF b3 w' F)(hB:B<=b3)(ac:∀ k,k<7->F k=some (R' k))(ae:∀ i x,cs'[i]?=some x->F (7+i)=some (ze2 x.A x.piece x.c)) :
  ∃ m:Bv,BkAt (fun x=>x<B) w' m s.b/\(bkL R' s).take 10=[.int .i64 s.b.hour,.slice m.A0 s.b.cuts.length m.c0,.slice m.A1 s.b.ran.length m.c1,.slice m.A2 s.b.made.length m.c2,.int .i64 s.b.t.n,.slice m.A3 s.b.t.loans.length m.c3,.slice m.A4 s.b.t.looks.length m.c4,.slice m.A5 s.b.t.admits.length m.c5,.int .i64 s.b.cost,.int .i64 s.plans.length]:=by
 have aa:∀ k,k<7->(R' k).ok w':=fun k hk=>(hF.ok k _ (ac k hk)).1
 have ab:∀ k,k<7->∀ g,blk (R' k).v=some g->¬ g<B:=fun k hk g e=>by have:=(hF.ok k _ (ac k hk)).2 g e;omega
 have el:cs'.length=s.b.cuts.length:=by rw[<- ec,List.length_map]
 obtain⟨A0,c0,e0,h0,l0⟩:=zcC (aa 0 (by omega)) ro.r0 zbC (by decide) (ab 0 (by omega))
 obtain⟨A1,c1,e1,h1,l1⟩:=zcC (aa 1 (by omega)) ro.r1 zbp (by decide) (ab 1 (by omega))
 obtain⟨A2,c2,e2,h2,l2⟩:=zcC (aa 2 (by omega)) ro.r2 zhh (by decide) (ab 2 (by omega))
 obtain⟨A3,c3,e3,h3,l3⟩:=zcC (aa 3 (by omega)) ro.r3 zbv (by decide) (ab 3 (by omega))
 obtain⟨A4,c4,e4,h4,l4⟩:=zcC (aa 4 (by omega)) ro.r4 zdt (by decide) (ab 4 (by omega))
 obtain⟨A5,c5,e5,h5,l5⟩:=zcC (aa 5 (by omega)) ro.r5 zbp (by decide) (ab 5 (by omega))
 have hx:∀ c∈cs',AtO (fun x=>x<B) w' 1 zad c.A c.piece/\c.piece.length<=c.c:=fun c hc=>by
  obtain⟨i,hi⟩:=List.getElem?_of_mem hc
  have hr:=(hF.ok _ _ (ae i c hi)).1
  obtain⟨A,cc,e,ha,hl⟩:=zcC (O:=fun x=>x<B) (cells:=zad) (size:=1) (l:=c.piece) hr ⟨rfl,rfl,rfl,rfl⟩ zbp (by decide) (fun g e=>by have:=(hF.ok _ _ (ae i c hi)).2 g e;omega)
  injection e with e1 e2 e3
  subst e1 e3
  exact⟨ha,hl⟩
 refine⟨⟨A0,c0,A1,c1,A2,c2,A3,c3,A4,c4,A5,c5,cs'⟩,⟨ec,h0,fun c hc=>(hx c hc).1,fun c hc=>(hx c hc).2,h1,h2,h3,h4,h5,(show s.b.cuts.length<=c0 by omega),l1,l2,l3,l4,l5⟩,?_⟩
 unfold bkL
 rw[e0,e1,e2,e3,e4,e5,el]
 rfl
def znx(s:St)(w:World)(e:Ending)(w':World):Prop:=∃ m:Bv,e=.returned (.agg #[.int .i64 s.b.hour,.slice m.A0 s.b.cuts.length m.c0,.slice m.A1 s.b.ran.length m.c1,.slice m.A2 s.b.made.length m.c2,.int .i64 s.b.t.n,.slice m.A3 s.b.t.loans.length m.c3,.slice m.A4 s.b.t.looks.length m.c4,.slice m.A5 s.b.t.admits.length m.c5,.int .i64 s.b.cost,.int .i64 s.plans.length])/\BkAt (fun x=>x<w.heap.size) w' m s.b/\Below w.heap.size w w'
theorem zjA{w:World}{b:Nat}{a0 a1 a2 a3 a4 a5 a6 a7 a8 a9:Value}(h:Bx w b [a0,a1,a2,a3,a4,a5,a6,a7,a8,a9]):(loadVar 42 ⟨b,0,none⟩).run Tryz.prog w=.ok (.agg #[a0,a1,a2,a3,a4,a5,a6,a7,a8,a9]) w:=by
 have c0:=h.c 0 _ rfl
 have c1:=h.c 1 _ rfl
 have c2:=h.c 2 _ rfl
 have c3:=h.c 3 _ rfl
 have c4:=h.c 4 _ rfl
 have c5:=h.c 5 _ rfl
 have c6:=h.c 6 _ rfl
 have c7:=h.c 7 _ rfl
 have c8:=h.c 8 _ rfl
 have c9:=h.c 9 _ rfl
 clear h
 go_simp
def bkZ:Array Value:=#[.int .i64 0,.slice none 0 0,.slice none 0 0,.slice none 0 0,.int .i64 0,.slice none 0 0,.slice none 0 0,.slice none 0 0,.int .i64 0,.int .i64 0]
theorem znm(w:World)(f:Nat)(R:Nat->Rw)(cs:List Cu.Cut)(ps:List Pq)(s:St)(ah:w.rangeAt f 0 (bkL R s))(hlt:f<w.heap.size)(hR:∀ k,k<7->(R k).ok w)(ro:RowsOk R cs ps s.b)(ec:cs.map Ct.of=s.b.cuts)(ca:∀ c∈cs,At w w.heap.size 1 zad c.A c.piece/\c.piece.length<=100000)
  (hl:cs.length<=1000/\s.b.ran.length<=1000/\s.b.made.length<=1000/\s.b.t.loans.length<=1000/\s.b.t.looks.length<=1000/\s.b.t.admits.length<=1000/\ps.length<=1000):Calls Tryz.prog 22 #[.pointer (some ⟨f,0,none⟩)] w (znx s w):=by
 have n1:=nxA w (.cells bkZ 42)
 have y1:=Bx.new w bkZ 42
 have aa:=qG (show(w.alloc (.cells bkZ 42)).rangeAt f 0 (bkL R s) from fun j v hv=>(n1.cell (p:=⟨f,0+j,none⟩) hlt).trans (ah j v hv))
 have ab:=qG (zg9 R cs ps s (w.alloc (.cells bkZ 42)) (fun k hk=>(hR k hk).keep (O:=fun _=>False) (.of_below n1) (fun _ _ x=>x)) ro ec (fun c hc=>⟨(ca c hc).1.next n1,(ca c hc).2⟩) hl)
 unfold bkZ at *
 clear ah hlt hR ro ec ca hl
 go_enter Tryz.func22,Tryz.ntmps22
 go_upto_region 1 with fail
 generalize w.alloc (.cells #[.int .i64 0,.slice none 0 0,.slice none 0 0,.slice none 0 0,.int .i64 0,.slice none 0 0,.slice none 0 0,.slice none 0 0,.int .i64 0,.int .i64 0] 42)=V at *
 obtain⟨b,hb⟩:∃ b,b=w.heap.size:=⟨_,rfl⟩
 rw[<- hb] at y1 ⊢
 have HX:=qG y1
 have HB:=qG n1
 have aq:=qG (show w.heap.size<=b by omega)
 clear hb n1 y1
 have ac:=qG (show(bkL R s).length=13 from rfl)
 obtain⟨LB,ai⟩:∃ LB,LB=bkL R s:=⟨_,rfl⟩
 rw[<- ai] at aa ac ab
 clear ai
 go_wp2_with (refine wpList_load_mid rfl 82 (.tmp 8) rfl f 0 rfl LB _ aa.o Tryz.underlying82 rfl (by rw[ac.o];kernel_rfl) ?_)
 refine ab.o.mono ?_
 rintro e V2 ⟨ae,R4,cs4,rfl,af,ag,F,b3,aj,hF,ak,am⟩
 obtain⟨m,hm,an⟩:=zrk (B:=V.heap.size) af ag hF aj ak am
 have HM:=qG hm
 have ar:∀ W:World,(Instr.field 82 (.agg (bkL R4 s).toArray) 0).run Tryz.prog W=.ok (.agg #[.int .i64 s.b.hour,.slice m.A0 s.b.cuts.length m.c0,.slice m.A1 s.b.ran.length m.c1,.slice m.A2 s.b.made.length m.c2,.int .i64 s.b.t.n,.slice m.A3 s.b.t.loans.length m.c3,.slice m.A4 s.b.t.looks.length m.c4,.slice m.A5 s.b.t.admits.length m.c5,.int .i64 s.b.cost,.int .i64 s.plans.length]) W:=fun W=>by
  have h:(Instr.field 82 (.agg (bkL R4 s).toArray) 0).run Tryz.prog W=.ok (.agg ((bkL R4 s).take 10).toArray) W:=by kernel_rfl
  rw[h,an]
 have ao:=qG HX.o.lt
 have au:=qG HB.o.size
 replace HX:=qG (HX.o.next ae)
 replace HB:=qG (HB.o.trans (ae.mono HB.o.size))
 generalize bkL R4 s=LB4 at *
 clear ae af ag aj hF ak am an hm ab ac aa
 have c0:=HX.o.c 0 _ rfl
 have c1:=HX.o.c 1 _ rfl
 have c2:=HX.o.c 2 _ rfl
 have c3:=HX.o.c 3 _ rfl
 have c4:=HX.o.c 4 _ rfl
 have c5:=HX.o.c 5 _ rfl
 have c6:=HX.o.c 6 _ rfl
 have c7:=HX.o.c 7 _ rfl
 have c8:=HX.o.c 8 _ rfl
 have c9:=HX.o.c 9 _ rfl
 have f0:=HX.o.fr 0
 have f1:=HX.o.fr 1
 have f2:=HX.o.fr 2
 have f3:=HX.o.fr 3
 have f4:=HX.o.fr 4
 have f5:=HX.o.fr 5
 have f6:=HX.o.fr 6
 have f7:=HX.o.fr 7
 have f8:=HX.o.fr 8
 have f9:=HX.o.fr 9
 have lb:=HX.o.lt
 go_wp2_with fail
 refine bodyPost_ret (zaH rfl rfl (zjA (HX.o.setAll [.int .i64 s.b.hour,.slice m.A0 s.b.cuts.length m.c0,.slice m.A1 s.b.ran.length m.c1,.slice m.A2 s.b.made.length m.c2,.int .i64 s.b.t.n,.slice m.A3 s.b.t.loans.length m.c3,.slice m.A4 s.b.t.looks.length m.c4,.slice m.A5 s.b.t.admits.length m.c5,.int .i64 s.b.cost,.int .i64 s.plans.length] rfl))) rfl ?_
 refine⟨m,rfl,?_,zac aq.o [.int .i64 s.b.hour,.slice m.A0 s.b.cuts.length m.c0,.slice m.A1 s.b.ran.length m.c1,.slice m.A2 s.b.made.length m.c2,.int .i64 s.b.t.n,.slice m.A3 s.b.t.loans.length m.c3,.slice m.A4 s.b.t.looks.length m.c4,.slice m.A5 s.b.t.admits.length m.c5,.int .i64 s.b.cost,.int .i64 s.plans.length] 0 HB.o⟩
 exact HM.o.keep (P:=fun x=>x=b) (.of_grown (zaM b [.int .i64 s.b.hour,.slice m.A0 s.b.cuts.length m.c0,.slice m.A1 s.b.ran.length m.c1,.slice m.A2 s.b.made.length m.c2,.int .i64 s.b.t.n,.slice m.A3 s.b.t.loans.length m.c3,.slice m.A4 s.b.t.looks.length m.c4,.slice m.A5 s.b.t.admits.length m.c5,.int .i64 s.b.cost,.int .i64 s.plans.length] 0 V2) (fun g e=>(Option.some.inj e).symm)) (fun x _ e=>by rw[e];exact ao.o) (fun x _ h=>qM h au.o)
theorem zs1(O:Nat->Prop)(w:World)(f:Nat)(R:Nat->Rw)(cs:List Cu.Cut)(ps:List Pq)(d:Ru.Die)(s:St)(aa:FlAt O w f R cs ps d s)(ab:VOk d s):Calls Tryz.prog 22 #[.pointer (some ⟨f,0,none⟩)] w (znx s w):=by
 refine znm w f R cs ps s (fun j v hv=>?_) aa.own.lt aa.own.row aa.h.ro aa.h.ec (fun c hc=>?_) ?_
 .have hj:=(qO.1 hv).1
  rw[Nat.zero_add]
  exact aa.box.c j v (by unfold flL;rw[List.getElem?_append_left hj];exact hv)
 .obtain⟨i,hi⟩:=List.getElem?_of_mem hc
  obtain⟨h5,-,h6⟩:=zka aa ab hi
  exact⟨h5.pa,by omega⟩
 .have b:=ab.b
  have t:=b.okT
  have h1:=b.nc
  have h2:=b.nr
  have h3:=ab.dd
  have h4:=b.nm
  have h5:=t.lo
  have h6:=t.lk
  have h7:=t.a2
  have h8:=ab.n8
  have h9:cs.length=s.b.cuts.length:=by rw[<- aa.h.ec,List.length_map]
  have ac:=aa.h.hp.len
  unfold Ru.dieS Ru.inS at h3
  simp only[Bool.and_eq_true,qC] at h3
  refine⟨?_,?_,?_,?_,?_,?_,?_⟩ <;> omega
theorem zb3(e:TypeId)(size:Nat)(w:World):Rw.ok ⟨e,size,.slice none 0 0,0,[]⟩ w:=⟨by simp,.inl ⟨none,rfl,rfl⟩⟩
theorem zmD(p:Nat)(hp:p<=6)(w:World):Calls Tryz.prog 182 #[.int .u64 1,.int .u64 p] w (RetQ (.tuple #[.int .u64 0,.int .u64 p]) w):=by
 rcases(by omega:p=0\/p=1\/p=2\/p=3\/p=4\/p=5\/p=6) with rfl|rfl|rfl|rfl|rfl|rfl|rfl
 all_goals
  go_enter Tryz.func182,Tryz.ntmps182
  go_wp2
  go_ret2
  exact⟨rfl,rfl⟩
theorem mul_one(p:Nat)(hp:p<=6)(w:World):Calls Tryz.prog 125 #[.int .u64 1,.int .u64 p] w (RetQ (.tuple #[.int .u64 0,.int .u64 p]) w):=by
 have HM:=qG (zmD p hp w)
 go_enter Tryz.func125,Tryz.ntmps125
 go_wp2_with fail
 refine HM.o.mono ?_
 rintro e w' ⟨rfl,rfl⟩
 go_wp2
 go_ret2
 exact⟨rfl,rfl⟩
def repL(p n:Nat):List Value:=List.replicate n (.int .i64 (-1))++List.replicate (p-n) (.int .i64 0)
theorem zf6{p n:Nat}(h:n<=p):(repL p n).length=p:=by unfold repL;simp;omega
theorem zpW{p n j:Nat}(_:n<=p)(hj:j<n):(repL p n)[j]?=some (.int .i64 (-1)):=by
 unfold repL
 rw[List.getElem?_append_left (by simpa using hj),List.getElem?_replicate,if_pos hj]
theorem znN{p n m:Nat}(h:n+m<=p):putL (repL p n) n (List.replicate m (.int .i64 (-1)))=repL p (n+m):=by
 apply List.ext_getElem?
 intro i
 rw[zdq _ _ _ _ (by rw[zf6 (by omega)];simpa using h)]
 unfold repL
 simp only[List.length_replicate]
 by_cases h1:i<n
 .rw[if_neg (by omega),List.getElem?_append_left (by simpa using h1),List.getElem?_append_left (by simp;omega),List.getElem?_replicate,List.getElem?_replicate,if_pos h1,if_pos (by omega)]
 .by_cases h2:i<n+m
  .rw[if_pos ⟨by omega,h2⟩,List.getElem?_append_left (by simpa using h2),List.getElem?_replicate,List.getElem?_replicate,if_pos (by omega),if_pos h2]
  .rw[if_neg (by omega),List.getElem?_append_right (by simp;omega),List.getElem?_append_right (by simp;omega)]
   simp only[List.length_replicate,List.getElem?_replicate]
   by_cases h3:i<p
   .rw[if_pos (by omega),if_pos (by omega)]
   .rw[if_neg (by omega),if_neg (by omega)]
abbrev repR(g p n:Nat):Rw:=⟨3,1,.slice (some ⟨g,0,none⟩) p p,p,repL p n⟩
theorem zeN{w:World}{g p n m q b n' c:Nat}(ty:TypeId)(hp:n<p)(hq:q=p-n)(hm:Nat.min n' q=m)(hr:Rw.ok (repR g p n) w)(hs:∀ j,j<m->w.cell? ⟨b,j,none⟩=some (.int .i64 (-1))) :
  ∃ w',(Builtin.copy_ #[35,35] ty #[.slice (some ⟨g,n,none⟩) q q,.slice (some ⟨b,0,none⟩) n' c]).run Tryz.prog w=.ok (.int .i64 m) w'/\Rw.ok (repR g p (n+m)) w'/\w.grownBy w' (some g):=by
 obtain⟨i,af,ag,hi,ah⟩:=zbd zd5
 have aa:blk (.slice (some ⟨g,0,none⟩) p p)=some g:=by
  cases p with
 |zero=>omega
 |succ p=>rfl
 have ab:n+m<=p:=by
  have:m<=q:=by rw[<- hm];exact Nat.min_le_right _ _
  omega
 have ac:∀ j,j<p->∃ u,w.cell? ⟨g,j,none⟩=some u/\w.frozen? ⟨g,j,none⟩=false:=fun j hj=>by
  have hu:=qN (l:=repL p n) (i:=j) (by rw[zf6 (by omega)];exact hj)
  obtain⟨g',e1,-,e3,e4⟩:=hr.cell hu
  have:g'=g:=Option.some.inj (e1.symm.trans aa)
  subst this
  exact⟨_,e3,e4⟩
 have ae:=run_loadCells_list (P:=Tryz.prog) w ⟨b,0,none⟩ (List.replicate m (.int .i64 (-1))) (fun j u hu=>by
  rw[List.getElem?_replicate] at hu
  split at hu
  .rename_i hj
   have hu:=Option.some.inj hu
   rw[show((⟨b,0,none⟩:Addr).add j)=⟨b,j,none⟩ by unfold Addr.add;split <;> simp_all,hs j hj,hu]
  .cases hu)
 have hst:=run_storeCells_cells (P:=Tryz.prog) g n (List.replicate m (.int .i64 (-1))) 0 w (fun j hj=>by
  obtain⟨u,h2,-⟩:=ac (n+0+j) (by simp at hj;omega)
  rw[h2];rfl) (fun j hj=>(ac (n+0+j) (by simp at hj;omega)).choose_spec.2) (fun u hu=>by rw[(List.mem_replicate.1 hu).2];rfl)
 rw[List.length_replicate] at ae
 refine⟨setCells w g n (List.replicate m (.int .i64 (-1))),?_,?_,zaM g _ n w⟩
 .simp[Builtin.copy_,run_underlying Tryz.underlying35,Builtin.lenOf,Builtin.firstCells,sizeOf,typeInfo,af,hi,hm,ae,hst,goInt,zbk]
 .have h2:=Rw.ok.setAll (List.replicate m (.int .i64 (-1))) hr (g:=g) aa (j:=n) (by show n+_<=(repL p n).length;rw[zf6 (by omega)];simpa using ab)
  rw[show putL (repR g p n).xs n (List.replicate m (.int .i64 (-1)))=repL p (n+m) from znN ab] at h2
  exact h2
theorem znM{w:World}{g p n j:Nat}(hr:Rw.ok (repR g p n) w)(hn:n<=p)(hj:j<n):w.cell? ⟨g,j,none⟩=some (.int .i64 (-1)):=by
 obtain⟨g',e1,-,e3,-⟩:=hr.cell (zpW hn hj)
 have aa:blk (.slice (some ⟨g,0,none⟩) p p)=some g:=by
  cases p with
 |zero=>omega
 |succ p=>rfl
 have:g'=g:=Option.some.inj (e1.symm.trans aa)
 subst this
 exact e3
theorem zh1(w:World){p:Nat}(h1:1<=p)(hp:p<=1000):Rw.ok (repR w.heap.size p 0) (w.alloc (.cells (zeros p) 3)):=by
 have h:=World.ownsRow_lit (base:=0) (e:=3) (size:=1) w (zeros p) p (Nat.zero_le _) (by unfold maxLen;omega) (by unfold zeros;simp[madeCells])
 have h2:=Rw.ok.of_own h
 have h3:(zeros p).toList=repL p 0:=by
  unfold zeros repL
  apply List.ext_getElem?
  intro i
  by_cases hi:i<p
  .simp[madeCells,Nat.mod_one,hi]
  .simp[madeCells,hi]
 rw[h3] at h2
 exact h2
def zq8(p:Nat)(w:World)(e:Ending)(w':World):Prop:=∃ g,e=.returned (.slice (some ⟨g,0,none⟩) p p)/\w.heap.size<=g/\Rw.ok (repR g p p) w'/\Below w.heap.size w w'
def RRep(p g:Nat)(w0:World)(i:Value)(w:World):Prop:=∃ n:Nat,1<=n/\n<=p/\i=.int .i64 n/\Rw.ok (repR g p n) w/\Below w0.heap.size w0 w
theorem zlw(b p:Nat)(w:World)(h1:1<=p)(hp:p<=6)(hc:w.cell? ⟨b,0,none⟩=some (.int .i64 (-1))):Calls Tryz.prog 60 #[.slice (some ⟨b,0,none⟩) 1 1,.int .i64 p] w (zq8 p w):=by
 obtain⟨i0,hi,ab,ac,ae⟩:=zbd zd5
 have aq:∀ W:World,(Instr.makeSlice 35 (.int .i64 (p:Int)) (.int .i64 (p:Int))).run Tryz.prog W=.ok (.slice (some ⟨W.heap.size,0,none⟩) p p) (W.alloc (.cells (zeros p) 3)):=fun W=>by
  have:=run_make (P:=Tryz.prog) W 35 3 i0 (.int .i64 0) Tryz.underlying35 hi ab .i64 .i64 p p (by omega) (by omega) (by rw[ae];omega) (by omega)
  simpa [zeros,Value.cells,ac] using this
 have HC:=qG hc
 have ar:IntKind.u64.wrap (p:Int)=p:=by rw[IntKind.wrap_u64];omega
 have au:IntKind.i64.wrap (p:Int)=p:=qF _ (by omega)
 have hl:decide ((p:Int)<0)=false:=decide_eq_false (by omega)
 have aw:decide ((9223372036854775807:Int)<(p:Int))=false:=decide_eq_false (by omega)
 clear hi ab ac ae hc
 go_enter Tryz.func60,Tryz.ntmps60
 go_wp2_with fail
 refine(mul_one p hp w).mono ?_
 rintro e w' ⟨rfl,rfl⟩
 go_upto_region 7 with fail
 have n1:=nxA w (.cells (zeros p) 3)
 have hz:=zh1 w h1 (by omega)
 generalize w.alloc (.cells (zeros p) 3)=V1 at *
 obtain⟨g,hg⟩:∃ g,g=w.heap.size:=⟨_,rfl⟩
 rw[<- hg] at hz ⊢
 have af:=qG (show w.heap.size<=g by omega)
 have ag:=(n1.cell (p:=⟨b,0,none⟩) (zaa HC.o)).trans HC.o
 obtain⟨V2,aa,ah,ai⟩:=zeN (b:=b) (n':=1) (c:=1) (q:=p) (m:=1) 3 (show 0<p by omega) (by omega) (by show min 1 p=1;omega) hz (fun j hj=>by
  obtain rfl:j=0:=by omega
  exact ag)
 have aj:=qG ah
 have ak:=qG (n1.grown ai n1.size (fun k e=>by injection e with e;omega))
 clear hz hg ag ah ai n1 aq ar au hl aw
 go_upto_region 8 with fail
 clear aa
 go_loopw [8] (fun i wr=>RRep p g w i wr) (fun i _=>p-(intOf i).toNat)
 case atStart=>exact⟨1,by omega,by omega,rfl,aj.o,ak.o⟩
 case round=>
  obtain⟨n,aA,ax,rfl,hr,hb⟩:=hrel
  have HR:=qG hr
  have HB:=qG hb
  clear hr hb aj ak
  by_cases hlt:n<p
  .have hd:decide ((n:Int)<(p:Int))=true:=decide_eq_true (by omega)
   obtain⟨m,hm⟩:∃ m,min n (p-n)=m:=⟨_,rfl⟩
   have am:=qG (show Rw.ok (repR g p n) wr.drew from HR.o)
   have aB:¬ p=n:=by omega
   obtain⟨V3,aa,an,ao⟩:=zeN (w:=wr.drew) (b:=g) (n':=n) (c:=p) (q:=p-n) (m:=m) 3 hlt rfl hm am.o (fun j hj=>znM am.o ax (by omega))
   have HM:=qG (show n+m<=p/\1<=m by omega)
   have ay:=qG an
   have az:=qG (HB.o.drew.grown ao HB.o.size (fun k e=>by injection e with e;have:=af.o;omega))
   have ha:IntKind.i64.wrap ((n:Int)+(m:Int))=(n:Int)+(m:Int):=qF _ (by omega)
   have aC:(0<=(n:Int)/\(n:Int)<=(p:Int))=True:=by simp;omega
   clear an ao hm
   go_wp2_with fail
   go_region
   have aD:=HM.o
   go_roundw
   case rel=>
    refine⟨_,_,_,_,_,_,_,_,_,_,_,_,_,_,?_,rfl⟩
    exact⟨n+m,by omega,by omega,by go_num,ay.o,az.o⟩
   case measure=>(simp[intOf];omega)
  .have hd:decide ((n:Int)<(p:Int))=false:=decide_eq_false (by omega)
   obtain rfl:n=p:=by omega
   go_wp2_with fail
   go_ret
   exact⟨g,rfl,af.o,HR.o,HB.o⟩
def newR(g1 n g5 p:Nat):Nat->Rw
|0=>⟨57,3,.slice none 0 0,0,[]⟩
|1=>⟨3,1,.slice (some ⟨g1,0,none⟩) n n,n,repL n 0⟩
|2=>⟨65,2,.slice none 0 0,0,[]⟩
|3=>⟨67,3,.slice none 0 0,0,[]⟩
|4=>⟨194,3,.slice none 0 0,0,[]⟩
|5=>⟨3,1,.slice (some ⟨g5,0,none⟩) p p,p,repL p p⟩
|_=>⟨251,6,.slice none 0 0,0,[]⟩
theorem zcy{g1 n g5 p k g:Nat}(h:blk (newR g1 n g5 p k).v=some g):(k=1/\g=g1)\/(k=5/\g=g5):=by
 unfold newR at h
 split at h
 .cases h
 .cases n with
 |zero=>cases h
 |succ n=>exact .inl ⟨rfl,(Option.some.inj h).symm⟩
 .cases h
 .cases h
 .cases h
 .cases p with
 |zero=>cases h
 |succ p=>exact .inr ⟨rfl,(Option.some.inj h).symm⟩
 .cases h
theorem zp1{w:World}{f g1 n g5 p:Nat}(h1:Rw.ok (repR g1 n 0) w)(h5:Rw.ok (repR g5 p p) w)(hf:f<w.heap.size)(e1:f≠g1)(e5:f≠g5)(e15:g1≠g5):Own w f (newR g1 n g5 p):=by
 refine⟨fun k hk=>?_,fun j k _ _ aa g hj hk=>?_,fun k _ h=>?_,hf⟩
 .match k with
 |0=>exact zb3 _ _ _
 |1=>exact h1
 |2=>exact zb3 _ _ _
 |3=>exact zb3 _ _ _
 |4=>exact zb3 _ _ _
 |5=>exact h5
 |k+6=>exact zb3 _ _ _
 .rcases zcy hj with ⟨rfl,rfl⟩|⟨rfl,rfl⟩
  .rcases zcy hk with ⟨rfl,h⟩|⟨rfl,h⟩
   .exact aa rfl
   .exact e15 h
  .rcases zcy hk with ⟨rfl,h⟩|⟨rfl,h⟩
   .exact e15 h.symm
   .exact aa rfl
 .rcases zcy h with ⟨-,h2⟩|⟨-,h2⟩
  .exact e1 h2
  .exact e5 h2
theorem zkU{f g1 n g5 p b:Nat}(h:zao f (newR g1 n g5 p) b):b=f\/b=g1\/b=g5:=by
 rcases h with h|⟨k,-,h⟩
 .exact .inl h
 .rcases zcy h with ⟨-,h⟩|⟨-,h⟩
  .exact .inr (.inl h)
  .exact .inr (.inr h)
theorem zmp(n:Nat):repL n 0=(List.replicate n (0:Int)).flatMap zad:=by
 unfold repL
 induction n with
|zero=>rfl
|succ n ih=>rw[Nat.sub_zero] at ih ⊢;rw[List.replicate_succ,List.replicate_succ,List.flatMap_cons,<- ih];rfl
theorem znO(n:Nat):repL n n=(List.replicate n (-1:Int)).flatMap zad:=by
 unfold repL
 rw[Nat.sub_self]
 induction n with
|zero=>rfl
|succ n ih=>rw[List.replicate_succ,List.replicate_succ,List.flatMap_cons,<- ih];rfl
def zea(d:Ru.Die)(pieces persons:Int)(w:World)(e:Ending)(w':World):Prop:=Below w.heap.size w w'/\match newS d pieces persons with
|none=>e=.returned (.tuple #[.pointer none,.int .i64 1])
|some s=>∃ f R A c,e=.returned (.tuple #[.pointer (some ⟨f,0,none⟩),.int .i64 0])/\FlAt (fun b=>b<w.heap.size\/zao f R b) w' f R [] [] (mvD d A c) s/\(∀ b,zao f R b->w.heap.size<=b)
theorem zdR{d:Ru.Die}{pieces persons:Int}{w w':World}(h:newS d pieces persons=none)(hb:Below w.heap.size w w'):zea d pieces persons w (.returned (.tuple #[.pointer none,.int .i64 1])) w':=by
 refine⟨hb,?_⟩
 rw[h]
theorem zkT(d:Ru.Die)(pieces persons:Int)(w:World)(hd:Ru.DieAt w w.heap.size d):Calls Tryz.prog 17 #[.agg #[.slice d.A d.blades.length d.c,.int .i64 d.bound,.int .i64 d.stop,.int .i64 d.bend],.int .i64 pieces,.int .i64 persons] w (zea d pieces persons w):=by
 have HD:=qG hd
 have n1:=nxA w (.cells #[.slice d.A d.blades.length d.c,.int .i64 d.bound,.int .i64 d.stop,.int .i64 d.bend] 24)
 have y1:=Bx.new w #[.slice d.A d.blades.length d.c,.int .i64 d.bound,.int .i64 d.stop,.int .i64 d.bend] 24
 have ac:=qG (hd.next n1)
 clear hd
 go_enter Tryz.func17,Tryz.ntmps17
 go_upto_region 1 with fail
 generalize w.alloc (.cells #[.slice d.A d.blades.length d.c,.int .i64 d.bound,.int .i64 d.stop,.int .i64 d.bend] 24)=V1 at *
 obtain⟨b1,ar⟩:∃ b1,b1=w.heap.size:=⟨_,rfl⟩
 rw[<- ar] at y1 ⊢
 have HB:=qG n1
 have X1:=qG y1
 have aj:=qG ar
 have c0:=y1.c 0 _ rfl
 have c1:=y1.c 1 _ rfl
 have c2:=y1.c 2 _ rfl
 have c3:=y1.c 3 _ rfl
 clear n1 y1 ar
 go_wp2_with fail
 refine(zms d V1 ac.o).mono ?_
 rintro e V2 ⟨hb,rfl⟩
 replace HB:=qG (HB.o.trans (hb.mono HB.o.size))
 replace X1:=qG (X1.o.next hb)
 replace ac:=qG (ac.o.next hb)
 clear hb c0 c1 c2 c3
 cases hdd:Ru.dieS d with
|false=>
  rw[if_neg (by decide)]
  have HN:=qG (show newS d pieces persons=none by unfold newS;rw[if_neg (by rw[hdd];simp)])
  clear hdd
  go_wp2_with fail
  go_ret2
  exact zdR HN.o HB.o
|true=>
  rw[if_pos rfl]
  have aA:=qG hdd
  clear hdd
  go_wp2_with fail
  refine(zam pieces 1 16 V2).mono ?_
  rintro e w' ⟨rfl,rfl⟩
  by_cases hp:1<=pieces/\pieces<=16
  .have d1:decide (1<=pieces/\pieces<=16)=true:=decide_eq_true hp
   have HP:=qG hp
   rw[d1]
   clear d1 hp
   go_wp2_with fail
   refine(zam persons 1 6 V2).mono ?_
   rintro e w' ⟨rfl,rfl⟩
   by_cases hr:1<=persons/\persons<=6
   .have d1:decide (1<=persons/\persons<=6)=true:=decide_eq_true hr
    rw[d1]
    clear d1
    obtain⟨p,rfl⟩:=Int.eq_ofNat_of_zero_le (show 0<=persons by omega)
    have HN:=qG (show newS d pieces (p:Int)=some ⟨⟨0,[],List.replicate d.blades.length 0,[],⟨pieces,[],[],List.replicate p (-1)⟩,0,false⟩,[],0⟩ by unfold newS;rw[if_pos ⟨aA.o,HP.o,hr⟩];rfl)
    have HR:=qG (show 1<=p/\p<=6 by omega)
    have aB:1<=d.blades.length/\d.blades.length<=5:=by
     have h:=aA.o
     unfold Ru.dieS Ru.inS at h
     simp only[Bool.and_eq_true,qC] at h
     omega
    have ae:=qG aB
    clear hr aB
    have c0:=X1.o.c 0 _ rfl
    have c1:=X1.o.c 1 _ rfl
    have c2:=X1.o.c 2 _ rfl
    have c3:=X1.o.c 3 _ rfl
    have f0:=X1.o.fr 0
    go_wp2_with fail
    refine(zhd d.A d.c d.blades V2 (by have:=ae.o;omega) ac.o.bl).mono ?_
    rintro e V3 ⟨v,rfl,aC,aD,hb⟩
    obtain⟨A,c,hv,aE,aU⟩:=zcC (O:=fun x=>x<V2.heap.size) (cells:=Ru.Blade.cells) (size:=4) (l:=d.blades) aC ⟨rfl,rfl,rfl,rfl⟩ ziq (by decide) (fun g e=>by have:=aD g e;omega)
    dsimp only at hv
    subst hv
    have aF:=qG aE
    have ak:=qG (show b1<V2.heap.size from X1.o.lt)
    replace HB:=qG (HB.o.trans (hb.mono HB.o.size))
    have aQ:=qG hb.size
    replace X1:=qG (X1.o.next hb)
    clear c0 c1 c2 c3 f0 aC aD hb aE aU ac
    have c0:=X1.o.c 0 _ rfl
    have c1:=X1.o.c 1 _ rfl
    have c2:=X1.o.c 2 _ rfl
    have c3:=X1.o.c 3 _ rfl
    have f0:=X1.o.fr 0
    go_upto_region 5 with fail
    have X4:=qG (X1.o.set (k:=0) (by simp) (.slice A d.blades.length c))
    have au:=qG (HB.o.setCell (p:=⟨b1,0,none⟩) (by show w.heap.size<=b1;rw[aj.o];exact qQ _) (.slice A d.blades.length c))
    have aw:=qG (aF.o.keep (O':=fun x=>x<V2.heap.size) (.of_grown (O:=fun x=>x=b1) (zaq V3 b1 0 (.slice A d.blades.length c)) (fun g e=>(Option.some.inj e).symm)) (fun x _ e=>by rw[e];exact ak.o) (fun x _ h=>h))
    have aV:=qG (show V2.heap.size<=(V3.setCell ⟨b1,0,none⟩ (.slice A d.blades.length c)).heap.size by rw[World.size_setCell];exact aQ.o)
    generalize V3.setCell ⟨b1,0,none⟩ (.slice A d.blades.length c)=V4 at *
    clear X1 HB aF c0 c1 c2 c3 f0
    have c0:=X4.o.c 0 _ rfl
    have c1:=X4.o.c 1 _ rfl
    have c2:=X4.o.c 2 _ rfl
    have c3:=X4.o.c 3 _ rfl
    have n5:=nxA V4 (.cells #[.int .i64 0,.slice none 0 0,.slice none 0 0,.slice none 0 0,.int .i64 0,.slice none 0 0,.slice none 0 0,.slice none 0 0,.int .i64 0,.int .i64 0,.bool false,.slice none 0 0,.int .i64 0,.slice A d.blades.length c,.int .i64 d.bound,.int .i64 d.stop,.int .i64 d.bend,.bool true] 84)
    have y5:=Bx.new V4 #[.int .i64 0,.slice none 0 0,.slice none 0 0,.slice none 0 0,.int .i64 0,.slice none 0 0,.slice none 0 0,.slice none 0 0,.int .i64 0,.int .i64 0,.bool false,.slice none 0 0,.int .i64 0,.slice A d.blades.length c,.int .i64 d.bound,.int .i64 d.stop,.int .i64 d.bend,.bool true] 84
    go_upto_region 6 with fail
    generalize V4.alloc (.cells #[.int .i64 0,.slice none 0 0,.slice none 0 0,.slice none 0 0,.int .i64 0,.slice none 0 0,.slice none 0 0,.slice none 0 0,.int .i64 0,.int .i64 0,.bool false,.slice none 0 0,.int .i64 0,.slice A d.blades.length c,.int .i64 d.bound,.int .i64 d.stop,.int .i64 d.bend,.bool true] 84)=V5 at *
    obtain⟨f,hf⟩:∃ f,f=V4.heap.size:=⟨_,rfl⟩
    rw[<- hf] at y5 ⊢
    have af:=qG (show V2.heap.size<=f/\f<V5.heap.size from⟨by have:=aV.o;omega,y5.lt⟩)
    have HF:=qG hf
    have X5:=qG y5
    have am:=qG (au.o.trans (n5.mono au.o.size))
    have ax:=qG (aw.o.keep (O':=fun x=>x<V2.heap.size\/f<=x) (P:=fun _=>False) (.of_below n5) (fun _ _ x=>x.elim) (fun x hx h=>h.elim (fun h=>h) (fun h=>by rw[HF.o] at h;omega)))
    replace X4:=qG (X4.o.next n5)
    clear n5 y5 hf au aw c0 c1 c2 c3
    have c0:=X4.o.c 0 _ rfl
    obtain⟨i0,hi,aG,aH,aI⟩:=zbd zd5
    have aW:∀ W:World,(Instr.makeSlice 35 (.int .i64 (d.blades.length:Int)) (.int .i64 (d.blades.length:Int))).run Tryz.prog W=.ok (.slice (some ⟨W.heap.size,0,none⟩) d.blades.length d.blades.length) (W.alloc (.cells (zeros d.blades.length) 3)):=fun W=>by
     have h:=ae.o
     have:=run_make (P:=Tryz.prog) W 35 3 i0 (.int .i64 0) Tryz.underlying35 hi aG .i64 .i64 d.blades.length d.blades.length (by omega) (by omega) (by rw[aI];omega) (by omega)
     simpa [zeros,Value.cells,aH] using this
    have n6:=nxA V5 (.cells (zeros d.blades.length) 3)
    have HZ:=qG (zh1 V5 (p:=d.blades.length) ae.o.1 (by have:=ae.o;omega))
    have f2:=(X5.o.next n6).c 2 _ rfl
    have z2:=(X5.o.next n6).fr 2
    have l2:=(X5.o.next n6).lt
    clear hi aG aH aI
    go_upto_region 7 with fail
    obtain⟨g1,ay⟩:∃ g,g=V5.heap.size:=⟨_,rfl⟩
    have aJ:(V5.alloc (.cells (zeros d.blades.length) 3)).heap.size=g1+1:=by simp[ay]
    have aK:=qG (show f≠g1 by have:=af.o.2;omega)
    have aa:=qG ((am.o.trans (n6.mono am.o.size)).setCell (p:=⟨f,2,none⟩) (by show w.heap.size<=f;have:=af.o.1;have:=am.o.size;have:=ak.o;have:=aj.o;omega) (.slice (some ⟨g1,0,none⟩) d.blades.length d.blades.length))
    have X6:=qG ((X5.o.next n6).set (k:=2) (by simp) (.slice (some ⟨g1,0,none⟩) d.blades.length d.blades.length))
    have ai:=qG ((ax.o.keep (O':=fun x=>x<V2.heap.size\/f<=x) (P:=fun _=>False) (.of_below n6) (fun _ _ x=>x.elim) (fun x _ h=>h)).keep (O':=fun x=>x<V2.heap.size\/f<=x) (.of_grown (O:=fun x=>x=f) (zaq (V5.alloc (.cells (zeros d.blades.length) 3)) f 2 (.slice (some ⟨g1,0,none⟩) d.blades.length d.blades.length)) (fun g e=>(Option.some.inj e).symm)) (fun x _ e=>.inr (by rw[e];exact qQ _)) (fun x _ h=>h))
    have an:=qG (HZ.o.grown (zaq (V5.alloc (.cells (zeros d.blades.length) 3)) f 2 (.slice (some ⟨g1,0,none⟩) d.blades.length d.blades.length)) (fun g e e2=>by
     have h2:=Option.some.inj e2
     have h3:V5.heap.size=g:=by
      have h4:=ae.o.1
      cases hn:d.blades.length with
     |zero=>omega
     |succ n=>rw[hn] at e;exact Option.some.inj e
     have:=af.o.2
     omega))
    have ao:=qG (show g1<((V5.alloc (.cells (zeros d.blades.length) 3)).setCell ⟨f,2,none⟩ (.slice (some ⟨g1,0,none⟩) d.blades.length d.blades.length)).heap.size by rw[World.size_setCell,aJ];exact Nat.lt_succ_self _)
    have ag:=qG (show f<g1 by have:=af.o.2;omega)
    rw[<- ay] at an ⊢
    generalize(V5.alloc (.cells (zeros d.blades.length) 3)).setCell ⟨f,2,none⟩ (.slice (some ⟨g1,0,none⟩) d.blades.length d.blades.length)=V6 at *
    clear HZ ax X5 X4 am n6 f2 z2 l2 aW c0 aJ ay
    have n7:=nxA V6 (.cells #[.int .i64 (-1)] 3)
    have y7:=Bx.new V6 #[.int .i64 (-1)] 3
    have aL:=qG (zlw V6.heap.size p (V6.alloc (.cells #[.int .i64 (-1)] 3)) HR.o.1 HR.o.2 (y7.c 0 _ rfl))
    go_wp2_with fail
    refine aL.o.mono ?_
    rintro e V8 ⟨g5,rfl,aX,az,aM⟩
    have ab:=qG (n7.trans (aM.mono n7.size))
    have aY:=qG az
    have aq:=qG (show V6.heap.size<g5/\g5<V8.heap.size from⟨by have:=y7.lt;omega,az.lt (by
     have h4:=HR.o.1
     cases p with
    |zero=>omega
    |succ n=>rfl)⟩)
    replace X6:=qG (X6.o.next ab.o)
    replace aa:=qG (aa.o.trans (ab.o.mono aa.o.size))
    replace ai:=qG (ai.o.keep (O':=fun x=>x<V2.heap.size\/f<=x) (P:=fun _=>False) (.of_below ab.o) (fun _ _ x=>x.elim) (fun x _ h=>h))
    replace an:=qG (an.o.keep (O:=fun _=>False) (.of_below ab.o) (fun _ _ x=>x))
    clear n7 y7 aL aX az aM
    have f4:=X6.o.c 4 _ rfl
    have z4:=X6.o.fr 4
    have f7:=X6.o.c 7 _ rfl
    have z7:=X6.o.fr 7
    have l7:=X6.o.lt
    go_wp2_with fail
    have aR:f≠g5:=by have:=aq.o.1;have:=ao.o;have:=ag.o;omega
    have aS:g1≠g5:=by have:=aq.o.1;have:=ao.o;omega
    have X9:=qG ((X6.o.set (k:=4) (by simp) (.int .i64 pieces)).set (k:=7) (by simp) (.slice (some ⟨g5,0,none⟩) p p))
    have ah:V8.grownBy (setCells (V8.setCell ⟨f,4,none⟩ (.int .i64 pieces)) f 7 [.slice (some ⟨g5,0,none⟩) p p]) (some f):=by
     have h1:=zaq V8 f 4 (.int .i64 pieces)
     have h2:=zaq (V8.setCell ⟨f,4,none⟩ (.int .i64 pieces)) f 7 (.slice (some ⟨g5,0,none⟩) p p)
     exact⟨h2.os.trans h1.os,h2.tape.trans h1.tape,h2.output.trans h1.output,Nat.le_trans h1.size h2.size,fun i hi aN=>(h2.block i (qM hi h1.size) aN).trans (h1.block i hi aN)⟩
    have a7:=qG ah
    have HW:=qG (show w.heap.size<=f by have:=af.o.1;have:=aa.o.size;have:=ak.o;have:=aj.o;omega)
    have aO:=qG (aa.o.grown ah aa.o.size (fun k e=>by rw[<- Option.some.inj e];exact HW.o))
    have aP:=qG (zp1 (f:=f) (an.o.grown ah (fun g e e2=>by have:=zcy (g1:=g1) (n:=d.blades.length) (g5:=g5) (p:=p) (k:=1) e;rcases this with ⟨-,h⟩|⟨h,-⟩;(have:=Option.some.inj e2;have:=aK.o;omega);cases h)) (aY.o.grown ah (fun g e e2=>by have:=zcy (g1:=g1) (n:=d.blades.length) (g5:=g5) (p:=p) (k:=5) e;rcases this with ⟨h,-⟩|⟨-,h⟩;cases h;(have:=Option.some.inj e2;omega))) X9.o.lt aK.o aR aS)
    have aZ:=qG (show w.heap.size<=V2.heap.size by have:=ak.o;have:=aj.o;omega)
    have aT:=qG (ai.o.keep (O':=fun b=>b<w.heap.size\/zao f (newR g1 d.blades.length g5 p) b) (.of_grown (O:=fun x=>x=f) ah (fun g e=>(Option.some.inj e).symm)) (fun x _ e=>.inr (by rw[e];exact qQ _)) (fun x _ h=>h.elim (fun h=>.inl (qM h aZ.o)) (fun h=>.inr (by rcases zkU h with rfl|rfl|rfl;exact qQ _;exact Nat.le_of_lt ag.o;(have:=aq.o.1;have:=ao.o;have:=ag.o;omega)))))
    go_ret2
    refine⟨aO.o,?_⟩
    rw[HN.o]
    refine⟨f,newR g1 d.blades.length g5 p,A,c,rfl,⟨aP.o,fun b hb=>.inr hb,fun b hb=>hb.elim (fun h=>qM h aO.o.size) (aP.o.is_lt b),X9.o,⟨⟨⟨rfl,rfl,rfl,rfl⟩,⟨rfl,rfl,by simp[newR],zmp _⟩,⟨rfl,rfl,rfl,rfl⟩,⟨rfl,rfl,rfl,rfl⟩,⟨rfl,rfl,rfl,rfl⟩,⟨rfl,rfl,by simp[newR],znO _⟩,⟨rfl,rfl,rfl,rfl⟩⟩,rfl,(fun c hc=>by cases hc),HpOk.nil,(fun x hx=>by cases hx),(fun x hx=>by cases hx)⟩,aT.o⟩,fun b hb=>?_⟩
    rcases zkU hb with rfl|rfl|rfl
    .exact HW.o
    .exact Nat.le_trans HW.o (Nat.le_of_lt ag.o)
    .have:=aq.o.1;have:=ao.o;have:=ag.o;have:=HW.o;omega
   .have d1:decide (1<=persons/\persons<=6)=false:=decide_eq_false hr
    have HN:=qG (show newS d pieces persons=none by unfold newS;rw[if_neg (fun h=>hr h.2.2)])
    rw[d1]
    clear d1 hr
    go_wp2_with fail
    go_ret2
    exact zdR HN.o HB.o
  .have d1:decide (1<=pieces/\pieces<=16)=false:=decide_eq_false hp
   have HN:=qG (show newS d pieces persons=none by unfold newS;rw[if_neg (fun h=>hp h.2.1)])
   rw[d1]
   clear d1 hp
   go_wp2_with fail
   go_ret2
   exact zdR HN.o HB.o
end
section
open Go
theorem zhG{n:List Int}(h:∀ x∈n,0<=x/\x<10000000000000)(k:Nat):0<=n.getD k 0/\n.getD k 0<10000000000000:=by
 rw[qP]
 cases e:n[k]? with
|none=>exact⟨by decide,by decide⟩
|some x=>exact h x (List.mem_of_getElem? e)
theorem zhg(c:Cu.Cut):0<=(Cu.checkS c).2/\(Cu.checkS c).2<=6:=by
 unfold Cu.checkS
 repeat' split
 all_goals (dsimp only;omega)
theorem zmT(c:Cu.Cut)(a b:Int):0<=Cu.zbb c a b/\Cu.zbb c a b<=6:=by
 unfold Cu.zbb Cu.openE
 have h:=zhg c
 repeat' split
 all_goals omega
theorem zjp(d:Ru.Die)(k x:Int):0<=(Ru.offS d k x).2/\(Ru.offS d k x).2<=2:=by
 unfold Ru.offS
 repeat' split
 all_goals (dsimp only;omega)
theorem zoD(t:Le.Tl):0<=fitE t/\fitE t<=6:=by
 have h:0<=(Le.zby t).2/\(Le.zby t).2<=4:=by
  unfold Le.zby
  repeat' split
  all_goals (dsimp only;omega)
 unfold fitE
 repeat' split
 all_goals omega
theorem znA(t:Le.Tl)(a:Int):0<=(Le.whoS t a).2/\(Le.whoS t a).2<=6:=by
 unfold Le.whoS
 repeat' split
 all_goals (dsimp only;omega)
theorem zmH(t:Le.Tl)(a:Int):0<=(Le.zaX t a).2/\(Le.zaX t a).2<=6:=by
 unfold Le.zaX
 repeat' split
 all_goals (dsimp only;omega)
theorem zj1(d:Ru.Die)(k:Int):∀(l:List Int) (i:Nat) (far e:Int),farS d k i l far=.error e->1<=e/\e<=2
|[],_,_,_,h=>by unfold farS at h;cases h
|x :: l,i,far,e,h=>by
  unfold farS at h
  split at h
  .rename_i aa
   injection h with h
   have:=zjp d i (x+k)
   omega
  .exact zj1 d k l _ _ _ h
theorem zg6{x:Int}(h:0<=x/\x<=6)(aa:x≠0):1<=x/\x<=13:=by omega
theorem zq1{x:Int}(h:0<=x/\x<=2)(aa:x≠0):1<=x/\x<=13:=by omega
theorem zq2{d:Ru.Die}{k:Int}{l:List Int}{i:Nat}{far e:Int}(h:farS d k i l far=.error e):1<=e/\e<=13:=by have:=zj1 d k l i far e h;omega
theorem zcV{α:Type}{x y:Int}(h:(Except.error x:Except Int α)=.error y):x=y:=by injection h
theorem zoQ{d:Ru.Die}{s:Bk}{v:Vb}{n:List Int}{e:Int}(h:doV d s v n=.error e):1<=e/\e<=13:=by
 cases v <;> unfold doV at h <;> dsimp only at h <;> (repeat' split at h)
 all_goals first
 |(cases h;done)
 |(have h:=zcV h;subst h;first|exact⟨by decide,by decide⟩|exact zq2 (by assumption)|exact zg6 (zhg _) (by assumption)|exact zg6 (zmT _ _ _) (by assumption)|exact zq1 (zjp _ _ _) (by assumption)|exact zg6 (zoD _) (by assumption)|exact zg6 (znA _ _) (by assumption)|exact zg6 (zmH _ _) (by assumption))
theorem zlG{d:Ru.Die}{s:St}{t:Tx}{e:Int}(h:zbZ d s t=.error e):1<=e/\e<=13:=by
 unfold zbZ at h
 split at h
 .have h:=zcV h;omega
 .split at h
  .have h:=zcV h;omega
  .rename_i c _
   cases c with
  |at_ n x=>
    unfold cmdV at h
    dsimp only at h
    (repeat' split at h) <;> first|(cases h;done)|(have h:=zcV h;omega)
  |do_ x=>
    unfold cmdV at h
    dsimp only at h
    split at h
    .split at h
     .have h:=zcV h;omega
     .cases h
    .split at h
     .split at h
      .have h:=zcV h;omega
      .cases h
     .split at h
      .cases h
      .rename_i e3
       have h:=zcV h
       subst h
       exact zoQ e3
theorem zia(d:Ru.Die)(s:St)(t:Tx):0<=(lineS d s t).2.2/\(lineS d s t).2.2<=13:=by
 unfold lineS
 cases e:zbZ d s t with
|error x=>have:=zlG e;exact⟨by show 0<=x;omega,by show x<=13;omega⟩
|ok x=>exact⟨Int.le_refl _,by show(0:Int)<=13;decide⟩
def Short(t:Tx):Prop:=∃ l:List Pa,t=rep l/\l.length<=6/\∀ y∈l,y.ok
theorem Short.len{t:Tx}(h:Short t):t.length<=126:=by
 obtain⟨l,rfl,h1,h2⟩:=h
 unfold rep
 have:=zgk 32 (l.map Pa.tx) (fun x hx=>by
  obtain⟨y,hy,rfl⟩:=List.mem_map.1 hx
  exact zmv (h2 y hy))
 rw[List.length_map] at this
 omega
theorem zqc(d:Ru.Die)(k:Int)(l:List Int)(i:Nat)(far:Int)(h:farS d k i l 0=.ok far):0<=far:=(ze7 d k l i 0 far h).1
theorem zna{d:Ru.Die}(hd:Ru.dieS d=true){s:Bk}(ok:BOk d s)(hc:s.cost<=99999000000){v:Vb}{n:List Int}(hn:∀ x∈n,0<=x/\x<10000000000000){b:Bk}{t:Tx}(h:doV d s v n=.ok (b,t)):Short t:=by
 have a0:=zhG hn 0
 have a1:=zhG hn 1
 have okT:Le.OkT s.t:=ok.okT
 have aa:0<=d.bound/\d.bound<=100000/\0<=d.stop/\0<=d.bend/\d.stop<=10000/\d.bend<=10000:=by
  unfold Ru.dieS Ru.inS at hd
  simp only[Bool.and_eq_true,qC] at hd
  omega
 cases v with
|cut=>
  unfold doV at h;dsimp only at h;(repeat' split at h) <;> first|(cases h;done)|skip
  rename_i h1 h2
  have h2:=Decidable.not_not.1 h2
  refine⟨_,(zbw h).2.symm,by simp,?_⟩
  simp only[List.forall_mem_cons]
  exact⟨(by show _<=20;decide),⟨by omega,by omega⟩,(by show _<=20;decide),zeB h2,(fun x hx=>by cases hx)⟩
|join=>
  unfold doV at h;dsimp only at h;(repeat' split at h) <;> first|(cases h;done)|skip
  rename_i h1 h2 h3 h4
  have h4:=Decidable.not_not.1 h4
  refine⟨_,(zbw h).2.symm,by simp,?_⟩
  simp only[List.forall_mem_cons]
  exact⟨(by show _<=20;decide),zeB h4,(fun x hx=>by cases hx)⟩
|lines=>
  unfold doV at h;dsimp only at h;(repeat' split at h) <;> first|(cases h;done)|skip
  rename_i h1 h2
  have h2:(Cu.checkS _).2=0:=Decidable.not_not.1 h2
  have hb:=zjC ((Cu.zck _).1 (Cu.zeA h2).1)
  refine⟨_,(zbw h).2.symm,by simp,?_⟩
  simp only[List.forall_mem_cons]
  exact⟨(by show _<=20;decide),hb.1,hb.2.1,hb.2.2.1,hb.2.2.2,(fun x hx=>by cases hx)⟩
|make=>
  unfold doV at h;dsimp only at h;(repeat' split at h) <;> first|(cases h;done)|skip
  rename_i h1 h2 h3 _ far h4 h5
  have hf:=zqc _ _ _ _ _ h4
  refine⟨_,(zbw h).2.symm,by simp,?_⟩
  simp only[List.forall_mem_cons]
  exact⟨(by show _<=20;decide),⟨by omega,by omega⟩,(by show _<=20;decide),⟨hf,by omega⟩,(fun x hx=>by cases hx)⟩
|bend=>
  unfold doV at h;dsimp only at h;(repeat' split at h) <;> first|(cases h;done)|skip
  have:=ok.ct
  refine⟨_,(zbw h).2.symm,by simp,?_⟩
  simp only[List.forall_mem_cons]
  exact⟨(by show _<=20;decide),⟨a0.1,by omega⟩,(by show _<=20;decide),⟨by omega,by omega⟩,(fun x hx=>by cases hx)⟩
|off=>
  unfold doV at h;dsimp only at h;(repeat' split at h) <;> first|(cases h;done)|skip
  rename_i h1 h2
  have h2:=Decidable.not_not.1 h2
  have hb:=off_bd h2
  have hr:=ok.rn (s.ran.getD (n.getD 0 0).toNat 0) (by rw[qP,qN (by omega)];exact List.getElem_mem _)
  refine⟨_,(zbw h).2.symm,by simp,?_⟩
  simp only[List.forall_mem_cons]
  exact⟨(by show _<=20;decide),⟨hr.1,by omega⟩,hb.1,⟨hb.2.1,by omega⟩,(fun x hx=>by cases hx)⟩
|lend=>
  unfold doV at h;dsimp only at h;(repeat' split at h) <;> first|(cases h;done)|skip
  refine⟨_,(zbw h).2.symm,by simp,?_⟩
  simp only[List.forall_mem_cons]
  exact⟨(by show _<=20;decide),⟨a0.1,by omega⟩,(fun x hx=>by cases hx)⟩
|back=>
  unfold doV at h;dsimp only at h;(repeat' split at h) <;> first|(cases h;done)|skip
  rename_i h1 h2 h3
  have hx:0<=(s.t.loans.getD (s.t.loans.length-1) ⟨0,0,0⟩).p/\(s.t.loans.getD (s.t.loans.length-1) ⟨0,0,0⟩).p<1000000000000000000:=by
   rw[qP]
   cases e:s.t.loans[s.t.loans.length-1]? with
  |none=>exact⟨by decide,by decide⟩
  |some x=>
    have h7:=okT.lent.good x (List.mem_of_getElem? e)
    have h8:=okT.per x (List.mem_of_getElem? e)
    have h9:=okT.a2
    exact⟨by show 0<=x.p;omega,by show x.p<_;omega⟩
  refine⟨_,(zbw h).2.symm,by simp,?_⟩
  simp only[List.forall_mem_cons]
  exact⟨(by show _<=20;decide),hx,(fun x hx=>by cases hx)⟩
|seen=>
  unfold doV at h;dsimp only at h;(repeat' split at h) <;> first|(cases h;done)|skip
  refine⟨_,(zbw h).2.symm,by simp,?_⟩
  simp only[List.forall_mem_cons]
  exact⟨(by show _<=20;decide),⟨by omega,by omega⟩,(fun x hx=>by cases hx)⟩
|admit=>
  unfold doV at h;dsimp only at h;(repeat' split at h) <;> first|(cases h;done)|skip
  refine⟨_,(zbw h).2.symm,by simp,?_⟩
  simp only[List.forall_mem_cons]
  exact⟨(by show _<=20;decide),⟨a0.1,by omega⟩,⟨a1.1,by omega⟩,(fun x hx=>by cases hx)⟩
|who=>
  unfold doV at h;dsimp only at h;(repeat' split at h) <;> first|(cases h;done)|skip
  refine⟨_,(zbw h).2.symm,by simp,?_⟩
  simp only[List.forall_mem_cons]
  exact⟨(by show _<=20;decide),zl6 _ _,(fun x hx=>by cases hx)⟩
|lost=>
  unfold doV at h;dsimp only at h;(repeat' split at h) <;> first|(cases h;done)|skip
  rename_i h1
  have hb:=zkW okT _ (Decidable.not_not.1 h1)
  refine⟨_,(zbw h).2.symm,by simp,?_⟩
  simp only[List.forall_mem_cons]
  exact⟨(by show _<=20;decide),hb.1,hb.2,(fun x hx=>by cases hx)⟩
|hour=>unfold doV at h;cases h
|drop=>unfold doV at h;cases h
theorem zkx{d:Ru.Die}(hd:Ru.dieS d=true){s:St}{N:Nat}(h:SOk d s N)(hN:N<=400000)(t:Tx):(lineS d s t).2.1.length<=126:=by
 have ab:=h.cs
 unfold lineS
 cases e:zbZ d s t with
|error x=>exact Nat.zero_le _
|ok x=>
  obtain⟨s',r⟩:=x
  refine Short.len (t:=r) ?_
  unfold zbZ at e
  split at e
  .cases e
  .split at e
   .cases e
   .rename_i c hc
    have hk:=zlj hc
    cases c with
   |at_ n x=>
     unfold cmdV at e
     dsimp only at e
     (repeat' split at e) <;> first|(cases e;done)|skip
     refine⟨_,(zbw e).2.symm,by simp,?_⟩
     simp only[List.forall_mem_cons]
     have:=h.n8
     exact⟨(by show _<=20;decide),⟨by omega,by omega⟩,(fun x hx=>by cases hx)⟩
   |do_ x=>
     have a0:=zhG hk.2 0
     unfold cmdV at e
     dsimp only at e
     split at e
     .split at e
      .cases e
      .rename_i hv hh
       have hh:=Decidable.not_not.1 hh
       refine⟨_,(zbw e).2.symm,by simp,?_⟩
       obtain⟨g1,g2,pre,g3,g4,g5,g6,g7,g8⟩:=zfo hd hh.2 s.plans s.b 0 0 h.b hh.1 (zdQ h.pl.so) (fun p hp=>by have:=h.pe p hp;exact⟨by omega,this.2.2⟩)
       have h8:=h.n8
       have aa:pre.length<=8:=by rw[g3,qD] at h8;omega
       simp only[List.forall_mem_cons]
       exact⟨(by show _<=20;decide),⟨a0.1,by omega⟩,⟨by omega,by omega⟩,⟨by omega,by omega⟩,(fun x hx=>by cases hx)⟩
     .split at e
      .split at e
       .cases e
       .refine⟨_,(zbw e).2.symm,by simp,?_⟩
        have h8:=(List.eraseIdx_sublist s.plans (zbx s.plans)).length_le
        have h9:=h.n8
        simp only[List.forall_mem_cons]
        exact⟨(by show _<=20;decide),⟨by omega,by omega⟩,(fun x hx=>by cases hx)⟩
      .split at e
       .rename_i e3
        have h1:=(zbw e).2
        subst h1
        exact zna hd h.b (by omega) hk.2 e3
       .cases e
noncomputable def outL(d:Ru.Die)(s:St)(t:Tx):Tx:=if(lineS d s t).2.2=0 then(lineS d s t).2.1 else rep [wd wErr,.n (lineS d s t).2.2]
noncomputable def stA(d:Ru.Die)(s:St)(l:List Tx):St:=l.foldl (fun s t=>(lineS d s t).1) s
theorem znJ(d:Ru.Die)(s:St)(l:List Tx)(t:Tx):stA d s (l++[t])=(lineS d (stA d s l) t).1:=by unfold stA;rw[List.foldl_append];rfl
theorem zmg{d:Ru.Die}(hd:Ru.dieS d=true):∀(l:List Tx) {s:St} {N:Nat},SOk d s N->SOk d (stA d s l) (N+l.length)
|[],_,_,h=>h
|t :: l,s,N,h=>by
  have:=zmg hd l (zjE hd h t)
  rw[List.length_cons,show N+(l.length+1)=N+1+l.length by omega]
  exact this
theorem zh4(d:Ru.Die):∀(l:List Tx) (s:St) (t:Tx),playS d s (l++[t])=playS d s l++(outL d (stA d s l) t++[10])
|[],s,t=>by
  show playS d s [t]=_
  unfold playS
  unfold playS
  rfl
|x :: l,s,t=>by
  rw[List.cons_append]
  unfold playS
  rw[zh4 d l]
  simp only[List.append_assoc,List.cons_append]
  rfl
theorem zjm{d:Ru.Die}(hd:Ru.dieS d=true){s:St}{N:Nat}(h:SOk d s N)(hN:N<=400000)(t:Tx):(outL d s t).length<=126:=by
 unfold outL
 split
 .exact zkx hd h hN t
 .have:=zia d s t
  refine Short.len ⟨_,rfl,by simp,?_⟩
  simp only[List.forall_mem_cons]
  exact⟨(by show _<=20;decide),⟨by omega,by omega⟩,(fun x hx=>by cases hx)⟩
theorem zjh{d:Ru.Die}(hd:Ru.dieS d=true):∀(l:List Tx) {s:St} {N:Nat},SOk d s N->N+l.length<=400000->(playS d s l).length<=127*l.length
|[],_,_,_,_=>Nat.zero_le _
|t :: l,s,N,h,hN=>by
  rw[List.length_cons] at hN
  have h1:=zjh hd l (zjE hd h t) (by omega)
  have h2:=zjm hd h (by omega) t
  unfold outL at h2
  unfold playS
  rw[qD,List.length_cons,List.length_cons]
  omega
theorem zcK(c:UInt8):∀ l:Tx,l=[]\/l.getLast?=some c->(Bo.zas c l).getLast?=some []
|[],_=>rfl
|[b],h=>by
  rcases h with h|h
  .cases h
  .have:b=c:=Option.some.inj h
   subst this
   rw[Bo.zcb,if_pos rfl];rfl
|b :: x :: l,h=>by
  have h2:=zcK c (x :: l) (.inr (by rcases h with h|h;cases h;rw[List.getLast?_cons_cons] at h;exact h))
  rw[Bo.zcb]
  have aa:=Bo.zcB c (x :: l)
  split
  .rw[List.getLast?_cons,h2];rfl
  .cases hs:Bo.zas c (x :: l) with
  |nil=>exact absurd hs aa
  |cons y r=>
    rw[hs] at h2
    cases r with
   |nil=>
     exfalso
     have hy:y=[]:=Option.some.inj h2
     have h3:Bo.zas c (x :: l)=[[]]:=by rw[hs,hy]
     rw[Bo.zcb] at h3
     split at h3
     .injection h3 with _ h4;exact Bo.zcB c l h4
     .cases h5:Bo.zas c l with
     |nil=>exact Bo.zcB c l h5
     |cons z r=>rw[h5] at h3;unfold Bo.putC at h3;injection h3 with h3 _;cases h3
   |cons z r=>
     show((b :: y) :: z :: r).getLast?=_
     rw[List.getLast?_cons_cons]
     rw[List.getLast?_cons_cons] at h2
     exact h2
theorem zi6{t:Tx}(h:t=[]\/t.getLast?=some 10):zcT t=Bo.zc0 t:=by
 unfold zcT Bo.zc0
 rw[if_pos (zcK 10 t h)]
end
section
open Go.RowKit
open Le
theorem zki:(Tryz.prog.info? 122).map (fun j=>j.size)=some 2:=by kernel_rfl
theorem zoW:liesAt Tryz.prog Tryz.prog.depth 122 (2 / Tryz.prog.cellsOf 122) 0 122 1=true:=by kernel_rfl
theorem zni:(Tryz.prog.info? 5).map (fun i=>(i.zero,i.size,i.bytes))=some (some (.int .u8 0),1,1):=by kernel_rfl
theorem zhL(b:Nat)(w:World)(h0:w.cell? ⟨b,0,none⟩=some (.pointer (some ⟨b,0,none⟩))) :
  Calls Tryz.prog 124 #[.pointer (some ⟨b,0,none⟩)] w fun e w'=>e=.returned (.tuple #[])/\w'=w:=by
 obtain⟨j,hj,-⟩:=Option.map_eq_some_iff.1 zki
 go_enter Tryz.func124,Tryz.ntmps124
 go_wp2
 rw[Lib.run_neq_ptr_same w _ Tryz.underlying119 hj]
 go_wp2
 go_end0
 exact⟨rfl,rfl⟩
theorem zg8(b:Nat)(w:World)(h0:w.cell? ⟨b,0,none⟩=some (.pointer none))(aa:w.shape? b=some (122,2))(ac:w.frozen? ⟨b,0,none⟩=false) :
  Calls Tryz.prog 124 #[.pointer (some ⟨b,0,none⟩)] w fun e w'=>e=.returned (.tuple #[])/\w'=w.setCell ⟨b,0,none⟩ (.pointer (some ⟨b,0,none⟩)):=by
 obtain⟨j,hj,ab⟩:=Option.map_eq_some_iff.1 zki
 go_enter Tryz.func124,Tryz.ntmps124
 go_wp2
 rw[Lib.run_to_unsafe w ⟨b,0,none⟩ Tryz.underlying119 Tryz.underlying292 hj (by rw[ab];decide) aa (Nat.zero_lt_succ 1)]
 simp only[Result.andThen]
 rw[Oper.upon_value]
 go_wp2
 rw[run_callFunc_extern Tryz.func180 (by kernel_rfl) (by kernel_rfl) (by kernel_rfl) (e:=Extern.AbiNoEscape.same) (by kernel_rfl)]
 rw[Lib.run_noEscape]
 simp only[Result.andThen]
 rw[Oper.upon_value]
 go_wp2
 rw[Lib.run_from_unsafe w ⟨b,0,none⟩ Tryz.underlying292 Tryz.underlying119 hj aa zoW]
 simp only[Result.andThen]
 rw[Oper.upon_value]
 go_wp2
 go_end0
 exact⟨rfl,rfl⟩
def Kd(W:World)(g:Nat)(t:TypeId):Prop:=∃ c fz,W.heap[g]?=some (.cells c t fz)
theorem Kd.new(w:World)(vs:Array Value)(t:TypeId):Kd (w.alloc (.cells vs t)) w.heap.size t:=⟨vs,(0,0),heap_alloc_new w _⟩
theorem Kd.setCell{W:World}{g:Nat}{t:TypeId}(h:Kd W g t)(a:Addr)(v:Value):Kd (W.setCell a v) g t:=by
 obtain⟨c,fz,h⟩:=h
 by_cases e:a.block=g
 .unfold World.setCell
  exact⟨if a.spot.isSome=true then c else c.setIfInBounds a.off v,fz,by rw[Array.getElem?_modify,if_pos e,h];rfl⟩
 .exact⟨c,fz,by unfold World.setCell;rw[Array.getElem?_modify,if_neg e];exact h⟩
theorem Kd.next{W W':World}{g:Nat}{t:TypeId}(h:Kd W g t)(hb:Below W.heap.size W W'):Kd W' g t:=by
 obtain⟨c,fz,h⟩:=h
 exact⟨c,fz,by rw[hb.block g (qB.1 h).1];exact h⟩
def Hld(t:Tx)(b:Nat)(W:World):Prop:=Lib.IsBuilder 122 5 b b (Lib.byteCells t) W
theorem Hld.lt{t:Tx}{b:Nat}{W:World}(h:Hld t b W):b<W.heap.size:=by
 rcases h with h|h <;> exact h.lt
theorem zkI(t:Tx)(b:Nat)(w:World)(h:Hld t b w):Calls Tryz.prog 55 #[.pointer (some ⟨b,0,none⟩)] w fun e w'=>e=.returned (tx t)/\Below b w w'/\Lib.OthersKept 5 (some b) w w':=
 (Any.Builder_String_any_k Tryz.lays169 Tryz.Builder_Extra_169 b b t w (Lib.IsBuilderF.of h) (Nat.le_of_lt h.lt)).mono fun _ _ ⟨h1,_,h2,h3⟩=>⟨h1,h2,h3⟩
def rawL:Tx->List Tx
|[]=>[]
|c :: s=>if c=10 then[10] :: rawL s else match rawL s with
 |[]=>[[c]]
 |x :: l=>(c :: x) :: l
theorem zh3{x:Tx}(y:Tx)(h:(10:UInt8)∉x):rawL (x++10 :: y)=(x++[10]) :: rawL y:=by
 induction x with
|nil=>show rawL (10 :: y)=_;rw[rawL,if_pos rfl];rfl
|cons c x ih=>
  have hc:c≠10:=fun e=>h (e▸qE ..)
  show rawL (c :: (x++10 :: y))=_
  rw[rawL,if_neg hc,ih (fun e=>h (List.mem_cons_of_mem _ e))]
  rfl
theorem zeU:∀{x:Tx},x≠[]->(10:UInt8)∉x->rawL x=[x]
|[],h,_=>absurd rfl h
|[c],_,h=>by
  have hc:c≠10:=fun e=>h (e▸qE ..)
  rw[rawL,if_neg hc];rfl
|c :: d :: x,_,h=>by
  have hc:c≠10:=fun e=>h (e▸qE ..)
  rw[rawL,if_neg hc,zeU (x:=d :: x) (by simp) (fun e=>h (List.mem_cons_of_mem _ e))]
def zaz(x:Tx):Tx:=Lib.trimSuffix x [10]
theorem zmd(x:Tx):zaz (x++[10])=x:=by
 unfold zaz Lib.trimSuffix Lib.hasSuffix
 rw[if_pos (by rw[List.isSuffixOf_iff_suffix];exact List.suffix_append ..)]
 simp
theorem zlr{x:Tx}(h:(10:UInt8)∉x):zaz x=x:=by
 unfold zaz Lib.trimSuffix Lib.hasSuffix
 rw[if_neg]
 intro e
 rw[List.isSuffixOf_iff_suffix] at e
 exact h (e.mem (List.mem_singleton.2 rfl))
theorem zh2:∀(n:Nat) (s:Tx),s.length<=n->(rawL s).map zaz=Bo.zc0 s
|0,[],_=>rfl
|n+1,s,hn=>by
  by_cases h:(10:UInt8)∈s
  .obtain⟨x,y,rfl,hx⟩:=Bo.zef s h
   rw[zh3 y hx,Bo.zkw y hx,List.map_cons,zmd,zh2 n y (by simp at hn;omega)]
  .by_cases he:s=[]
   .subst he;rfl
   .rw[zeU he h,Bo.zkv h he,List.map_cons,zlr h];rfl
theorem zk5:∀{x:Tx},(10:UInt8)∉x->Lib.indexByte x 10=-1
|[],_=>rfl
|b :: x,h=>by
  have hb:(b==10)=false:=beq_false_of_ne (fun e=>h (e▸qE ..))
  unfold Lib.indexByte
  rw[hb,zk5 (fun e=>h (List.mem_cons_of_mem _ e))]
  rfl
theorem zk4:∀{x:Tx} (y:Tx),(10:UInt8)∉x->Lib.indexByte (x++10 :: y) 10=x.length
|[],_,_=>rfl
|b :: x,y,h=>by
  have hb:(b==10)=false:=beq_false_of_ne (fun e=>h (e▸qE ..))
  show Lib.indexByte (b :: (x++10 :: y)) 10=_
  unfold Lib.indexByte
  rw[hb,zk4 y (fun e=>h (List.mem_cons_of_mem _ e))]
  have:((x.length:Int)==-1)=false:=by simp
  rw[this,List.length_cons]
  simp
theorem zi4(s:ByteArray)(w:World):Calls Tryz.prog 51 #[.string s] w fun e w'=>e=.returned (.func (.func 120) #[] #[.pointer (some ⟨w.heap.size,0,none⟩)])/\w'=w.alloc (.cells #[.string s] 9):=by
 go_enter Tryz.func51,Tryz.ntmps51
 go_wp2
 go_ret
 exact⟨rfl,rfl⟩
theorem zoF(r:Tx)(k:Nat):(⟨r.toArray⟩:ByteArray).extract 0 k=⟨(r.take k).toArray⟩:=by
 apply ByteArray.ext;simp
theorem zoG(r:Tx)(k:Nat):(⟨r.toArray⟩:ByteArray).extract k r.length=⟨(r.drop k).toArray⟩:=by
 apply ByteArray.ext;simp[List.take_of_length_le]
theorem Kd.drew{W:World}{g:Nat}{t:TypeId}(h:Kd W g t):Kd W.drew g t:=h
theorem Kd.same{W W':World}{g:Nat}{t:TypeId}(h:Kd W g t)(hk:W'.heap[g]?=W.heap[g]?):Kd W' g t:=by
 obtain⟨c,fz,h⟩:=h
 exact⟨c,fz,hk.trans h⟩
theorem zjJ{W W':World}{row:Option Nat}(h:W.grownBy W' row):W.grownBy W'.drew row:=⟨h.os,h.tape,h.output,h.size,h.block⟩
def encT(x:Tx):Array Value:=#[tx x]
attribute [local go_sem] Oper.semAt_some
def zqE:Value->Nat
|.string s=>s.size
|_=>0
def RLn(s:Tx)(bx:Nat)(J:List Tx->World->Prop)(w:World):Prop:=∃(pre:List Tx) (r:Tx),rawL s=pre++rawL r/\r.length<=s.length/\Bx w bx [tx r]/\Kd w bx 9/\J pre w
theorem zis{bx:Nat}{W W':World}{vs:List Value}(h:Bx W bx vs)(hk:W'.heap[bx]?=W.heap[bx]?):Bx W' bx vs:=
 ⟨by have:=h.lt;have h2:W'.heap[bx]?.isSome:=by { rw[hk,Array.getElem?_eq_getElem this];rfl };exact(qB.1 (Option.get_mem h2)).1,fun j u hu=>(World.cell?_of_block (a:=⟨bx,j,none⟩) hk).trans (h.c j u hu),fun j=>(World.frozen?_of_block (a:=⟨bx,j,none⟩) hk).trans (h.fr j)⟩
theorem zjD(n:Nat)(hn:1<=n)(s:Tx)(aJ:s.length<=281474976710656)(bx:Nat)(w:World)(hb:Bx w bx [tx s])(hd:Kd w bx 9) :
  SeqX Fence.wide n Tryz.prog 120 #[.pointer (some ⟨bx,0,none⟩)] encT (fun A r=>r=bx/\Kd A bx 9) (fun W W'=>W'.heap[bx]?=W.heap[bx]?) (fun _ _=>True) (fun xs=>xs=rawL s) (fun pre=>pre <+: rawL s) (fun _ _=>False) w:=by
 intro l J Jx Jp hJ aE aF hY h0
 have HY:=qG hY
 have H0:=qG h0
 have HB:=qG hb
 have HD:=qG hd
 have HJ:=qG hJ
 clear hY h0 hb hd hJ aE aF
 refine callsIn_of_wp Tryz.func120 rfl trivial ?_ rfl
 simp only[Tryz.ntmps120,List.size_toArray,List.length_cons,List.length_nil,Nat.reduceAdd,Nat.reduceSub,Array.replicate_succ,Array.replicate_zero,List.push_toArray,List.append_toArray,List.nil_append,List.cons_append]
 gi_wp2
 gi_loopw [] (fun wr=>RLn s bx J wr) (fun wr=>zqE ((wr.cell? ⟨bx,0,none⟩).getD undef))
 case atStart=>exact⟨[],s,rfl,qQ _,HB.o,HD.o,H0.o⟩
 case round=>
  obtain⟨pre,r,hr,aK,ai,az,aA⟩:=hrel
  have ab:=qG az
  clear az
  have HR:=qG hr
  have aB:=qG ai
  have aq:=qG aA
  clear hr aA
  have c0:=ai.c 0 _ rfl
  have f0:=ai.fr 0
  clear ai
  by_cases he:r=[]
  .subst he
   gi_wp2
   go_end0
   exact .inl ⟨⟨_,rfl⟩,.inl ⟨pre,by have:=HR.o;rw[this];show pre=pre++[];simp,aq.o⟩⟩
  .have af:0<r.length:=List.length_pos_iff.2 he
   have aC:(0:Int)<(r.length:Int):=by omega
   by_cases hm:(10:UInt8)∈r
   .obtain⟨x,y,e0,hx⟩:=Bo.zef r hm
    have HI:=qG (show Lib.indexByte r 10=(x.length:Int) by rw[e0];exact zk4 y hx)
    have aj:=qG (show rawL r=r.take (x.length+1) :: rawL (r.drop (x.length+1)) by rw[e0,zh3 y hx,show x++10 :: y=(x++[10])++y by simp,List.take_left' (by simp),List.drop_left' (by simp)])
    have aD:=qG (show x.length<r.length by rw[e0];simp)
    generalize x.length=i at HI aj aD
    clear hm he e0 hx
    gi_wp2_with fail
    refine⟨trivial,(callsIn_wide.2 (Tryz.strings_IndexByte ⟨r.toArray⟩ 10 wr)).mono ?_⟩
    rintro e w' ⟨rfl,hw⟩
    have ar:=hw.symm
    clear hw
    subst ar
    rw[show Lib.indexByte (⟨r.toArray⟩:ByteArray).data.toList (10:Int).toNat.toUInt8=(i:Int) from HI.o]
    have aG:(0:Int)<=(i:Int):=by omega
    gi_wp2_with fail
    have aH:=aD.o
    have aI:IntKind.i64.wrap ((i:Int)+1)=(i:Int)+1:=qF _ (by omega)
    refine wpIn_wide.2 ?_
    go_region
    rw[zoF,zoG]
    have ak:=qG ((aB.o.set (k:=0) (by simp) (tx (r.drop (i+1)))).drew)
    have am:=qG (HJ.o pre wr (wr.setCell ⟨bx,0,none⟩ (tx (r.drop (i+1)))).drew (some bx) aq.o (zjJ (grownBy_setCell' wr bx _)) (fun q hq=>by cases hq;exact⟨⟨rfl,ab.o⟩,rfl,Kd.drew (ab.o.setCell _ _)⟩))
    have an:=qG (show Kd (wr.setCell ⟨bx,0,none⟩ (tx (r.drop (i+1)))).drew bx 9 from Kd.drew (ab.o.setCell _ _))
    generalize(wr.setCell ⟨bx,0,none⟩ (tx (r.drop (i+1)))).drew=W2 at ak am an ⊢
    have HP:=qG (show rawL s=(pre++[r.take (i+1)])++rawL (r.drop (i+1)) by rw[HR.o,aj.o];simp)
    obtain⟨fn,tmps,assign,body,hy,hR⟩:=HY.o pre (r.take (i+1)) W2 am.o ⟨_,HP.o.symm⟩ trivial
    dsimp only[encT] at hy
    have au:=qG hR
    have ao:=qG (show(r.drop (i+1)).length<r.length by rw[List.length_drop];omega)
    have aw:=qG c0
    generalize r.take (i+1)=x1 at *
    generalize r.drop (i+1)=r1 at *
    clear hR c0 f0 aC af aG aH aI
    gi_wp2_with fail
    refine au.o.mono ?_
    rintro e W3 (⟨rfl,ac,aa⟩|⟨rfl,ag,-⟩|⟨ch,rfl,ah,-⟩)
    .have ae:=qG (zis ak.o aa)
     have ax:=qG (an.o.same aa)
     have ay:=qG ac
     clear ac aa
     gi_wp2_with fail
     go_roundw
     case rel=>exact⟨pre++[x1],r1,HP.o,by have:=ao.o;omega,ae.o,ax.o,ay.o⟩
     case measure=>rw[ae.o.c 0 _ rfl,aw.o];show r1.length<r.length;exact ao.o
    .gi_wp2_with fail
     refine bodyPost_ret (results_none rfl _ _ _) rfl ?_
     exact .inl ⟨⟨_,rfl⟩,.inr ⟨_,⟨_,HP.o.symm⟩,ag⟩⟩
    .exact⟨rfl,.inr (.inl ⟨ch,rfl,ah⟩)⟩
   .have HI:=qG (zk5 hm)
    have aj:=qG (zeU he hm)
    clear hm he
    gi_wp2_with fail
    refine⟨trivial,(callsIn_wide.2 (Tryz.strings_IndexByte ⟨r.toArray⟩ 10 wr)).mono ?_⟩
    rintro e w' ⟨rfl,hw⟩
    have ar:=hw.symm
    clear hw
    subst ar
    rw[show Lib.indexByte (⟨r.toArray⟩:ByteArray).data.toList (10:Int).toNat.toUInt8=-1 from HI.o]
    have ak:=qG (aB.o.set (k:=0) (by simp) (tx []))
    have am:=qG (HJ.o pre wr (wr.setCell ⟨bx,0,none⟩ (tx [])) (some bx) aq.o (grownBy_setCell' wr bx _) (fun q hq=>by cases hq;exact⟨⟨rfl,ab.o⟩,rfl,ab.o.setCell _ _⟩))
    have an:=qG (show Kd (wr.setCell ⟨bx,0,none⟩ (tx [])) bx 9 from ab.o.setCell _ _)
    have HP:=qG (show rawL s=(pre++[r])++rawL [] by rw[HR.o,aj.o];simp[rawL])
    obtain⟨fn,tmps,assign,body,hy,hR⟩:=HY.o pre r _ am.o ⟨_,HP.o.symm⟩ trivial
    dsimp only[encT] at hy
    have au:=qG hR
    have ao:=qG af
    have aw:=qG c0
    have aL:=qG f0
    clear hR aC af
    gi_wp2_with fail
    refine au.o.mono ?_
    rintro e W3 (⟨rfl,ac,aa⟩|⟨rfl,ag,-⟩|⟨ch,rfl,ah,-⟩)
    .have ae:=qG (zis ak.o aa)
     have ax:=qG (an.o.same aa)
     have ay:=qG ac
     clear ac aa
     gi_wp2_with fail
     go_roundw
     case rel=>exact⟨pre++[r],[],HP.o,by simp,ae.o,ax.o,ay.o⟩
     case measure=>rw[ae.o.c 0 _ rfl,aw.o];show 0<r.length;exact ao.o
    .gi_wp2_with fail
     refine bodyPost_ret (results_none rfl _ _ _) rfl ?_
     exact .inl ⟨⟨_,rfl⟩,.inr ⟨_,⟨_,HP.o.symm⟩,ag⟩⟩
    .exact⟨rfl,.inr (.inl ⟨ch,rfl,ah⟩)⟩
end
end Go.Proofs.YtankkcbofgighaaGreatDoor
