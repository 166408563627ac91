import Derived.Test.YtankkcbofgighaaGreatDoorL10
import Derived.Test.YtankkcbofgighaaGreatDoorL18
import Derived.Defers
import Derived.Recover
import Derived.Deep.MidRow
import Derived.Laws.Pointers
import Derived.Deep.DeepCutAuto
import Derived.BigRegion
set_option linter.all false
set_option maxRecDepth 100000
set_option maxHeartbeats 40000000
namespace Go.Proofs.YtankkcbofgighaaGreatDoor
section
open Go.RowKit
open Le
attribute [local go_sem] Oper.semAt_some
def ze2(A:Option Addr)(l:List Int)(c:Nat):Rw:=⟨3,1,.slice A l.length c,l.length,l.flatMap zad⟩
def zrp(ps:List Pq)(s:St)(w:World)(e:Ending)(w':World):Prop:=Below w.heap.size w w'/\∃ R' cs',e=.returned (.agg (bkL R' s).toArray)/\RowsOk R' cs' ps s.b/\cs'.map Ct.of=s.b.cuts/\
 ∃ F b3,w.heap.size<=b3/\MadeF b3 w' F/\(∀ k,k<7->F k=some (R' k))/\∀ i x,cs'[i]?=some x->F (7+i)=some (ze2 x.A x.piece x.c)
theorem zcx{r:Rw}{w:World}(h:r.ok w):∃ A c,r.v=.slice A r.n c:=by
 rcases h.2 with ⟨A,e1,e2⟩|⟨g,cap,cur,e,-⟩
 .exact⟨A,0,by rw[e1,e2]⟩
 .exact⟨_,_,e⟩
theorem zp4{w:World}{b:Nat}{a0 a1 a2 a3 a4 a5 a6 a7 a8 a9 a10 a11 a12:Value}(h:Bx w b [a0,a1,a2,a3,a4,a5,a6,a7,a8,a9,a10,a11,a12]):(loadVar 82 ⟨b,0,none⟩).run Tryz.prog w=.ok (.agg #[a0,a1,a2,a3,a4,a5,a6,a7,a8,a9,a10,a11,a12]) w:=by
 have c0:=h.c 0 _ rfl
 have c1:=h.c 1 _ rfl
 have c2:=h.c 2 _ rfl
 have c3:=h.c 3 _ rfl
 have c4:=h.c 4 _ rfl
 have c5:=h.c 5 _ rfl
 have c6:=h.c 6 _ rfl
 have c7:=h.c 7 _ rfl
 have c8:=h.c 8 _ rfl
 have c9:=h.c 9 _ rfl
 have c10:=h.c 10 _ rfl
 have c11:=h.c 11 _ rfl
 have c12:=h.c 12 _ rfl
 clear h
 go_simp
theorem zaH{fn:Func}{p:Tmp}{ty:TypeId}(h:fn.results=#[.cell p ty]){tmps:Array Value}{P:Program}{w:World}{a:Addr}{v:Value}(hp:tmps.getD p undef=.pointer (some a))(hv:(loadVar ty a).run P w=.ok v w) :
  (results fn tmps).run P w=.ok v w:=by
 have aa:tmps[p]?.getD undef=.pointer (some a):=by simpa using hp
 simp[results,h,aa,asAddr,hv]
theorem MadeF.setAll{b3:Nat}{F:Nat->Option Rw}{b:Nat}(hb:b<=b3):∀(us:List Value) (j:Nat) {W:World},MadeF b3 W F->MadeF b3 (setCells W b j us) F
|[],_,_,h=>h
|u :: us,j,_,h=>MadeF.setAll hb us (j+1) (h.set hb j u)
theorem zac{B b:Nat}{V:World}(hB:B<=b):∀(us:List Value) (j:Nat) {W:World},Below B V W->Below B V (setCells W b j us)
|[],_,_,h=>h
|u :: us,j,_,h=>zac hB us (j+1) (h.setCell (p:=⟨b,j,none⟩) hB u)
theorem zqh{α:Type}{l:List α}{k:Nat}(h:k<l.length):l.drop k=l[k] :: l.drop (k+1):=(List.drop_eq_getElem_cons h)
theorem zpT(pre q:List Cu.Cut)(c:Cu.Cut)(A:Option Addr)(m:Nat):(((pre++c :: q).flatMap Cu.cutL).set (pre.length*3+2) (.slice A c.piece.length m))=((pre++[(⟨c.wide,c.high,c.piece,A,m⟩:Cu.Cut)])++q).flatMap Cu.cutL:=by
 have hl:(pre.flatMap Cu.cutL).length=pre.length*3:=zbr zbC pre
 rw[List.flatMap_append,List.flatMap_append,List.flatMap_append,List.flatMap_cons,List.set_append_right _ _ (by omega),List.append_assoc]
 rw[show pre.length*3+2-(pre.flatMap Cu.cutL).length=2 by omega]
 rfl
structure CpI(cs pre:List Cu.Cut)(g0 b3:Nat)(W:World)(F:Nat->Option Rw):Prop where
 m:MadeF b3 W F
 r0:F 0=some ⟨57,3,.slice (some ⟨g0,0,none⟩) cs.length cs.length,cs.length,(pre++cs.drop pre.length).flatMap Cu.cutL⟩
 no:∀ j,1<=j->j<7->F j=none
 at_:∀ i x,pre[i]?=some x->F (7+i)=some (ze2 x.A x.piece x.c)
 up:∀ j,7+pre.length<=j->F j=none
 eq:pre.map Ct.of=(cs.take pre.length).map Ct.of
def RCp(cs:List Cu.Cut)(g0 b1 b2 b3:Nat)(L1 L2 L3:List Value)(w:World)(iv:Value)(W:World):Prop:=∃ pre F,iv=.int .i64 (pre.length:Int)/\pre.length<=cs.length/\Bx W b1 L1/\Bx W b2 L2/\Bx W b3 L3/\CpI cs pre g0 b3 W F/\Below w.heap.size w W
theorem zg9(R:Nat->Rw)(cs:List Cu.Cut)(ps:List Pq)(s:St)(w:World)(hR:∀ k,k<7->(R k).ok w)(ro:RowsOk R cs ps s.b)(ec:cs.map Ct.of=s.b.cuts)(ca:∀ c∈cs,At w w.heap.size 1 zad c.A c.piece/\c.piece.length<=100000)
  (hl:cs.length<=1000/\s.b.ran.length<=1000/\s.b.made.length<=1000/\s.b.t.loans.length<=1000/\s.b.t.looks.length<=1000/\s.b.t.admits.length<=1000/\ps.length<=1000) :
  Calls Tryz.prog 72 #[.agg (bkL R s).toArray] w (zrp ps s w):=by
 obtain⟨A0,c0,e0,at0,l0⟩:=zbe (hR 0 (by decide)) ro.r0 zbC (by decide)
 obtain⟨A1,c1,e1,at1,l1⟩:=zbe (hR 1 (by decide)) ro.r1 zbp (by decide)
 obtain⟨A2,c2,e2,at2,l2⟩:=zbe (hR 2 (by decide)) ro.r2 zhh (by decide)
 obtain⟨A3,c3,e3,at3,l3⟩:=zbe (hR 3 (by decide)) ro.r3 zbv (by decide)
 obtain⟨A4,c4,e4,at4,l4⟩:=zbe (hR 4 (by decide)) ro.r4 zdt (by decide)
 obtain⟨A5,c5,e5,at5,l5⟩:=zbe (hR 5 (by decide)) ro.r5 zbp (by decide)
 obtain⟨A6,c6,e6,at6,l6⟩:=zbe (hR 6 (by decide)) ro.r6 zcd (by decide)
 have hb:bkL R s=[.int .i64 s.b.hour,.slice A0 cs.length c0,.slice A1 s.b.ran.length c1,.slice A2 s.b.made.length c2,.int .i64 s.b.t.n,.slice A3 s.b.t.loans.length c3,.slice A4 s.b.t.looks.length c4,.slice A5 s.b.t.admits.length c5,.int .i64 s.b.cost,.int .i64 s.plans.length,.bool s.b.opn,.slice A6 ps.length c6,.int .i64 s.planned]:=by
  simp only[bkL,e0,e1,e2,e3,e4,e5,e6]
 rw[hb]
 have H0:=qG at0
 have H1:=qG at1
 have H2:=qG at2
 have H3:=qG at3
 have H4:=qG at4
 have H5:=qG at5
 have H6:=qG at6
 have bQ:=qG ca
 have cL:=qG ec
 have aE:=qG hl
 clear hR ro ec ca hl hb e0 e1 e2 e3 e4 e5 e6 at0 at1 at2 at3 at4 at5 at6 l0 l1 l2 l3 l4 l5 l6
 generalize hvh:s.b.hour=vh at *
 generalize hvp:(s.plans.length:Int)=vp at *
 have cM:=qG hvh
 have cN:=qG hvp
 clear hvh hvp
 go_enter Tryz.func72,Tryz.ntmps72
 go_upto_region 2 with fail
 have au:=qG (((Bx.new w #[.int .i64 vh,.slice A0 cs.length c0,.slice A1 s.b.ran.length c1,.slice A2 s.b.made.length c2,.int .i64 s.b.t.n,.slice A3 s.b.t.loans.length c3,.slice A4 s.b.t.looks.length c4,.slice A5 s.b.t.admits.length c5,.int .i64 s.b.cost,.int .i64 vp,.bool s.b.opn,.slice A6 ps.length c6,.int .i64 s.planned] 82).next (nxA (w.alloc (.cells #[.int .i64 vh,.slice A0 cs.length c0,.slice A1 s.b.ran.length c1,.slice A2 s.b.made.length c2,.int .i64 s.b.t.n,.slice A3 s.b.t.loans.length c3,.slice A4 s.b.t.looks.length c4,.slice A5 s.b.t.admits.length c5,.int .i64 s.b.cost,.int .i64 vp,.bool s.b.opn,.slice A6 ps.length c6,.int .i64 s.planned] 82)) (.cells #[.int .i64 0,.slice none 0 0,.slice none 0 0,.slice none 0 0,.int .i64 0,.slice none 0 0,.slice none 0 0,.slice none 0 0,.int .i64 0,.int .i64 0,.bool false,.slice none 0 0,.int .i64 0] 82))).next (nxA ((w.alloc (.cells #[.int .i64 vh,.slice A0 cs.length c0,.slice A1 s.b.ran.length c1,.slice A2 s.b.made.length c2,.int .i64 s.b.t.n,.slice A3 s.b.t.loans.length c3,.slice A4 s.b.t.looks.length c4,.slice A5 s.b.t.admits.length c5,.int .i64 s.b.cost,.int .i64 vp,.bool s.b.opn,.slice A6 ps.length c6,.int .i64 s.planned] 82)).alloc (.cells #[.int .i64 0,.slice none 0 0,.slice none 0 0,.slice none 0 0,.int .i64 0,.slice none 0 0,.slice none 0 0,.slice none 0 0,.int .i64 0,.int .i64 0,.bool false,.slice none 0 0,.int .i64 0] 82)) (.cells #[.int .i64 vh,.slice A0 cs.length c0,.slice A1 s.b.ran.length c1,.slice A2 s.b.made.length c2,.int .i64 s.b.t.n,.slice A3 s.b.t.loans.length c3,.slice A4 s.b.t.looks.length c4,.slice A5 s.b.t.admits.length c5,.int .i64 s.b.cost,.int .i64 vp,.bool s.b.opn,.slice A6 ps.length c6,.int .i64 s.planned] 82)))
 have az:=qG ((Bx.new (w.alloc (.cells #[.int .i64 vh,.slice A0 cs.length c0,.slice A1 s.b.ran.length c1,.slice A2 s.b.made.length c2,.int .i64 s.b.t.n,.slice A3 s.b.t.loans.length c3,.slice A4 s.b.t.looks.length c4,.slice A5 s.b.t.admits.length c5,.int .i64 s.b.cost,.int .i64 vp,.bool s.b.opn,.slice A6 ps.length c6,.int .i64 s.planned] 82)) #[.int .i64 0,.slice none 0 0,.slice none 0 0,.slice none 0 0,.int .i64 0,.slice none 0 0,.slice none 0 0,.slice none 0 0,.int .i64 0,.int .i64 0,.bool false,.slice none 0 0,.int .i64 0] 82).next (nxA ((w.alloc (.cells #[.int .i64 vh,.slice A0 cs.length c0,.slice A1 s.b.ran.length c1,.slice A2 s.b.made.length c2,.int .i64 s.b.t.n,.slice A3 s.b.t.loans.length c3,.slice A4 s.b.t.looks.length c4,.slice A5 s.b.t.admits.length c5,.int .i64 s.b.cost,.int .i64 vp,.bool s.b.opn,.slice A6 ps.length c6,.int .i64 s.planned] 82)).alloc (.cells #[.int .i64 0,.slice none 0 0,.slice none 0 0,.slice none 0 0,.int .i64 0,.slice none 0 0,.slice none 0 0,.slice none 0 0,.int .i64 0,.int .i64 0,.bool false,.slice none 0 0,.int .i64 0] 82)) (.cells #[.int .i64 vh,.slice A0 cs.length c0,.slice A1 s.b.ran.length c1,.slice A2 s.b.made.length c2,.int .i64 s.b.t.n,.slice A3 s.b.t.loans.length c3,.slice A4 s.b.t.looks.length c4,.slice A5 s.b.t.admits.length c5,.int .i64 s.b.cost,.int .i64 vp,.bool s.b.opn,.slice A6 ps.length c6,.int .i64 s.planned] 82)))
 have aw:=qG (Bx.new ((w.alloc (.cells #[.int .i64 vh,.slice A0 cs.length c0,.slice A1 s.b.ran.length c1,.slice A2 s.b.made.length c2,.int .i64 s.b.t.n,.slice A3 s.b.t.loans.length c3,.slice A4 s.b.t.looks.length c4,.slice A5 s.b.t.admits.length c5,.int .i64 s.b.cost,.int .i64 vp,.bool s.b.opn,.slice A6 ps.length c6,.int .i64 s.planned] 82)).alloc (.cells #[.int .i64 0,.slice none 0 0,.slice none 0 0,.slice none 0 0,.int .i64 0,.slice none 0 0,.slice none 0 0,.slice none 0 0,.int .i64 0,.int .i64 0,.bool false,.slice none 0 0,.int .i64 0] 82)) #[.int .i64 vh,.slice A0 cs.length c0,.slice A1 s.b.ran.length c1,.slice A2 s.b.made.length c2,.int .i64 s.b.t.n,.slice A3 s.b.t.loans.length c3,.slice A4 s.b.t.looks.length c4,.slice A5 s.b.t.admits.length c5,.int .i64 s.b.cost,.int .i64 vp,.bool s.b.opn,.slice A6 ps.length c6,.int .i64 s.planned] 82)
 have HB:=qG (((nxA w (.cells #[.int .i64 vh,.slice A0 cs.length c0,.slice A1 s.b.ran.length c1,.slice A2 s.b.made.length c2,.int .i64 s.b.t.n,.slice A3 s.b.t.loans.length c3,.slice A4 s.b.t.looks.length c4,.slice A5 s.b.t.admits.length c5,.int .i64 s.b.cost,.int .i64 vp,.bool s.b.opn,.slice A6 ps.length c6,.int .i64 s.planned] 82)).trans ((nxA (w.alloc (.cells #[.int .i64 vh,.slice A0 cs.length c0,.slice A1 s.b.ran.length c1,.slice A2 s.b.made.length c2,.int .i64 s.b.t.n,.slice A3 s.b.t.loans.length c3,.slice A4 s.b.t.looks.length c4,.slice A5 s.b.t.admits.length c5,.int .i64 s.b.cost,.int .i64 vp,.bool s.b.opn,.slice A6 ps.length c6,.int .i64 s.planned] 82)) (.cells #[.int .i64 0,.slice none 0 0,.slice none 0 0,.slice none 0 0,.int .i64 0,.slice none 0 0,.slice none 0 0,.slice none 0 0,.int .i64 0,.int .i64 0,.bool false,.slice none 0 0,.int .i64 0] 82)).mono (nxA w (.cells #[.int .i64 vh,.slice A0 cs.length c0,.slice A1 s.b.ran.length c1,.slice A2 s.b.made.length c2,.int .i64 s.b.t.n,.slice A3 s.b.t.loans.length c3,.slice A4 s.b.t.looks.length c4,.slice A5 s.b.t.admits.length c5,.int .i64 s.b.cost,.int .i64 vp,.bool s.b.opn,.slice A6 ps.length c6,.int .i64 s.planned] 82)).size)).trans ((nxA ((w.alloc (.cells #[.int .i64 vh,.slice A0 cs.length c0,.slice A1 s.b.ran.length c1,.slice A2 s.b.made.length c2,.int .i64 s.b.t.n,.slice A3 s.b.t.loans.length c3,.slice A4 s.b.t.looks.length c4,.slice A5 s.b.t.admits.length c5,.int .i64 s.b.cost,.int .i64 vp,.bool s.b.opn,.slice A6 ps.length c6,.int .i64 s.planned] 82)).alloc (.cells #[.int .i64 0,.slice none 0 0,.slice none 0 0,.slice none 0 0,.int .i64 0,.slice none 0 0,.slice none 0 0,.slice none 0 0,.int .i64 0,.int .i64 0,.bool false,.slice none 0 0,.int .i64 0] 82)) (.cells #[.int .i64 vh,.slice A0 cs.length c0,.slice A1 s.b.ran.length c1,.slice A2 s.b.made.length c2,.int .i64 s.b.t.n,.slice A3 s.b.t.loans.length c3,.slice A4 s.b.t.looks.length c4,.slice A5 s.b.t.admits.length c5,.int .i64 s.b.cost,.int .i64 vp,.bool s.b.opn,.slice A6 ps.length c6,.int .i64 s.planned] 82)).mono (Nat.le_trans (nxA w (.cells #[.int .i64 vh,.slice A0 cs.length c0,.slice A1 s.b.ran.length c1,.slice A2 s.b.made.length c2,.int .i64 s.b.t.n,.slice A3 s.b.t.loans.length c3,.slice A4 s.b.t.looks.length c4,.slice A5 s.b.t.admits.length c5,.int .i64 s.b.cost,.int .i64 vp,.bool s.b.opn,.slice A6 ps.length c6,.int .i64 s.planned] 82)).size (nxA (w.alloc (.cells #[.int .i64 vh,.slice A0 cs.length c0,.slice A1 s.b.ran.length c1,.slice A2 s.b.made.length c2,.int .i64 s.b.t.n,.slice A3 s.b.t.loans.length c3,.slice A4 s.b.t.looks.length c4,.slice A5 s.b.t.admits.length c5,.int .i64 s.b.cost,.int .i64 vp,.bool s.b.opn,.slice A6 ps.length c6,.int .i64 s.planned] 82)) (.cells #[.int .i64 0,.slice none 0 0,.slice none 0 0,.slice none 0 0,.int .i64 0,.slice none 0 0,.slice none 0 0,.slice none 0 0,.int .i64 0,.int .i64 0,.bool false,.slice none 0 0,.int .i64 0] 82)).size)))
 rw[show(w.alloc (.cells #[.int .i64 vh,.slice A0 cs.length c0,.slice A1 s.b.ran.length c1,.slice A2 s.b.made.length c2,.int .i64 s.b.t.n,.slice A3 s.b.t.loans.length c3,.slice A4 s.b.t.looks.length c4,.slice A5 s.b.t.admits.length c5,.int .i64 s.b.cost,.int .i64 vp,.bool s.b.opn,.slice A6 ps.length c6,.int .i64 s.planned] 82)).heap.size=w.heap.size+1 by simp] at az
 rw[show((w.alloc (.cells #[.int .i64 vh,.slice A0 cs.length c0,.slice A1 s.b.ran.length c1,.slice A2 s.b.made.length c2,.int .i64 s.b.t.n,.slice A3 s.b.t.loans.length c3,.slice A4 s.b.t.looks.length c4,.slice A5 s.b.t.admits.length c5,.int .i64 s.b.cost,.int .i64 vp,.bool s.b.opn,.slice A6 ps.length c6,.int .i64 s.planned] 82)).alloc (.cells #[.int .i64 0,.slice none 0 0,.slice none 0 0,.slice none 0 0,.int .i64 0,.slice none 0 0,.slice none 0 0,.slice none 0 0,.int .i64 0,.int .i64 0,.bool false,.slice none 0 0,.int .i64 0] 82)).heap.size=w.heap.size+1+1 by simp] at aw
 generalize(((w.alloc (.cells #[.int .i64 vh,.slice A0 cs.length c0,.slice A1 s.b.ran.length c1,.slice A2 s.b.made.length c2,.int .i64 s.b.t.n,.slice A3 s.b.t.loans.length c3,.slice A4 s.b.t.looks.length c4,.slice A5 s.b.t.admits.length c5,.int .i64 s.b.cost,.int .i64 vp,.bool s.b.opn,.slice A6 ps.length c6,.int .i64 s.planned] 82)).alloc (.cells #[.int .i64 0,.slice none 0 0,.slice none 0 0,.slice none 0 0,.int .i64 0,.slice none 0 0,.slice none 0 0,.slice none 0 0,.int .i64 0,.int .i64 0,.bool false,.slice none 0 0,.int .i64 0] 82)).alloc (.cells #[.int .i64 vh,.slice A0 cs.length c0,.slice A1 s.b.ran.length c1,.slice A2 s.b.made.length c2,.int .i64 s.b.t.n,.slice A3 s.b.t.loans.length c3,.slice A4 s.b.t.looks.length c4,.slice A5 s.b.t.admits.length c5,.int .i64 s.b.cost,.int .i64 vp,.bool s.b.opn,.slice A6 ps.length c6,.int .i64 s.planned] 82))=V at *
 obtain⟨b1,bi⟩:∃ b,b=w.heap.size:=⟨_,rfl⟩
 obtain⟨b2,bj⟩:∃ b,b=w.heap.size+1:=⟨_,rfl⟩
 obtain⟨b3,bk⟩:∃ b,b=w.heap.size+1+1:=⟨_,rfl⟩
 rw[<- bk,<- bj,<- bi]
 rw[<- bi] at au
 rw[<- bj] at az
 rw[<- bk] at aw
 have bp:=qG bi
 have aM:=qG bj
 have aq:=qG bk
 clear bi bj bk
 generalize Value.agg #[.int .i64 vh,.slice A0 cs.length c0,.slice A1 s.b.ran.length c1,.slice A2 s.b.made.length c2,.int .i64 s.b.t.n,.slice A3 s.b.t.loans.length c3,.slice A4 s.b.t.looks.length c4,.slice A5 s.b.t.admits.length c5,.int .i64 s.b.cost,.int .i64 vp,.bool s.b.opn,.slice A6 ps.length c6,.int .i64 s.planned]=vB at *
 obtain⟨i0,hi,bR,bS,bT⟩:=zbd zle
 have a9:=aE.o.1
 have cO:∀ W:World,(Instr.makeSlice 34 (.int .i64 (cs.length:Int)) (.int .i64 (cs.length:Int))).run Tryz.prog W=.ok (.slice (some ⟨W.heap.size,0,none⟩) cs.length cs.length) (W.alloc (.cells (madeCells #[.int .i64 0,.int .i64 0,.slice none 0 0] (cs.length*3)) 57)):=fun W=>by
  have:=run_make (P:=Tryz.prog) W 34 57 i0 (.agg #[.int .i64 0,.int .i64 0,.slice none 0 0]) Tryz.underlying34 hi bR .i64 .i64 cs.length cs.length (by omega) (by omega) (by rw[bT];omega) (by omega)
  simpa [Value.cells,bS] using this
 have bU:=qG (show Rw.ok ⟨57,3,.slice (some ⟨V.heap.size,0,none⟩) cs.length cs.length,cs.length,(madeCells #[.int .i64 0,.int .i64 0,.slice none 0 0] (cs.length*3)).toList⟩ (V.alloc (.cells (madeCells #[.int .i64 0,.int .i64 0,.slice none 0 0] (cs.length*3)) 57)) from Rw.ok.of_own (World.ownsRow_lit (base:=0) (e:=57) (size:=3) V (madeCells #[.int .i64 0,.int .i64 0,.slice none 0 0] (cs.length*3)) cs.length (Nat.zero_le _) (by unfold maxLen;omega) (size_madeCells _ _)))
 have ar:=nxA V (.cells (madeCells #[.int .i64 0,.int .i64 0,.slice none 0 0] (cs.length*3)) 57)
 have yv:=au.o.c 1 _ rfl
 have aN:=qG (aw.o.lt)
 have aj:=qG (au.o.next ar)
 have an:=qG (az.o.next ar)
 have ai:=qG (aw.o.next ar)
 have aO:=qG (aj.o.other (g:=b3) (by rw[bp.o,aq.o];omega) 1 (.slice (some ⟨V.heap.size,0,none⟩) cs.length cs.length))
 have bq:=qG (an.o.other (g:=b3) (by rw[aM.o,aq.o];omega) 1 (.slice (some ⟨V.heap.size,0,none⟩) cs.length cs.length))
 have aP:=qG (ai.o.set (k:=1) (by simp) (.slice (some ⟨V.heap.size,0,none⟩) cs.length cs.length))
 have bu:=qG ((HB.o.trans (ar.mono HB.o.size)).setCell (p:=⟨b3,1,none⟩) (by show w.heap.size<=b3;rw[aq.o];omega) (.slice (some ⟨V.heap.size,0,none⟩) cs.length cs.length))
 have bV:=qG (bU.o.grown (zaq (V.alloc (.cells (madeCells #[.int .i64 0,.int .i64 0,.slice none 0 0] (cs.length*3)) 57)) b3 1 (.slice (some ⟨V.heap.size,0,none⟩) cs.length cs.length)) (fun g hg e=>by injection e with e;have h1:=aN.o;have h2:V.heap.size=g:=(by cases hn:cs.length with|zero=>(rw[hn] at hg;cases hg)|succ n=>(rw[hn] at hg;injection hg));omega))
 have x3:=ai.o.lt
 have y1:=aj.o.c 1 _ rfl
 have z1:=ai.o.c 1 _ rfl
 have f1:=ai.o.fr 1
 clear hi bR bS bT a9 ar aj an ai au az aw bU
 go_upto_region 3 with fail
 have bW:=qG (show w.heap.size<=((V.alloc (.cells (madeCells #[.int .i64 0,.int .i64 0,.slice none 0 0] (cs.length*3)) 57)).setCell ⟨b3,1,none⟩ (.slice (some ⟨V.heap.size,0,none⟩) cs.length cs.length)).heap.size from bu.o.size)
 generalize(V.alloc (.cells (madeCells #[.int .i64 0,.int .i64 0,.slice none 0 0] (cs.length*3)) 57)).setCell ⟨b3,1,none⟩ (.slice (some ⟨V.heap.size,0,none⟩) cs.length cs.length)=V2 at *
 clear x3 y1 z1 f1 yv cO
 have y1:=aO.o.c 1 _ rfl
 have z1:=aP.o.c 1 _ rfl
 obtain⟨w9,cF,bX,bY⟩:=zi7 (w:=V2) 34 34 3 57 3 Tryz.underlying34 (by kernel_rfl) zbC (by decide) zqm V.heap.size A0 cs c0 w.heap.size (H0.o.below bu.o) bV.o
 have bZ:=qG bX
 have aV:=qG bY
 clear bX bY
 go_upto_region 4 with (fail)
 clear cF
 have aI:=qG (show b3<V.heap.size from aN.o)
 replace aO:=qG (aO.o.grown aV.o (fun e=>by injection e with e;have:=aN.o;have:=bp.o;have:=aq.o;omega))
 replace bq:=qG (bq.o.grown aV.o (fun e=>by injection e with e;have:=aN.o;have:=aM.o;have:=aq.o;omega))
 replace aP:=qG (aP.o.grown aV.o (fun e=>by injection e with e;have:=aN.o;omega))
 have HM:=qG (MadeF.one (b3:=b3) bZ.o (fun g hg=>by have h1:=aN.o;have h2:V.heap.size=g:=(by cases hn:cs.length with|zero=>(rw[hn] at hg;cases hg)|succ n=>(rw[hn] at hg;injection hg));omega) 0)
 replace HB:=qG (bu.o.grown aV.o bW.o (fun k e=>by injection e with e;subst e;exact HB.o.size))
 generalize V.heap.size=g0 at *
 clear aV bZ bV bu y1 z1 bW
 replace au:=aO
 have HI:=qG (show CpI cs [] g0 b3 w9 (upF (fun _=>none) 0 ⟨57,3,.slice (some ⟨g0,0,none⟩) cs.length cs.length,cs.length,cs.flatMap Cu.cutL⟩) from⟨HM.o,rfl,fun j h1 _=>zav _ _ (by omega),fun i x h=>by simp at h,fun j h=>zav _ _ (by simp at h;omega),rfl⟩)
 have z1:=aP.o.c 1 _ rfl
 have a9:=aE.o.1
 go_wp2_with fail
 clear z1
 go_loopw [25] (fun iv wr=>RCp cs g0 b1 b2 b3 [.int .i64 vh,.slice A0 cs.length c0,.slice A1 s.b.ran.length c1,.slice A2 s.b.made.length c2,.int .i64 s.b.t.n,.slice A3 s.b.t.loans.length c3,.slice A4 s.b.t.looks.length c4,.slice A5 s.b.t.admits.length c5,.int .i64 s.b.cost,.int .i64 vp,.bool s.b.opn,.slice A6 ps.length c6,.int .i64 s.planned] [.int .i64 0,.slice none 0 0,.slice none 0 0,.slice none 0 0,.int .i64 0,.slice none 0 0,.slice none 0 0,.slice none 0 0,.int .i64 0,.int .i64 0,.bool false,.slice none 0 0,.int .i64 0] [.int .i64 vh,.slice (some ⟨g0,0,none⟩) cs.length cs.length,.slice A1 s.b.ran.length c1,.slice A2 s.b.made.length c2,.int .i64 s.b.t.n,.slice A3 s.b.t.loans.length c3,.slice A4 s.b.t.looks.length c4,.slice A5 s.b.t.admits.length c5,.int .i64 s.b.cost,.int .i64 vp,.bool s.b.opn,.slice A6 ps.length c6,.int .i64 s.planned] w iv wr) (fun iv _=>cs.length-(intOf iv).toNat)
 case atStart=>exact⟨[],_,rfl,Nat.zero_le _,aO.o,bq.o,aP.o,HI.o,HB.o⟩
 case round=>
  obtain⟨pre,F,rfl,hk,b0,b7,b8,hi,hb⟩:=hrel
  have aj:=qG b0
  have an:=qG b7
  have ai:=qG b8
  have am:=qG hi
  have ag:=qG hb
  clear b0 b7 b8 hi hb HI aO bq aP HB HM
  by_cases hlt:pre.length<cs.length
  .have hd:=zqh hlt
   have bz:=List.getElem_mem hlt
   have bA:=List.take_succ_eq_append_getElem hlt
   generalize cs[pre.length]=c at hd bz bA
   have HD:=qG hd
   have cb:=qG bz
   have cP:=qG bA
   obtain⟨g,eg,-,-,-⟩:=Rw.ok.cell (am.o.m.ok 0 _ am.o.r0).1 (j:=pre.length*3) (u:=.int .i64 c.wide) (by show((pre++cs.drop pre.length).flatMap Cu.cutL)[pre.length*3]?=_;rw[hd];exact zaO zbC (pre++c :: cs.drop (pre.length+1)) pre.length c 0 _ (by simp) rfl)
   have bv:=qG (show blk (.slice (some ⟨g0,0,none⟩) cs.length cs.length)=some g0 by cases hn:cs.length with|zero=>omega|succ n=>rfl)
   have aH:∀ j u,(Cu.cutL c)[j]?=some u->wr.cell? ⟨g0,pre.length*3+j,none⟩=some u/\wr.frozen? ⟨g0,pre.length*3+j,none⟩=false:=fun j u hu=>by
    obtain⟨g,e1,-,e3,e4⟩:=Rw.ok.cell (am.o.m.ok 0 _ am.o.r0).1 (j:=pre.length*3+j) (u:=u) (by show((pre++cs.drop pre.length).flatMap Cu.cutL)[pre.length*3+j]?=_;rw[hd];exact zaO zbC (pre++c :: cs.drop (pre.length+1)) pre.length c j u (by simp) hu)
    have:g=g0:=Option.some.inj (e1.symm.trans bv.o)
    subst this
    exact⟨e3,e4⟩
   have k0:=(aH 0 _ rfl).1
   have k1:=(aH 1 _ rfl).1
   have k2:=(aH 2 _ rfl).1
   rw[Nat.add_zero] at k0
   have cd:(pre.length:Int)<(cs.length:Int):=by omega
   have cQ:g0<wr.heap.size:=am.o.m.lt am.o.r0 bv.o
   clear aH hd bz bA
   go_upto_region 7 with (fail)
   have ar:=nxA wr (.cells #[.int .i64 c.wide,.int .i64 c.high,.slice c.A c.piece.length c.c] 57)
   have bB:=qG (Bx.new wr #[.int .i64 c.wide,.int .i64 c.high,.slice c.A c.piece.length c.c] 57)
   have cR:=qG (show wr.heap.size<(wr.alloc (.cells #[.int .i64 c.wide,.int .i64 c.high,.slice c.A c.piece.length c.c] 57)).heap.size by simp)
   generalize(wr.alloc (.cells #[.int .i64 c.wide,.int .i64 c.high,.slice c.A c.piece.length c.c] 57))=W5 at *
   replace aj:=qG (aj.o.next ar)
   replace an:=qG (an.o.next ar)
   replace ai:=qG (ai.o.next ar)
   have cf:=qG (am.o.m.below ar)
   replace ag:=qG (ag.o.trans (ar.mono ag.o.size))
   have ao:=qG (show w.heap.size<=b3 by rw[aq.o];omega)
   clear ar k0 k1 k2
   have cS:g0<W5.heap.size:=by have:=cR.o;omega
   obtain⟨b5,cg⟩:∃ b,b=wr.heap.size:=⟨_,rfl⟩
   rw[<- cg] at bB ⊢
   have aF:=qG (show g0<b5 by omega)
   have aJ:=qG (show b3<b5 by have:=aI.o;omega)
   clear cg cQ
   have bC:=qG (ai.o.c 1 _ rfl)
   have bD:=qG (bB.o.c 2 _ rfl)
   refine wp_region_noPanic ?_
   refine wp_region_held_drew (S:=(fun W=>W.cell? ⟨b3,1,none⟩=some (.slice (some ⟨g0,0,none⟩) cs.length cs.length)/\W.cell? ⟨b5,2,none⟩=some (.slice c.A c.piece.length c.c))) (by kernel_rfl) ?_ (fun aa=>?_)
   ·(try dsimp only);exact⟨bC.o,bD.o⟩
   refine ht 0 (h:=?_)
   refine ht 1 (h:=?_)
   refine ht 2 (h:=?_)
   refine ht 3 (h:=?_)
   refine ht 4 (h:=?_)
   refine ht 5 (h:=?_)
   refine r1 (i:=6) (by kernel_rfl) rfl fun K hK=>?_
   go_simp
   refine(zc4 c.A c.c c.piece _ (bQ.o c cb.o).2 (((bQ.o c cb.o).1.below ag.o.drew).more ag.o.drew.size)).mono ?_;rintro e V ⟨v,rfl,ab,af,ae⟩;obtain⟨A,m,hv⟩:=zcx ab;have hv:v=.slice A c.piece.length m:=hv;subst hv;have aG:=qG (show Below W5.heap.size W5 V from(Below.refl _ W5).drew.trans ae);have cT:=qG (cf.o.put aG.o (Nat.lt_trans aI.o cS) (7+pre.length) ab af);have cU:=qG (Rw.ok.cell (cf.o.below aG.o |>.ok 0 _ am.o.r0).1 (j:=pre.length*3+2) (u:=.slice c.A c.piece.length c.c) (by show((pre++cs.drop pre.length).flatMap Cu.cutL)[pre.length*3+2]?=_;rw[HD.o];exact zaO zbC (pre++c :: cs.drop (pre.length+1)) pre.length c 2 _ (by simp) rfl));obtain⟨gq,eq1,-,cV,cW⟩:=cU.o;obtain rfl:g0=gq:=(Option.some.inj (eq1.symm.trans bv.o)).symm;clear ab af ae eq1
   refine hK.out _ _ ?_ (fun aa=>?_)
   ·(try dsimp only);exact⟨(aG.o.cell (p:=⟨b3,1,none⟩) ai.o.lt).trans bC.o,(aG.o.cell (p:=⟨b5,2,none⟩) bB.o.lt).trans bD.o⟩
   clear hK K
   try simp only[qW]
   refine ht 7 (h:=?_)
   refine ht 8 (h:=?_)
   refine r1 (i:=9) (by kernel_rfl) rfl fun K hK=>?_
   go_simp
   refine hK.out _ _ ?_ (fun aa=>?_)
   ·(try dsimp only);exact⟨(qA _ _ _ _ (by intro e;injection e with e;have:=aI.o;omega)).trans aa.1,(qA _ _ _ _ (by intro e;injection e with e;have:=aF.o;omega)).trans aa.2⟩
   clear hK K
   try simp only[qW]
   refine wpAnyH_done (by kernel_rfl) ?_ _
   refine NoPanic.normal ?_
   iterate 11 (try clear aa)
   have ci:=qG (show pre.length*3+2<((pre++cs.drop pre.length).flatMap Cu.cutL).length from by rw[zbr zbC,qD,List.length_drop];omega)
   have HF:=qG (cT.o.cell (k:=0) (by rw[zav _ _ (by omega)];exact am.o.r0) bv.o (j:=pre.length*3+2) ci.o (.slice A c.piece.length m))
   have cX:=qG (show CpI cs (pre++[⟨c.wide,c.high,c.piece,A,m⟩]) g0 b3 _ _ from⟨HF.o,by
    rw[zbW]
    show some (Rw.mk _ _ _ _ _)=_
    rw[HD.o,zpT,qD]
    rfl,fun j h1 h2=>by rw[zav _ _ (by omega),zav _ _ (by omega)];exact am.o.no j h1 h2,fun i x hx=>by
    rw[zav _ _ (by omega)]
    by_cases hi:i=pre.length
    .subst hi
     rw[List.getElem?_append_right (qQ _),Nat.sub_self] at hx
     injection hx with hx
     subst hx
     rw[zbW];rfl
    .have:i<(pre++[(⟨c.wide,c.high,c.piece,A,m⟩:Cu.Cut)]).length:=(qO.1 hx).1
     rw[qD,List.length_singleton] at this
     rw[List.getElem?_append_left (by omega)] at hx
     rw[zav _ _ (by omega)]
     exact am.o.at_ i x hx,fun j h=>by
    rw[qD,List.length_singleton] at h
    rw[zav _ _ (by omega),zav _ _ (by omega)]
    exact am.o.up j (by omega),by
    rw[qD,List.length_singleton,cP.o,List.map_append,List.map_append,am.o.eq];rfl⟩)
   have HG:=qG (zaq V g0 (pre.length*3+2) (.slice A c.piece.length m))
   have cG:=qG ((aj.o.next aG.o).grown HG.o (fun e=>by injection e with e;have:=aI.o;have:=bp.o;have:=aq.o;omega))
   have cH:=qG ((an.o.next aG.o).grown HG.o (fun e=>by injection e with e;have:=aI.o;have:=aM.o;have:=aq.o;omega))
   have cI:=qG ((ai.o.next aG.o).grown HG.o (fun e=>by injection e with e;have:=aI.o;omega))
   have cJ:=qG ((ag.o.trans (aG.o.mono ag.o.size)).setCell (p:=⟨g0,pre.length*3+2,none⟩) (by show _<=g0;have:=aI.o;have:=ao.o;omega) (.slice A c.piece.length m))
   clear hv cV cW HF HG ci
   generalize(V.setCell ⟨g0,pre.length*3+2,none⟩ (.slice A c.piece.length m))=V6 at *
   go_wp2_with fail
   exact⟨⟨_,_,by simp,by simp;omega,cG.o,cH.o,cI.o,cX.o,cJ.o⟩,by simp[intOf];omega⟩
  .obtain bw:pre.length=cs.length:=by omega
   have cd:¬(pre.length:Int)<(cs.length:Int):=by omega
   have cY:=qG (show pre.map Ct.of=s.b.cuts from by have:=am.o.eq;rw[bw,List.take_length,cL.o] at this;exact this)
   have cZ:=qG (show F 0=some ⟨57,3,.slice (some ⟨g0,0,none⟩) cs.length cs.length,cs.length,pre.flatMap Cu.cutL⟩ from by have:=am.o.r0;rwa[bw,List.drop_length,List.append_nil] at this)
   have cj:=qG bw
   clear bw hlt
   go_upto_region 9 with fail
   have ao:=qG (show w.heap.size<=b3 by rw[aq.o];omega)
   have ah:=qG (show b1≠b3 by rw[bp.o,aq.o];omega)
   have aB:=qG (show b2≠b3 by rw[aM.o,aq.o];omega)
   clear cd hk a9
   have cm:=qG (aj.o.c 2 _ rfl)
   have cn:=qG (aj.o.c 3 _ rfl)
   have aA:=qG am.o.m
   refine wp_region_noPanic ?_
   refine wp_region_held_drew (S:=(fun W=>W.cell? ⟨b1,2,none⟩=some (.slice A1 s.b.ran.length c1)/\W.cell? ⟨b1,3,none⟩=some (.slice A2 s.b.made.length c2))) (by kernel_rfl) ?_ (fun aa=>?_)
   ·(try dsimp only);exact⟨cm.o,cn.o⟩
   refine ht 0 (h:=?_)
   refine ht 1 (h:=?_)
   refine ht 2 (h:=?_)
   refine ht 4 (h:=?_)
   refine ht 5 (h:=?_)
   refine ht 6 (h:=?_)
   refine r1 (i:=3) (by kernel_rfl) rfl fun K hK=>?_
   go_simp
   refine(zc4 A1 c1 s.b.ran _ (Nat.le_trans aE.o.2.1 (by decide)) ((H1.o.below ag.o.drew).more ag.o.drew.size)).mono ?_;rintro e V1 ⟨v1,rfl,ab,af,ae⟩;obtain⟨B1,m1,bE⟩:=zcx ab;have bE:v1=.slice B1 s.b.ran.length m1:=bE;subst bE;have aQ:=qG (show Below wr.heap.size wr V1 from(Below.refl _ wr).drew.trans ae);have aW:=qG (ag.o.trans (aQ.o.mono ag.o.size));have cp:=qG (aA.o.put aQ.o ai.o.lt 1 ab af);have aT:=qG (aj.o.next aQ.o);have bF:=qG (an.o.next aQ.o);have ba:=qG (ai.o.next aQ.o);clear ab af ae
   refine hK.out _ _ ?_ (fun aa=>?_)
   ·(try dsimp only);exact⟨aT.o.c 2 _ rfl,aT.o.c 3 _ rfl⟩
   clear hK K
   try simp only[qW]
   refine ht 8 (h:=?_)
   refine ht 9 (h:=?_)
   refine r1 (i:=7) (by kernel_rfl) rfl fun K hK=>?_
   go_simp
   refine(zkf A2 c2 s.b.made _ (Nat.le_trans aE.o.2.2.1 (by decide)) ((H2.o.below aW.o).more aW.o.size)).mono ?_;rintro e V2 ⟨v2,rfl,ab,af,ae⟩;obtain⟨B2,m2,bG⟩:=zcx ab;have bG:v2=.slice B2 s.b.made.length m2:=bG;subst bG;have aR:=qG (show Below V1.heap.size V1 V2 from ae);have cq:=qG (aW.o.trans (aR.o.mono aW.o.size));have cr:=qG (cp.o.put aR.o ba.o.lt 2 ab af);have aC:=qG (aT.o.next aR.o);have bH:=qG (bF.o.next aR.o);have aD:=qG (ba.o.next aR.o);clear ab af ae;have t2:=aD.o.c 2 _ rfl;have u2:=aD.o.fr 2;have q2:=aC.o.c 2 _ rfl;have t3:=aD.o.c 3 _ rfl;have u3:=aD.o.fr 3;have q3:=aC.o.c 3 _ rfl
   refine hK.out _ _ ?_ (fun aa=>?_)
   ·(try dsimp only);exact⟨aC.o.c 2 _ rfl,aC.o.c 3 _ rfl⟩
   clear hK K
   try simp only[qW]
   refine r1 (i:=10) (by kernel_rfl) rfl fun K hK=>?_
   go_simp
   refine hK.out _ _ ?_ (fun aa=>?_)
   ·(try dsimp only);exact⟨(qA _ _ _ _ (by intro e;injection e with e;exact ah.o e.symm)).trans aa.1,(qA _ _ _ _ (by intro e;injection e with e;exact ah.o e.symm)).trans aa.2⟩
   clear hK K
   try simp only[qW]
   refine ht 11 (h:=?_)
   refine ht 12 (h:=?_)
   refine r1 (i:=13) (by kernel_rfl) rfl fun K hK=>?_
   go_simp
   refine hK.out _ _ ?_ (fun aa=>?_)
   ·(try dsimp only);exact⟨(qA _ _ _ _ (by intro e;injection e with e;exact ah.o e.symm)).trans aa.1,(qA _ _ _ _ (by intro e;injection e with e;exact ah.o e.symm)).trans aa.2⟩
   clear hK K
   try simp only[qW]
   refine wpAnyH_done (by kernel_rfl) ?_ _
   refine NoPanic.normal ?_
   iterate 15 (try clear aa)
   have au:=qG (((aC.o).other (g:=b3) ah.o 2 (.slice B1 s.b.ran.length m1)).other (g:=b3) ah.o 3 (.slice B2 s.b.made.length m2))
   have az:=qG (((bH.o).other (g:=b3) aB.o 2 (.slice B1 s.b.ran.length m1)).other (g:=b3) aB.o 3 (.slice B2 s.b.made.length m2))
   have aw:=qG (((aD.o).set (k:=2) (by simp) (.slice B1 s.b.ran.length m1)).set (k:=3) (by simp) (.slice B2 s.b.made.length m2))
   have aX:=qG (((cr.o).set (qQ b3) 2 (.slice B1 s.b.ran.length m1)).set (qQ b3) 3 (.slice B2 s.b.made.length m2))
   have aY:=qG (((cq.o).setCell (p:=⟨b3,2,none⟩) ao.o (.slice B1 s.b.ran.length m1)).setCell (p:=⟨b3,3,none⟩) ao.o (.slice B2 s.b.made.length m2))
   generalize((V2.setCell ⟨b3,2,none⟩ (.slice B1 s.b.ran.length m1)).setCell ⟨b3,3,none⟩ (.slice B2 s.b.made.length m2))=wz at *
   clear t2 u2 q2 t3 u3 q3
   clear aR cq cr aC bH aD aQ aW cp aT bF ba
   clear cm cn aj an ai aA ag
   have aj:=au
   have an:=az
   have ai:=aw
   have aA:=aX
   have ag:=aY
   clear au az aw aX aY
   obtain⟨wr,aZ⟩:∃ W,W=wz:=⟨_,rfl⟩
   rw[<- aZ] at aj an ai aA ag ⊢
   clear aZ
   go_upto_region 10 with fail
   have cv:=qG (aj.o.c 5 _ rfl)
   have cw:=qG (aj.o.c 6 _ rfl)
   have cx:=qG (aj.o.c 7 _ rfl)
   refine wp_region_noPanic ?_
   refine wp_region_held_drew (S:=(fun W=>W.cell? ⟨b1,5,none⟩=some (.slice A3 s.b.t.loans.length c3)/\W.cell? ⟨b1,6,none⟩=some (.slice A4 s.b.t.looks.length c4)/\W.cell? ⟨b1,7,none⟩=some (.slice A5 s.b.t.admits.length c5))) (by kernel_rfl) ?_ (fun aa=>?_)
   ·(try dsimp only);exact⟨cv.o,cw.o,cx.o⟩
   refine ht 0 (h:=?_)
   refine ht 1 (h:=?_)
   refine ht 2 (h:=?_)
   refine ht 3 (h:=?_)
   refine ht 5 (h:=?_)
   refine ht 6 (h:=?_)
   refine ht 7 (h:=?_)
   refine ht 8 (h:=?_)
   refine ht 10 (h:=?_)
   refine ht 11 (h:=?_)
   refine ht 12 (h:=?_)
   refine ht 13 (h:=?_)
   refine r1 (i:=4) (by kernel_rfl) rfl fun K hK=>?_
   go_simp
   refine(zhQ A3 c3 s.b.t.loans _ (Nat.le_trans aE.o.2.2.2.1 (by decide)) ((H3.o.below ag.o.drew).more ag.o.drew.size)).mono ?_;rintro e V3 ⟨v3,rfl,ab,af,ae⟩;obtain⟨B3,m3,bI⟩:=zcx ab;have bI:v3=.slice B3 s.b.t.loans.length m3:=bI;subst bI;have aJ:=qG (show Below wr.heap.size wr V3 from(Below.refl _ wr).drew.trans ae);have a7:=qG (ag.o.trans (aJ.o.mono ag.o.size));have cy:=qG (aA.o.put aJ.o ai.o.lt 3 ab af);have aK:=qG (aj.o.next aJ.o);have bJ:=qG (an.o.next aJ.o);have bf:=qG (ai.o.next aJ.o);clear ab af ae
   refine hK.out _ _ ?_ (fun aa=>?_)
   ·(try dsimp only);exact⟨aK.o.c 5 _ rfl,aK.o.c 6 _ rfl,aK.o.c 7 _ rfl⟩
   clear hK K
   try simp only[qW]
   refine ht 15 (h:=?_)
   refine ht 16 (h:=?_)
   refine ht 17 (h:=?_)
   refine r1 (i:=9) (by kernel_rfl) rfl fun K hK=>?_
   go_simp
   refine(zhP A4 c4 s.b.t.looks _ (Nat.le_trans aE.o.2.2.2.2.1 (by decide)) ((H4.o.below a7.o).more a7.o.size)).mono ?_;rintro e V4 ⟨v4,rfl,ab,af,ae⟩;obtain⟨B4,m4,bK⟩:=zcx ab;have bK:v4=.slice B4 s.b.t.looks.length m4:=bK;subst bK;have aS:=qG (show Below V3.heap.size V3 V4 from ae);have a8:=qG (a7.o.trans (aS.o.mono a7.o.size));have cz:=qG (cy.o.put aS.o bf.o.lt 4 ab af);have aL:=qG (aK.o.next aS.o);have bL:=qG (bJ.o.next aS.o);have bh:=qG (bf.o.next aS.o);clear ab af ae
   refine hK.out _ _ ?_ (fun aa=>?_)
   ·(try dsimp only);exact⟨aL.o.c 5 _ rfl,aL.o.c 6 _ rfl,aL.o.c 7 _ rfl⟩
   clear hK K
   try simp only[qW]
   refine r1 (i:=14) (by kernel_rfl) rfl fun K hK=>?_
   go_simp
   refine(zc4 A5 c5 s.b.t.admits _ (Nat.le_trans aE.o.2.2.2.2.2.1 (by decide)) ((H5.o.below a8.o).more a8.o.size)).mono ?_;rintro e V5 ⟨v5,rfl,ab,af,ae⟩;obtain⟨B5,m5,bM⟩:=zcx ab;have bM:v5=.slice B5 s.b.t.admits.length m5:=bM;subst bM;have aF:=qG (show Below V4.heap.size V4 V5 from ae);have cA:=qG (a8.o.trans (aF.o.mono a8.o.size));have cB:=qG (cz.o.put aF.o bh.o.lt 5 ab af);have ax:=qG (aL.o.next aF.o);have bN:=qG (bL.o.next aF.o);have ay:=qG (bh.o.next aF.o);clear ab af ae;have t5:=ay.o.c 5 _ rfl;have u5:=ay.o.fr 5;have q5:=ax.o.c 5 _ rfl;have t6:=ay.o.c 6 _ rfl;have u6:=ay.o.fr 6;have q6:=ax.o.c 6 _ rfl;have t7:=ay.o.c 7 _ rfl;have u7:=ay.o.fr 7;have q7:=ax.o.c 7 _ rfl
   refine hK.out _ _ ?_ (fun aa=>?_)
   ·(try dsimp only);exact⟨ax.o.c 5 _ rfl,ax.o.c 6 _ rfl,ax.o.c 7 _ rfl⟩
   clear hK K
   try simp only[qW]
   refine r1 (i:=18) (by kernel_rfl) rfl fun K hK=>?_
   go_simp
   refine hK.out _ _ ?_ (fun aa=>?_)
   ·(try dsimp only);exact⟨(qA _ _ _ _ (by intro e;injection e with e;exact ah.o e.symm)).trans aa.1,(qA _ _ _ _ (by intro e;injection e with e;exact ah.o e.symm)).trans aa.2.1,(qA _ _ _ _ (by intro e;injection e with e;exact ah.o e.symm)).trans aa.2.2⟩
   clear hK K
   try simp only[qW]
   refine ht 19 (h:=?_)
   refine ht 20 (h:=?_)
   refine ht 21 (h:=?_)
   refine r1 (i:=22) (by kernel_rfl) rfl fun K hK=>?_
   go_simp
   refine hK.out _ _ ?_ (fun aa=>?_)
   ·(try dsimp only);exact⟨(qA _ _ _ _ (by intro e;injection e with e;exact ah.o e.symm)).trans aa.1,(qA _ _ _ _ (by intro e;injection e with e;exact ah.o e.symm)).trans aa.2.1,(qA _ _ _ _ (by intro e;injection e with e;exact ah.o e.symm)).trans aa.2.2⟩
   clear hK K
   try simp only[qW]
   refine ht 23 (h:=?_)
   refine ht 24 (h:=?_)
   refine ht 25 (h:=?_)
   refine r1 (i:=26) (by kernel_rfl) rfl fun K hK=>?_
   go_simp
   refine hK.out _ _ ?_ (fun aa=>?_)
   ·(try dsimp only);exact⟨(qA _ _ _ _ (by intro e;injection e with e;exact ah.o e.symm)).trans aa.1,(qA _ _ _ _ (by intro e;injection e with e;exact ah.o e.symm)).trans aa.2.1,(qA _ _ _ _ (by intro e;injection e with e;exact ah.o e.symm)).trans aa.2.2⟩
   clear hK K
   try simp only[qW]
   refine wpAnyH_done (by kernel_rfl) ?_ _
   refine NoPanic.normal ?_
   iterate 28 (try clear aa)
   have au:=qG ((((ax.o).other (g:=b3) ah.o 5 (.slice B3 s.b.t.loans.length m3)).other (g:=b3) ah.o 6 (.slice B4 s.b.t.looks.length m4)).other (g:=b3) ah.o 7 (.slice B5 s.b.t.admits.length m5))
   have az:=qG ((((bN.o).other (g:=b3) aB.o 5 (.slice B3 s.b.t.loans.length m3)).other (g:=b3) aB.o 6 (.slice B4 s.b.t.looks.length m4)).other (g:=b3) aB.o 7 (.slice B5 s.b.t.admits.length m5))
   have aw:=qG ((((ay.o).set (k:=5) (by simp) (.slice B3 s.b.t.loans.length m3)).set (k:=6) (by simp) (.slice B4 s.b.t.looks.length m4)).set (k:=7) (by simp) (.slice B5 s.b.t.admits.length m5))
   have aX:=qG ((((cB.o).set (qQ b3) 5 (.slice B3 s.b.t.loans.length m3)).set (qQ b3) 6 (.slice B4 s.b.t.looks.length m4)).set (qQ b3) 7 (.slice B5 s.b.t.admits.length m5))
   have aY:=qG ((((cA.o).setCell (p:=⟨b3,5,none⟩) ao.o (.slice B3 s.b.t.loans.length m3)).setCell (p:=⟨b3,6,none⟩) ao.o (.slice B4 s.b.t.looks.length m4)).setCell (p:=⟨b3,7,none⟩) ao.o (.slice B5 s.b.t.admits.length m5))
   generalize(((V5.setCell ⟨b3,5,none⟩ (.slice B3 s.b.t.loans.length m3)).setCell ⟨b3,6,none⟩ (.slice B4 s.b.t.looks.length m4)).setCell ⟨b3,7,none⟩ (.slice B5 s.b.t.admits.length m5))=wz at *
   clear t5 u5 q5 t6 u6 q6 t7 u7 q7
   clear aF cA cB ax bN ay aS a8 cz aL bL bh aJ a7 cy aK bJ bf
   clear cv cw cx aj an ai aA ag
   have aj:=au
   have an:=az
   have ai:=aw
   have aA:=aX
   have ag:=aY
   clear au az aw aX aY
   obtain⟨wr,aZ⟩:∃ W,W=wz:=⟨_,rfl⟩
   rw[<- aZ] at aj an ai aA ag ⊢
   clear aZ
   go_upto_region 11 with fail
   have p11:=aj.o.c 11 _ rfl
   have cC:=qG (zhO A6 c6 ps wr (Nat.le_trans aE.o.2.2.2.2.2.2 (by decide)) ((H6.o.below ag.o).more ag.o.size))
   go_wp2_with fail
   refine cC.o.mono ?_
   rintro e V6 ⟨v6,rfl,ab,af,ae⟩
   obtain⟨B6,m6,bO⟩:=zcx ab
   have bO:v6=.slice B6 ps.length m6:=bO
   subst bO
   have cD:=qG (aA.o.put ae ai.o.lt 6 ab af)
   have cE:=qG (ag.o.trans (ae.mono ag.o.size))
   have bP:=qG (an.o.next ae)
   have aU:=qG (ai.o.next ae)
   have t11:=aU.o.c 11 _ rfl
   have u11:=aU.o.fr 11
   clear ab af ae p11
   go_upto_region 12 with fail
   have c7:=qG (cD.o.set (qQ b3) 11 (.slice B6 ps.length m6))
   have c8:=qG (cE.o.setCell (p:=⟨b3,11,none⟩) ao.o (.slice B6 ps.length m6))
   have ac:=qG (bP.o.other (g:=b3) aB.o 11 (.slice B6 ps.length m6))
   have ak:=qG (aU.o.set (k:=11) (by simp) (.slice B6 ps.length m6))
   generalize V6.setCell ⟨b3,11,none⟩ (.slice B6 ps.length m6)=V7 at *
   clear t11 u11 cD cE bP aU cC
   have t0:=ak.o.c 0 _ rfl
   have t1:=ak.o.c 1 _ rfl
   have t2:=ak.o.c 2 _ rfl
   have t3:=ak.o.c 3 _ rfl
   have t4:=ak.o.c 4 _ rfl
   have t5:=ak.o.c 5 _ rfl
   have t6:=ak.o.c 6 _ rfl
   have t7:=ak.o.c 7 _ rfl
   have t8:=ak.o.c 8 _ rfl
   have t9:=ak.o.c 9 _ rfl
   have t10:=ak.o.c 10 _ rfl
   have t11:=ak.o.c 11 _ rfl
   have t12:=ak.o.c 12 _ rfl
   have q0:=ac.o.c 0 _ rfl
   have u0:=ac.o.fr 0
   have q1:=ac.o.c 1 _ rfl
   have u1:=ac.o.fr 1
   have q2:=ac.o.c 2 _ rfl
   have u2:=ac.o.fr 2
   have q3:=ac.o.c 3 _ rfl
   have u3:=ac.o.fr 3
   have q4:=ac.o.c 4 _ rfl
   have u4:=ac.o.fr 4
   have q5:=ac.o.c 5 _ rfl
   have u5:=ac.o.fr 5
   have q6:=ac.o.c 6 _ rfl
   have u6:=ac.o.fr 6
   have q7:=ac.o.c 7 _ rfl
   have u7:=ac.o.fr 7
   have q8:=ac.o.c 8 _ rfl
   have u8:=ac.o.fr 8
   have q9:=ac.o.c 9 _ rfl
   have u9:=ac.o.fr 9
   have q10:=ac.o.c 10 _ rfl
   have u10:=ac.o.fr 10
   have q11:=ac.o.c 11 _ rfl
   have u11:=ac.o.fr 11
   have q12:=ac.o.c 12 _ rfl
   have u12:=ac.o.fr 12
   have cK:=qG (zp4 (ac.o.setAll [.int .i64 vh,.slice (some ⟨g0,0,none⟩) cs.length cs.length,.slice B1 s.b.ran.length m1,.slice B2 s.b.made.length m2,.int .i64 s.b.t.n,.slice B3 s.b.t.loans.length m3,.slice B4 s.b.t.looks.length m4,.slice B5 s.b.t.admits.length m5,.int .i64 s.b.cost,.int .i64 vp,.bool s.b.opn,.slice B6 ps.length m6,.int .i64 s.planned] rfl))
   go_wp2_with fail
   (try simp only[Exit.inBlock,Exit.then])
   refine bodyPost_ret (zaH rfl rfl cK.o) rfl ?_
   have c9:=qG (zac (B:=w.heap.size) (show w.heap.size<=b2 by rw[aM.o];omega) [.int .i64 vh,.slice (some ⟨g0,0,none⟩) cs.length cs.length,.slice B1 s.b.ran.length m1,.slice B2 s.b.made.length m2,.int .i64 s.b.t.n,.slice B3 s.b.t.loans.length m3,.slice B4 s.b.t.looks.length m4,.slice B5 s.b.t.admits.length m5,.int .i64 s.b.cost,.int .i64 vp,.bool s.b.opn,.slice B6 ps.length m6,.int .i64 s.planned] 0 c8.o)
   have da:=qG (MadeF.setAll (b:=b2) (by rw[aM.o,aq.o];omega) [.int .i64 vh,.slice (some ⟨g0,0,none⟩) cs.length cs.length,.slice B1 s.b.ran.length m1,.slice B2 s.b.made.length m2,.int .i64 s.b.t.n,.slice B3 s.b.t.loans.length m3,.slice B4 s.b.t.looks.length m4,.slice B5 s.b.t.admits.length m5,.int .i64 s.b.cost,.int .i64 vp,.bool s.b.opn,.slice B6 ps.length m6,.int .i64 s.planned] 0 c7.o)
   refine⟨c9.o,fun k=>[⟨57,3,.slice (some ⟨g0,0,none⟩) cs.length cs.length,cs.length,pre.flatMap Cu.cutL⟩,⟨3,1,.slice B1 s.b.ran.length m1,s.b.ran.length,s.b.ran.flatMap zad⟩,⟨65,2,.slice B2 s.b.made.length m2,s.b.made.length,s.b.made.flatMap btL⟩,⟨67,3,.slice B3 s.b.t.loans.length m3,s.b.t.loans.length,s.b.t.loans.flatMap Loan.cells⟩,⟨194,3,.slice B4 s.b.t.looks.length m4,s.b.t.looks.length,s.b.t.looks.flatMap Look.cells⟩,⟨3,1,.slice B5 s.b.t.admits.length m5,s.b.t.admits.length,s.b.t.admits.flatMap zad⟩,⟨251,6,.slice B6 ps.length m6,ps.length,ps.flatMap Pq.cells⟩].getD k ⟨0,0,.nilFunc,0,[]⟩,pre,?_,?_,cY.o,_,b3,ao.o,da.o,?_,?_⟩
   .rw[<- cj.o,<- cM.o,<- cN.o];rfl
   .exact⟨⟨rfl,rfl,cj.o.symm,rfl⟩,⟨rfl,rfl,rfl,rfl⟩,⟨rfl,rfl,rfl,rfl⟩,⟨rfl,rfl,rfl,rfl⟩,⟨rfl,rfl,rfl,rfl⟩,⟨rfl,rfl,rfl,rfl⟩,⟨rfl,rfl,rfl,rfl⟩⟩
   .intro k hk
    rcases(show k=0\/k=1\/k=2\/k=3\/k=4\/k=5\/k=6 by omega) with rfl|rfl|rfl|rfl|rfl|rfl|rfl
    .exact cZ.o
    all_goals rfl
   .intro i x hx
    rw[zav _ _ (by omega),zav _ _ (by omega),zav _ _ (by omega),zav _ _ (by omega),zav _ _ (by omega),zav _ _ (by omega)]
    exact am.o.at_ i x hx
end
section
open Go.RowKit
open Le
theorem MadeF.keep{b3:Nat}{W W':World}{F:Nat->Option Rw}(h:MadeF b3 W F){O:Nat->Prop}(k:Keep O W W')(hO:∀ j r g,F j=some r->blk r.v=some g->b3<g->¬ O g):MadeF b3 W' F:=
 ⟨fun j r e=>⟨Rw.ok.keep (h.ok j r e).1 k (fun g hg=>hO j r g e hg ((h.ok j r e).2 g hg)),(h.ok j r e).2⟩,h.ap⟩
theorem FlAt.widen{O O':Nat->Prop}{w w':World}{f:Nat}{R:Nat->Rw}{cs:List Cu.Cut}{ps:List Pq}{d:Ru.Die}{s:St}(h:FlAt O w f R cs ps d s)(hb:Below w.heap.size w w')(hO:∀ b,O' b->O b\/(w.heap.size<=b/\b<w'.heap.size))(aa:∀ b,O b->O' b):FlAt O' w' f R cs ps d s:=
 have hk:∀ b,b<w.heap.size->O' b->O b:=fun b hl ho=>(hO b ho).elim (fun x=>x) (fun x=>absurd hl (by omega))
 ⟨h.own.below hb,fun b x=>aa b (h.sub b x),fun b x=>(hO b x).elim (fun y=>qM (h.lt b y) hb.size) (fun y=>y.2),h.box.next hb,h.h.keep (P:=fun _=>False) (.of_below hb) (fun _ _ x=>x.elim) hk h.h.ro,h.die.keep (P:=fun _=>False) (.of_below hb) (fun _ _ x=>x.elim) hk⟩
theorem FlAt.keepO{O O' P:Nat->Prop}{w w':World}{f:Nat}{R:Nat->Rw}{cs:List Cu.Cut}{ps:List Pq}{d:Ru.Die}{s:St}(h:FlAt O w f R cs ps d s)(k:Keep P w w')(hP:∀ b,P b->O b)(hf:∀ b,zao f R b->¬ P b)(hO:∀ b,O' b->O b)(hs:∀ b,zao f R b->O' b):FlAt O' w' f R cs ps d s:=
 ⟨h.own.keep k hf,hs,fun b x=>qM (h.lt b (hO b x)) k.size,k.bx h.box (hf f (.inl rfl)),h.h.keep k (fun b _ x=>hP b x) (fun b _ x=>hO b x) h.h.ro,h.die.keep k (fun b _ x=>hP b x) (fun b _ x=>hO b x)⟩
theorem zpV{O:Nat->Prop}{w w4:World}{f:Nat}{R R':Nat->Rw}{cs cs':List Cu.Cut}{ps:List Pq}{d:Ru.Die}{s:St}{F:Nat->Option Rw}{b3:Nat}(h:FlAt O w f R cs ps d s)(ro:RowsOk R' cs' ps s.b)(ec:cs'.map Ct.of=s.b.cuts)(hF:MadeF b3 w4 F)(ae:w.heap.size<=b3)(h7:∀ k,k<7->F k=some (R' k))(hc:∀ i x,cs'[i]?=some x->F (7+i)=some (ze2 x.A x.piece x.c))(k:Keep (zao f R) w w4)(hx:Bx w4 f (flL R' d s)) :
  FlAt (orO O f R') w4 f R' cs' ps d s/\Turn w w4 f R R':=by
 have aa:∀ i,i<7->∀ g,blk (R' i).v=some g->b3<g:=fun i hi g hg=>(hF.ok i _ (h7 i hi)).2 g hg
 have aj:f<b3:=qM h.own.lt ae
 have ho:Own w4 f R':=⟨fun i hi=>(hF.ok i _ (h7 i hi)).1,fun i j hi hj af g e1 e2=>hF.ap i j _ _ (h7 i hi) (h7 j hj) af g e1 e2,fun i hi e=>by have:=aa i hi f e;omega,hx.lt⟩
 have ht:Turn w w4 f R R':=⟨k,fun x hx ho=>by
  rcases ho with rfl|⟨i,hi,e⟩
  .exact .inl rfl
  .have:=aa i hi x e;omega⟩
 refine⟨h.step ht ho hx ⟨ro,ec,fun c ag=>?_,h.h.hp,fun x hx=>(h.h.pa x hx).keep k (fun b _ x=>h.sub b x) (h.oldO ht),h.h.pc⟩,ht⟩
 obtain⟨i,hi⟩:=List.getElem?_of_mem ag
 have hr:=hF.ok _ _ (hc i c hi)
 obtain⟨B,c9,ev,ah,-⟩:=Rw.ok.at_ (cells:=zad) (l:=c.piece) zbp (show 0<1 by decide) hr.1 rfl rfl
 intro j x hj
 obtain⟨b,off,e,hlt,ab⟩:=ah j x hj
 have ev:(Value.slice c.A c.piece.length c.c)=.slice B c.piece.length c9:=ev
 injection ev with e1 _ e2
 rw[e1]
 refine⟨b,off,e,hlt,?_,ab⟩
 have ac:blk (ze2 c.A c.piece c.c).v=some b:=by
  rcases hr.1.2 with ⟨C,e3,e4⟩|⟨g,cap,cur,e3,-⟩
  .have e4:c.piece.length=0:=e4
   rw[List.length_eq_zero_iff.1 e4] at hj
   simp at hj
  .have e3:(Value.slice c.A c.piece.length c.c)=.slice (some ⟨g,0,none⟩) c.piece.length (cap+1):=e3
   injection e3 with e5 _ e6
   show blk (.slice c.A c.piece.length c.c)=some b
   rw[e5,e6]
   rw[e1,e] at e5
   injection e5 with e5
   injection e5 with e5 _ _
   subst e5
   rfl
 have hg:=hr.2 b ac
 rintro(hO|rfl|⟨i',ai,e'⟩)
 .have:=h.lt b hO;omega
 .omega
 .exact hF.ap i' (7+i) _ _ (h7 i' ai) (hc i c hi) (by omega) b e' ac
def resT(s:St):Res->St×Tx×Int
|.ok x=>(x.1,x.2,0)
|.error c=>(s,[],c)
def RetT(O:Nat->Prop)(w:World)(f:Nat)(R:Nat->Rw)(d:Ru.Die)(x:St×Tx×Int)(e:Ending)(w':World):Prop:=e=.returned (.tuple #[tx x.2.1,.int .i64 x.2.2])/\∃ R' cs' ps',FlAt (orO O f R') w' f R' cs' ps' d x.1/\Turn w w' f R R'
def mis(c:Int)(r:Bool):PanicEntry:={ v:=.iface 238 (.agg #[.int .i64 c]),recovered:=r }
theorem Bx.setL{b:Nat}:∀(us:List Value) {W:World} {vs:List Value} (j:Nat),j+us.length<=vs.length->Bx W b vs->Bx (setCells W b j us) b (putL vs j us)
|[],_,_,_,_,h=>h
|u :: us,W,vs,j,hl,h=>by
  have aa:j+(us.length+1)<=vs.length:=hl
  exact Bx.setL us (j+1) (by rw[List.length_set];omega) (h.set (k:=j) (by omega) u)
theorem zlx{L LF D:List Value}(h:L.length=LF.length):putL (LF++D) 0 L=L++D:=by
 apply List.ext_getElem?
 intro i
 rw[zdq _ _ _ _ (by rw[qD];omega),Nat.zero_add,Nat.sub_zero]
 by_cases hi:i<L.length
 .rw[if_pos ⟨Nat.zero_le _,hi⟩,List.getElem?_append_left hi]
 .rw[if_neg (by omega),List.getElem?_append_right (by omega),List.getElem?_append_right (by omega),h]
theorem zeF{O:Nat->Prop}{a b:World}(h:Keep O a b){g:Nat}(hg:O g):∀(us:List Value) (j:Nat),Keep O a (setCells b g j us):=fun us j=>
 h.trans (.of_grown (O:=fun x=>x=g) (zaM g us j b) (fun k e=>by injection e with e;exact e.symm)) (fun _ _ e=>e▸hg)
theorem zhq(b6 b2 b4 b5 f:Nat)(L LF D:List Value)(v4 v5:Value)(c:Int)(older:List PanicEntry)(w:World)(h6:Bx w b6 L)(hl:L.length=13)(am:LF.length=13)(h1:∀ v∈L,v.oneCell'=true)(h2:w.cell? ⟨b2,0,none⟩=some (.pointer (some ⟨f,0,none⟩)))(hf:Bx w f (LF++D))
  (h4:Bx w b4 [v4]) (h5:Bx w b5 [v5]) (n4:f≠b4) (n5:f≠b5) (n45:b4≠b5) :
  CallsD Tryz.prog 126 #[.pointer (some ⟨b6,0,none⟩),.pointer (some ⟨b2,0,none⟩),.pointer (some ⟨b4,0,none⟩),.pointer (some ⟨b5,0,none⟩)] (.panicking (mis c false :: older)) w fun e u' w'=>
   e=.returned (.tuple #[])/\u'=.panicking (mis c true :: older)/\Bx w' f (L++D)/\Bx w' b4 [tx []]/\Bx w' b5 [.int .i64 c]/\Keep (fun x=>x=f\/x=b4\/x=b5) w w':=by
 have af:∀ r,mis c r={ v:=.iface 238 (.agg #[.int .i64 c]),recovered:=r }:=fun r=>rfl
 rw[af false,af true]
 clear af
 have aa:=qG (nxA w (.cells #[.int .i64 c] 238))
 have an:=qG (Bx.new w #[.int .i64 c] 238)
 have HZ:=qG (show w.heap.size≠f/\w.heap.size≠b4/\w.heap.size≠b5 from⟨by have:=hf.lt;omega,by have:=h4.lt;omega,by have:=h5.lt;omega⟩)
 have H6:=qG (h6.next aa.o)
 have HF:=qG (hf.next aa.o)
 have H4:=qG (h4.next aa.o)
 have H5:=qG (h5.next aa.o)
 have H2:=qG ((aa.o.cell (p:=⟨b2,0,none⟩) (zaa h2)).trans h2)
 have HL:=qG hl
 have ag:=qG am
 have H1:=qG (all_oneCell_toArray h1)
 have HN:=qG (And.intro n4 (And.intro n5 n45))
 clear h6 hl am h1 h2 hf h4 h5 n4 n5 n45
 refine callsD_of_wpS Tryz.func126 rfl fun c₀ cs hu=>?_
 apply wpS_seq
 apply wpS_region
 simp[wpOpsS,go_sem,recoverD,hu,Tryz.ntmps126,Exit.thenS]
 refine wpS_of_wp ?_
 have ao:(#[.pointer (some ⟨b6,0,none⟩),.pointer (some ⟨b2,0,none⟩),.pointer (some ⟨b4,0,none⟩),.pointer (some ⟨b5,0,none⟩)]++((Array.replicate 20 undef).setIfInBounds 3 (.iface 238 (.agg #[.int .i64 c]))).setIfInBounds 0 (.iface 238 (.agg #[.int .i64 c])):Array Value)=#[.pointer (some ⟨b6,0,none⟩),.pointer (some ⟨b2,0,none⟩),.pointer (some ⟨b4,0,none⟩),.pointer (some ⟨b5,0,none⟩),.iface 238 (.agg #[.int .i64 c]),undef,undef,.iface 238 (.agg #[.int .i64 c]),undef,undef,undef,undef,undef,undef,undef,undef,undef,undef,undef,undef,undef,undef,undef,undef]:=by kernel_rfl
 rw[ao]
 clear ao
 have ar:∀ W:World,(binOp .neq 20 (.iface 238 (.agg #[.int .i64 c])) .nilIface).run Tryz.prog W=.ok (.bool true) W:=fun W=>by kernel_rfl
 have au:∀ W:World,(Instr.typeAssert (.iface 238 (.agg #[.int .i64 c])) 20 238 true).run Tryz.prog W=.ok (.tuple #[.agg #[.int .i64 c],.bool true]) W:=fun W=>by kernel_rfl
 go_upto_region 5 with fail
 generalize hV:w.alloc (.cells #[.int .i64 c] 238)=V at *
 obtain⟨bm,aq⟩:∃ bm,bm=w.heap.size:=⟨_,rfl⟩
 rw[<- aq] at an HZ ⊢
 clear hV aq
 have h2:=H2.o
 have aw:=qG (show V.rangeAt b6 0 L from fun j v hv=>by rw[Nat.zero_add];exact H6.o.c j v hv)
 have ax:=qG (show V.there f 0 L.toArray.size from fun i hi=>by
  have aB:i<L.length:=by simpa using hi
  have ay:i<(LF++D).length:=by rw[qD];have:=HL.o;have:=ag.o;omega
  rw[Nat.zero_add]
  exact⟨by rw[HF.o.c i _ (qN ay)];rfl,HF.o.fr i⟩)
 have ah:=Bx.setL L 0 (by rw[qD];have:=HL.o;have:=ag.o;omega) HF.o
 rw[zlx (by rw[HL.o,ag.o]),<- zbk] at ah
 have az:=qG ah
 have ai:=H4.o.setOther (g:=f) (fun e=>HN.o.1 e.symm) L 0
 rw[<- zbk] at ai
 have ac:=qG ai
 have aj:=H5.o.setOther (g:=f) (fun e=>HN.o.2.1 e.symm) L 0
 rw[<- zbk] at aj
 have ae:=qG aj
 have ak:=an.o.setOther (g:=f) HZ.o.1 L 0
 rw[<- zbk] at ak
 have aA:=qG ak
 have hk:=zeF (O:=fun x=>x=f\/x=b4\/x=b5) (.of_below aa.o) (.inl rfl) L 0
 rw[<- zbk] at hk
 have HK:=qG hk
 clear ah ai aj ak hk
 go_upto_region 6 with (first|(refine wpList_load_mid rfl 82 (.tmp 0) rfl b6 0 rfl L _ aw.o Tryz.underlying82 rfl (by rw[HL.o];kernel_rfl) ?_)|(refine wpList_store_mid rfl 82 (.tmp 21) (.tmp 19) rfl f 0 L.toArray rfl rfl ax.o (by rw[List.size_toArray,HL.o];kernel_rfl) H1.o ?_))
 try simp only[Act.put]
 generalize V.setCells f 0 L=V2 at *
 have x0:=aA.o.c 0 _ rfl
 have x4:=ac.o.c 0 _ rfl
 have y4:=ac.o.fr 0
 have l4:=ac.o.lt
 have x5:=ae.o.c 0 _ rfl
 have y5:=ae.o.fr 0
 have l5:=ae.o.lt
 have n45:b4≠b5:=HN.o.2.2
 have n54:b5≠b4:=fun e=>HN.o.2.2 e.symm
 have nm4:bm≠b4:=HZ.o.2.1
 have nm5:bm≠b5:=HZ.o.2.2
 clear h2
 go_region
 go_wp2_with fail
 have ab:=qG (show Bx ((V2.setCell ⟨b4,0,none⟩ (tx [])).setCell ⟨b5,0,none⟩ (.int .i64 c)) f (L++D)/\Bx ((V2.setCell ⟨b4,0,none⟩ (tx [])).setCell ⟨b5,0,none⟩ (.int .i64 c)) b4 [tx []]/\Bx ((V2.setCell ⟨b4,0,none⟩ (tx [])).setCell ⟨b5,0,none⟩ (.int .i64 c)) b5 [.int .i64 c]/\Keep (fun x=>x=f\/x=b4\/x=b5) w ((V2.setCell ⟨b4,0,none⟩ (tx [])).setCell ⟨b5,0,none⟩ (.int .i64 c)) from
  ⟨(az.o.other (g:=b4) HN.o.1 0 _).other (g:=b5) HN.o.2.1 0 _,(ac.o.set (k:=0) (by simp) (tx [])).other (g:=b5) HN.o.2.2 0 _,(ae.o.other (g:=b4) (fun e=>HN.o.2.2 e.symm) 0 _).set (k:=0) (by simp) (.int .i64 c),(HK.o.setCell (.inr (.inl rfl)) 0 _).setCell (.inr (.inr rfl)) 0 _⟩)
 clear x0 x4 y4 l4 x5 y5 l5 n45 n54 nm4 nm5 ar au
 cases c₀
 simp only at hu
 subst hu
 simp[bodyPostS,results,Tryz.results126]
 exact⟨ab.o.1.drew,ab.o.2.1.drew,ab.o.2.2.1.drew,ab.o.2.2.2.drew⟩
theorem zmc(p q r t:Value)(w:World) :
  CallsD Tryz.prog 126 #[p,q,r,t] .returning w fun e u' w'=>e=.returned (.tuple #[])/\u'=.returning/\w'=w:=by
 refine callsD_of_wpS Tryz.func126 rfl fun c₀ cs hu=>?_
 apply wpS_seq
 apply wpS_region
 simp[wpOpsS,go_sem,recoverD,hu,Tryz.ntmps126,Exit.thenS]
 refine wpS_of_wp ?_
 have aa:(#[p,q,r,t]++((Array.replicate 20 undef).setIfInBounds 3 .nilIface).setIfInBounds 0 .nilIface:Array Value)=#[p,q,r,t,.nilIface,undef,undef,.nilIface,undef,undef,undef,undef,undef,undef,undef,undef,undef,undef,undef,undef,undef,undef,undef,undef]:=by kernel_rfl
 rw[aa]
 clear aa
 go_wp2
 cases c₀
 simp_all [bodyPostS,results,Tryz.results126]
theorem zfN{c:Cu.Cut}{p q:Int×Int}:Cu.Reach (Ct.of c).c p q↔Cu.Reach c p q:=by
 constructor
 .intro h
  induction h with
 |refl=>exact .refl _
 |step _ h2 h3 ih=>exact .step ih h2 h3
 .intro h
  induction h with
 |refl=>exact .refl _
 |step _ h2 h3 ih=>exact .step ih h2 h3
theorem zkq(c:Cu.Cut)(k:Int):Cu.Whole (Ct.of c).c k↔Cu.Whole c k:=
 ⟨fun h p q h1 h2 h3 h4=>zfN.1 (h p q h1 h2 h3 h4),fun h p q h1 h2 h3 h4=>zfN.2 (h p q h1 h2 h3 h4)⟩
theorem zcq(c:Cu.Cut):Cu.checkS (Ct.of c).c=Cu.checkS c:=by
 have h:Cu.Whole (Ct.of c).c=Cu.Whole c:=funext fun k=>propext (zkq c k)
 unfold Cu.checkS
 rw[h]
 rfl
theorem zee(c:Cu.Cut):Cu.cutE (Ct.of c).c=Cu.cutE c:=by unfold Cu.cutE;rw[zcq]
theorem zfL(c:Cu.Cut):Cu.zan (Ct.of c).c=Cu.zan c:=by unfold Cu.zan;rw[zee];rfl
theorem zdN(c:Cu.Cut)(a b:Int):Cu.zbb (Ct.of c).c a b=Cu.zbb c a b:=by unfold Cu.zbb Cu.openE;rw[zcq];rfl
theorem zkr(c:Cu.Cut)(a b:Int):Cu.za6 (Ct.of c).c a b=Cu.za6 c a b:=by unfold Cu.za6;rw[zdN];rfl
theorem Sees.cutAt{O:Nat->Prop}{w:World}{f:Nat}{R:Nat->Rw}{cs:List Cu.Cut}{ps:List Pq}{d:Ru.Die}{s:St}{A0 A1 A2 A3 A4 A5 A6:Option Addr}{c0 c1 c2 c3 c4 c5 c6:Nat}(h:Sees w f R cs ps d s A0 c0 A1 c1 A2 c2 A3 c3 A4 c4 A5 c5 A6 c6)(fl:FlAt O w f R cs ps d s){k:Nat}(hk:k<s.b.cuts.length) :
  ∃ g0 cc,A0=some ⟨g0,0,none⟩/\blk (R 0).v=some g0/\cs[k]?=some cc/\Ct.of cc=s.b.cuts.getD k ⟨0,0,[]⟩/\∀ j u,(Cu.cutL cc)[j]?=some u->w.cell? ⟨g0,k*3+j,none⟩=some u/\w.frozen? ⟨g0,k*3+j,none⟩=false:=by
 have aa:k<cs.length:=by rw[h.nc];exact hk
 have hx:∀ j u,(Cu.cutL cs[k])[j]?=some u->(R 0).xs[k*3+j]?=some u:=fun j u hu=>by
  rw[fl.h.ro.r0.2.2.2];exact zaO zbC cs k cs[k] j u (qN aa) hu
 obtain⟨g0,e1,⟨cap,e2⟩,-,-⟩:=Rw.ok.cell (fl.own.row 0 (by decide)) (hx 0 _ rfl)
 refine⟨g0,cs[k],?_,e1,qN aa,?_,fun j u hu=>?_⟩
 .have:=h.e0
  rw[e2] at this
  injection this with e3 _ _
  exact e3.symm
 .rw[<- fl.h.ec,qP,List.getElem?_map,qN aa];rfl
 .obtain⟨g,e3,-,e4,e5⟩:=Rw.ok.cell (fl.own.row 0 (by decide)) (hx j u hu)
  have:g=g0:=Option.some.inj (e3.symm.trans e1)
  subst this
  exact⟨e4,e5⟩
theorem Sees.addr0{O:Nat->Prop}{w:World}{f:Nat}{R:Nat->Rw}{cs:List Cu.Cut}{ps:List Pq}{d:Ru.Die}{s:St}{A0 A1 A2 A3 A4 A5 A6:Option Addr}{c0 c1 c2 c3 c4 c5 c6:Nat}(h:Sees w f R cs ps d s A0 c0 A1 c1 A2 c2 A3 c3 A4 c4 A5 c5 A6 c6)(fl:FlAt O w f R cs ps d s):∃ g0,0<s.b.cuts.length->A0=some ⟨g0,0,none⟩:=by
 by_cases h0:0<s.b.cuts.length
 .obtain⟨g0,cc,e,-⟩:=h.cutAt fl h0
  exact⟨g0,fun _=>e⟩
 .exact⟨0,fun x=>absurd x h0⟩
theorem zka{O:Nat->Prop}{w:World}{f:Nat}{R:Nat->Rw}{cs:List Cu.Cut}{ps:List Pq}{d:Ru.Die}{s:St}(fl:FlAt O w f R cs ps d s)(ok:VOk d s){k:Nat}{cc:Cu.Cut}(h:cs[k]?=some cc):Cu.CutAt w w.heap.size cc/\Cu.OkC cc/\cc.piece.length<=144:=by
 have hm:=List.mem_of_getElem? h
 have aa:(Cu.checkS (Ct.of cc).c).2=0:=ok.b.ck _ (by rw[<- fl.h.ec];exact List.mem_map_of_mem hm)
 rw[zcq] at aa
 have okc:Cu.OkC cc:=by
  rw[<- Cu.zck]
  unfold Cu.checkS at aa
  split at aa
  .exact absurd aa (by decide)
  .rename_i hh;simpa using hh
 have hl:cc.piece.length<=144:=by
  have:=okc.len
  have h1:=okc.w
  have h2:=okc.h
  have h3:=Int.mul_le_mul h1.2 h2.2 (by omega) (by omega:(0:Int)<=12)
  omega
 exact⟨⟨(fl.h.ca cc hm).at_,by omega⟩,okc,hl⟩
theorem za9(b:Bool):0<=Cu.b2i b/\Cu.b2i b<=1:=by cases b <;> decide
theorem zcW(c:Cu.Cut)(x y a b:Int):0<=Cu.zb1 c x y a b/\Cu.zb1 c x y a b<=4:=by
 unfold Cu.zb1
 have h1:=za9 (Cu.at2 c (x-1) y==b)
 have h2:=za9 (Cu.at2 c (x+1) y==b)
 have h3:=za9 (Cu.at2 c x (y-1)==b)
 have h4:=za9 (Cu.at2 c x (y+1)==b)
 split <;> omega
theorem zm6{c:Cu.Cut}(ok:Cu.OkC c)(a b:Int):0<=Cu.edgesR c a b/\Cu.edgesR c a b<=576:=by
 have hW:Cu.W c<=12:=by unfold Cu.W;have:=ok.w;omega
 have hH:Cu.H c<=12:=by unfold Cu.H;have:=ok.h;omega
 have h1:∀ y:Nat,0<=Cu.zai (fun x:Nat=>Cu.zb1 c (x:Int) (y:Int) a b) (Cu.W c)/\Cu.zai (fun x:Nat=>Cu.zb1 c (x:Int) (y:Int) a b) (Cu.W c)<=48:=fun y=>by
  have:=zaK (fun x:Nat=>Cu.zb1 c (x:Int) (y:Int) a b) 4 (Cu.W c) (fun k _=>zcW c k y a b)
  omega
 have h2:=zaK (fun y:Nat=>Cu.zai (fun x:Nat=>Cu.zb1 c (x:Int) (y:Int) a b) (Cu.W c)) 48 (Cu.H c) (fun k _=>h1 k)
 unfold Cu.edgesR
 omega
theorem zp6{c:Cu.Cut}(ok:Cu.OkC c):0<=Cu.lenS c/\Cu.lenS c<=1000000:=by
 have hg:=Cu.zb0 ok
 have h1:∀ k:Nat,k<(Cu.zag c).toNat+1->0<=Cu.zai (fun b:Nat=>Cu.edgesR c (k:Int) (b:Int)) k/\Cu.zai (fun b:Nat=>Cu.edgesR c (k:Int) (b:Int)) k<=23040:=fun k hk=>by
  have:=zaK (fun b:Nat=>Cu.edgesR c (k:Int) (b:Int)) 576 k (fun j _=>zm6 ok k j)
  omega
 have h2:=zaK (fun a:Nat=>Cu.zai (fun b:Nat=>Cu.edgesR c (a:Int) (b:Int)) a) 23040 ((Cu.zag c).toNat+1) h1
 unfold Cu.lenS
 omega
theorem zgc{c:Cu.Cut}(ok:Cu.OkC c){g:Int->Int->Int}(h:∀ x y,0<=g x y/\g x y<=4):0<=Cu.zcu c g/\Cu.zcu c g<=1000:=by
 have hW:Cu.W c<=12:=by unfold Cu.W;have:=ok.w;omega
 have hH:Cu.H c<=12:=by unfold Cu.H;have:=ok.h;omega
 have h1:∀ y:Nat,0<=Cu.zai (fun x:Nat=>g (x:Int) (y:Int)) (Cu.W c+1)/\Cu.zai (fun x:Nat=>g (x:Int) (y:Int)) (Cu.W c+1)<=52:=fun y=>by
  have:=zaK (fun x:Nat=>g (x:Int) (y:Int)) 4 (Cu.W c+1) (fun k _=>h k y)
  omega
 have h2:=zaK (fun y:Nat=>Cu.zai (fun x:Nat=>g (x:Int) (y:Int)) (Cu.W c+1)) 52 (Cu.H c+1) (fun k _=>h1 k)
 unfold Cu.zcu
 omega
theorem zeB{c:Cu.Cut}(h:(Cu.checkS c).2=0):0<=(Cu.checkS c).1/\(Cu.checkS c).1<1000000000000000000:=by
 unfold Cu.checkS at h ⊢
 split at h
 .cases h
 .rename_i h1
  have ok:Cu.OkC c:=(Cu.zck c).1 (by simpa using h1)
  have hg:=Cu.zb0 ok
  rw[if_neg h1]
  split at h
  .cases h
  .split at h
   .cases h
   .dsimp only
    omega
theorem zct(R:Nat->Rw)(s:St){w:World}(h:∀ k,k<7->(R k).ok w):∀ v∈bkL R s,v.oneCell'=true:=by
 have hv:∀ k,k<7->((R k).v).oneCell'=true:=fun k hk=>by
  obtain⟨A,c,e,-⟩:=(h k hk).form
  rw[e];rfl
 intro v aa
 simp only[bkL,List.mem_cons,List.not_mem_nil,or_false] at aa
 rcases aa with rfl|rfl|rfl|rfl|rfl|rfl|rfl|rfl|rfl|rfl|rfl|rfl|rfl <;> first|rfl|exact hv _ (by decide)
theorem zep{w:World}{b:Nat}{x:Tx}(h:Bx w b [tx x]):(loadVar 9 ⟨b,0,none⟩).run Tryz.prog w=.ok (tx x) w:=by
 have c0:=h.c 0 _ rfl
 clear h
 go_simp
theorem zgS{w:World}{b:Nat}{x:Int}(h:Bx w b [.int .i64 x]):(loadVar 26 ⟨b,0,none⟩).run Tryz.prog w=.ok (.int .i64 x) w:=by
 have c0:=h.c 0 _ rfl
 clear h
 go_simp
def tryO(O:Nat->Prop)(b4 b5:Nat)(b:Nat):Prop:=O b\/b=b4\/b=b5
theorem zkL(O:Nat->Prop)(w:World)(f:Nat)(R:Nat->Rw)(cs:List Cu.Cut)(ps:List Pq)(d:Ru.Die)(s:St)(az:FlAt O w f R cs ps d s)(ok:VOk d s)(fn:FuncId)(caps:Array Value)(r:Res)(bO:∀ W:World,(callFunc fn caps).run Tryz.prog W=.ok (.enter fn caps) W)
  (hw:∀(O':Nat->Prop) (w1:World),FlAt O' w1 f R cs ps d s->(∀ b,O' b->O b\/w.heap.size<=b)->Below w.heap.size w w1->Calls Tryz.prog fn caps w1 (RetF O' w1 f R d r)) :
  Calls Tryz.prog 62 #[.pointer (some ⟨f,0,none⟩),.func (.func fn) #[] caps] w (RetT O w f R d (resT s r)):=by
 have bP:∀(fn:Fn) (first cap:Array Value) (w:World),(Instr.makeFunc fn first cap).run Tryz.prog w=.ok (.func fn first cap) w:=fun _ _ _ _=>rfl
 have aj:=qG az
 have HW:=qG hw
 have an:=qG ok
 have n1:=nxA w (.cells #[.pointer (some ⟨f,0,none⟩)] 31)
 have y1:=Bx.new w #[.pointer (some ⟨f,0,none⟩)] 31
 have s1:(w.alloc (.cells #[.pointer (some ⟨f,0,none⟩)] 31)).heap.size=w.heap.size+1:=by simp
 clear az ok hw
 go_enter_defers Tryz.func62,Tryz.ntmps62
 go_upto_region 1 with fail
 generalize w.alloc (.cells #[.pointer (some ⟨f,0,none⟩)] 31)=V1 at *
 have n2:=nxA V1 (.cells #[tx []] 9)
 have y2:=Bx.new V1 #[tx []] 9
 have s2:(V1.alloc (.cells #[tx []] 9)).heap.size=w.heap.size+1+1:=by simp[s1]
 generalize V1.alloc (.cells #[tx []] 9)=V2 at *
 have n3:=nxA V2 (.cells #[.int .i64 0] 26)
 have y3:=Bx.new V2 #[.int .i64 0] 26
 have s3:(V2.alloc (.cells #[.int .i64 0] 26)).heap.size=w.heap.size+1+1+1:=by simp[s2]
 generalize V2.alloc (.cells #[.int .i64 0] 26)=V3 at *
 rw[s1] at y2
 rw[s2] at y3
 have x2:=(y1.next n2).next n3
 have x4:=y2.next n3
 have x5:=y3
 have ao:=qG (n1.trans ((n2.trans (n3.mono n2.size)).mono n1.size))
 obtain⟨b2,aA⟩:∃ b2,b2=w.heap.size:=⟨_,rfl⟩
 obtain⟨b4,ae⟩:∃ b4,b4=w.heap.size+1:=⟨_,rfl⟩
 obtain⟨b5,aB⟩:∃ b5,b5=w.heap.size+1+1:=⟨_,rfl⟩
 have aa:=qG (show w.heap.size<=b2/\b2<b4/\b4<b5/\b5<V3.heap.size by omega)
 rw[<- aA] at x2
 rw[<- ae] at x4
 rw[<- aB] at x5
 rw[<- aB,<- ae,<- aA]
 have X2:=qG x2
 have X4:=qG x4
 have X5:=qG x5
 clear n1 n2 n3 y1 y2 y3 s1 s2 s3 aA ae aB x2 x4 x5
 have ac:=qG (aj.o.below ao.o)
 have aT:=qG (show V3.rangeAt f 0 (bkL R s) from fun j v hv=>by
  have hj:=(qO.1 hv).1
  rw[Nat.zero_add]
  exact ac.o.box.c j v (by unfold flL;rw[List.getElem?_append_left hj];exact hv))
 have aU:=qG (show(bkL R s).length=13 from rfl)
 have h2:=X2.o.c 0 _ rfl
 have aV:∀ c∈cs,At V3 V3.heap.size 1 zad c.A c.piece/\c.piece.length<=100000:=fun c hc=>by
  obtain⟨i,hi⟩:=List.getElem?_of_mem hc
  obtain⟨h5,-,h6⟩:=zka ac.o an.o hi
  exact⟨h5.pa,by omega⟩
 have aW:=qG (zg9 R cs ps s V3 ac.o.own.row ac.o.h.ro ac.o.h.ec aV (by
  have b:=an.o.b
  have t:=b.okT
  have h1:=b.nc
  have h2:=b.nr
  have h3:=an.o.dd
  have h4:=b.nm
  have h5:=t.lo
  have h6:=t.lk
  have h7:=t.a2
  have h8:=an.o.n8
  have h9:cs.length=s.b.cuts.length:=by rw[<- ac.o.h.ec,List.length_map]
  have bQ:=ac.o.h.hp.len
  unfold Ru.dieS Ru.inS at h3
  simp only[Bool.and_eq_true,qC] at h3
  refine⟨?_,?_,?_,?_,?_,?_,?_⟩ <;> omega))
 obtain⟨LB,aC⟩:∃ LB,LB=bkL R s:=⟨_,rfl⟩
 rw[<- aC] at aT aU aW
 have bR:=qG aC
 clear aV aC
 go_wp2_with (refine wpList_load_mid rfl 82 (.tmp 9) rfl f 0 rfl LB _ aT.o Tryz.underlying82 rfl (by rw[aU.o];kernel_rfl) ?_)
 refine aW.o.mono ?_
 rintro e V4 ⟨ae,R4,cs4,rfl,aD,aE,F,b3,aX,hF,aF,aY⟩
 have aG:=qG ae
 have bp:=qG aD
 have bq:=qG aE
 have HF:=qG hF
 have aH:=qG (show V3.heap.size<=b3 from aX)
 have bv:=qG aF
 have bw:=qG aY
 have aZ:=qG (show ∀ k,k<7->(R4 k).ok V4 from fun k hk=>(hF.ok k _ (aF k hk)).1)
 obtain⟨LN,ak⟩:∃ LN,LN=bkL R4 s:=⟨_,rfl⟩
 rw[<- ak]
 have a7:=qG ak
 have ah:=qG (show LN.length=13 from by rw[ak];rfl)
 have bz:=qG (show LN.toArray.all (·.oneCell')=true from all_oneCell_toArray (by rw[ak];exact zct R4 s aZ.o))
 have aq:=qG (Bx.new V4 #[.int .i64 0,.slice none 0 0,.slice none 0 0,.slice none 0 0,.int .i64 0,.slice none 0 0,.slice none 0 0,.slice none 0 0,.int .i64 0,.int .i64 0,.bool false,.slice none 0 0,.int .i64 0] 82)
 have aI:=qG (nxA V4 (.cells #[.int .i64 0,.slice none 0 0,.slice none 0 0,.slice none 0 0,.int .i64 0,.slice none 0 0,.slice none 0 0,.slice none 0 0,.int .i64 0,.int .i64 0,.bool false,.slice none 0 0,.int .i64 0] 82))
 have a8:(V4.alloc (.cells #[.int .i64 0,.slice none 0 0,.slice none 0 0,.slice none 0 0,.int .i64 0,.slice none 0 0,.slice none 0 0,.slice none 0 0,.int .i64 0,.int .i64 0,.bool false,.slice none 0 0,.int .i64 0] 82)).there V4.heap.size 0 LN.toArray.size:=by
  intro j hj
  have h9:j<LN.length:=by simpa using hj
  rw[ah.o] at h9
  rw[Nat.zero_add]
  exact⟨by rw[aq.o.c j _ (qN (show j<13 from h9))];rfl,aq.o.fr j⟩
 have a9:=qG a8
 have aJ:=aq.o.setAll LN ah.o
 rw[<- zbk] at aJ
 have aK:=qG aJ
 have ar:=qG (zeF (O:=fun x=>x=V4.heap.size) (.of_below aI.o) rfl LN 0)
 have au:=qG (zac (b:=V4.heap.size) (qQ _) LN 0 aI.o)
 rw[<- zbk] at ar au
 clear ae aD aE hF aX aF aY ak a8 aJ h2
 go_upto_region 2 with (refine wpList_store_mid rfl 82 (.tmp 6) (.tmp 11) rfl _ 0 LN.toArray rfl rfl a9.o (by rw[List.size_toArray,ah.o];kernel_rfl) bz.o ?_)
 obtain⟨b6,aL⟩:∃ b6,b6=V4.heap.size:=⟨_,rfl⟩
 rw[<- aL] at aK ar au ⊢
 have ai:=qG (show V4.heap.size=b6 from aL.symm)
 clear aL
 try simp only[Act.put]
 generalize(V4.alloc (.cells #[.int .i64 0,.slice none 0 0,.slice none 0 0,.slice none 0 0,.int .i64 0,.slice none 0 0,.slice none 0 0,.slice none 0 0,.int .i64 0,.int .i64 0,.bool false,.slice none 0 0,.int .i64 0] 82)).setCells b6 0 LN=V6 at *
 have aM:w.heap.size<=V3.heap.size:=ao.o.size
 have aN:V3.heap.size<=V4.heap.size:=aG.o.size
 have bA:b6<V6.heap.size:=aK.o.lt
 have aO:Below V4.heap.size V4 V6:=by have:=au.o;rw[<- ai.o] at this;exact this
 have ab:=aG.o.trans (aO.mono aN)
 have af:=qG (ao.o.trans (ab.mono aM))
 have bB:=qG (X2.o.next ab)
 have ba:=qG (X4.o.next ab)
 have aP:=qG (X5.o.next ab)
 have bC:=qG (show FlAt (tryO O b4 b5) V6 f R cs ps d s from aj.o.widen af.o (fun b hb=>by
  have h1:=aa.o
  have h2:=ai.o
  rcases hb with hb|rfl|rfl
  .exact .inl hb
  .exact .inr (by omega)
  .exact .inr (by omega)) (fun b hb=>.inl hb))
 have bD:=qG (HF.o.keep ar.o (fun j r g e hg _=>by have h1:=HF.o.lt e hg;have h2:=ai.o;exact fun(e9:g=b6)=>by omega))
 have aw:=qG (show ∀ b,w.heap.size<=b->¬ zao f R b from fun b hb k=>by have:=aj.o.own.is_lt _ k;omega)
 clear aM aN bA ab aO ar au aq aI a9
 go_wp2_with fail
 refine(HW.o (tryO O b4 b5) V6 bC.o (fun b hb=>by
  have h1:=aa.o
  rcases hb with hb|rfl|rfl
  .exact .inl hb
  .exact .inr (by omega)
  .exact .inr (by omega)) af.o).mono ?_
 intro e w7 hr
 cases r with
|ok x=>
  obtain⟨s',t⟩:=x
  obtain⟨rfl,R7,cs7,ps7,bf,ax⟩:=hr
  have bu:=qG bf
  have ay:=qG ax
  have aQ:=qG (ax.k.bx ba.o (aw.o b4 (by have:=aa.o;omega)))
  have aR:=qG (ax.k.bx aP.o (aw.o b5 (by have:=aa.o;omega)))
  have x4:=aQ.o.c 0 _ rfl
  have z4:=aQ.o.fr 0
  have x5:=aR.o.c 0 _ rfl
  have z5:=aR.o.fr 0
  have n45:b4≠b5:=by have:=aa.o;omega
  clear bf ax
  go_wp2_with fail
  refine leaves_cons (f:=126) (args:=#[.pointer (some ⟨b6,0,none⟩),.pointer (some ⟨b2,0,none⟩),.pointer (some ⟨b4,0,none⟩),.pointer (some ⟨b5,0,none⟩)]) (by simp) (by simp[go_sem]) ?_
  refine(zmc _ _ _ _ _).mono ?_
  rintro e u' w'' ⟨rfl,rfl,rfl⟩
  have bE:=(aQ.o.set (k:=0) (by simp) (tx t)).other (g:=b5) n45 0 (.int .i64 0)
  have bF:=(aR.o.other (g:=b4) (fun e=>n45 e.symm) 0 (tx t)).set (k:=0) (by simp) (.int .i64 0)
  have bG:Keep (fun x=>x=b4\/x=b5) w7 ((w7.setCell ⟨b4,0,none⟩ (tx t)).setCell ⟨b5,0,none⟩ (.int .i64 0)):=((Keep.refl _ w7).setCell (.inl rfl) 0 _).setCell (.inr rfl) 0 _
  refine⟨_,zbB rfl rfl rfl (zep bE) (zgS bF),rfl,R7,cs7,ps7,?_,?_⟩
  .refine bu.o.keepO bG (fun b hb=>.inl (.inr hb)) (fun b hb hp=>?_) (fun b hb=>hb.elim (fun x=>.inl (.inl x)) .inr) (fun b hb=>.inr hb)
   have h1:=aa.o
   have h2:=aw.o
   have h3:=af.o.size
   have h4:=aP.o.lt
   rcases hp with rfl|rfl
   .exact h2 _ (by omega) (ay.o.n _ (by omega) hb)
   .exact h2 _ (by omega) (ay.o.n _ (by omega) hb)
  .have aS:Keep (zao f R) w w7:=(show Keep (zao f R) w V6 from .of_below af.o).trans ay.o.k (fun _ _ x=>x)
   exact⟨(aS.setC (fun h=>by have:=aa.o;omega) 0 _).setC (fun h=>by have:=aa.o;omega) 0 _,fun x hx ho=>ay.o.n x (qM hx af.o.size) ho⟩
|error c=>
  obtain⟨rfl,bh,vs,bi,bj⟩:=hr
  have ag:=qG bh
  have bH:=qG bi
  have bI:=qG bj
  clear bh bi bj
  dsimp only
  go_wp2_with fail
  refine leaves_cons (f:=126) (args:=#[.pointer (some ⟨b6,0,none⟩),.pointer (some ⟨b2,0,none⟩),.pointer (some ⟨b4,0,none⟩),.pointer (some ⟨b5,0,none⟩)]) (by simp) (by simp[go_sem]) ?_
  have am:=aw.o
  have bS:=aa.o
  have aM:w.heap.size<=V3.heap.size:=ao.o.size
  have aN:V3.heap.size<=V4.heap.size:=aG.o.size
  have bN:=ai.o
  have az:=aj.o.own.lt
  have h6:=ag.o.bx aK.o (am b6 (by omega))
  have h2:=ag.o.bx bB.o (am b2 (by omega))
  have h4:=ag.o.bx ba.o (am b4 (by omega))
  have h5:=ag.o.bx aP.o (am b5 (by omega))
  refine(zhq b6 b2 b4 b5 f LN vs (dieL d) (tx []) (.int .i64 0) c [] w7 h6 ah.o bH.o (fun v hv=>by rw[a7.o] at hv;exact zct R4 s aZ.o v hv) (h2.c 0 _ rfl) bI.o h4 h5 (by omega) (by omega) (by omega)).mono ?_
  rintro e u' w9 ⟨rfl,rfl,hx,bJ,bK,bk⟩
  refine⟨_,zbB rfl rfl rfl (zep bJ) (zgS bK),?_⟩
  have aS:Keep (zao f R) w w7:=(show Keep (zao f R) w V6 from .of_below af.o).trans ag.o (fun _ _ x=>x)
  have bL:=bD.o.keep ag.o (fun j r g e hg hb=>am g (by have:=aH.o;omega))
  have bM:=bL.keep bk (fun j r g e hg hb=>by have:=aH.o;rintro(rfl|rfl|rfl) <;> omega)
  obtain⟨q1,q2⟩:=zpV aj.o bp.o bq.o bM (by have:=aH.o;omega) bv.o bw.o (aS.trans bk (fun g hg h=>by rcases h with rfl|rfl|rfl;exact .inl rfl;all_goals omega)) (by rw[a7.o] at hx;exact hx)
  exact⟨rfl,R4,cs4,ps,q1,q2⟩
theorem zpw(O:Nat->Prop)(w:World)(f:Nat)(R:Nat->Rw)(cs:List Cu.Cut)(ps:List Pq)(d:Ru.Die)(s:St)(A:Option Addr)(c:Nat)(a:Int)(hp:Pre O w f R cs ps d s A c [a]) :
  Calls Tryz.prog 197 #[.pointer (some ⟨f,0,none⟩),.slice A 1 c] w (RetF O w f R d (resV d s .who [a])):=by
 obtain⟨A0,c0,A1,c1,A2,c2,A3,c3,A4,c4,A5,c5,A6,c6,hs⟩:=hp.fl.sees
 obtain⟨b,off,rfl,am,ac,na⟩:=hp.na.get (k:=0) (by simp)
 have na:w.cell? ⟨b,off,none⟩=some (.int .i64 a):=na
 have ae:b≠f:=fun e=>ac (hp.fl.sub b (.inl e))
 have aq:=qG ae
 have ar:=qG ac
 have af:=qG na
 have au:1<=c:=hp.nc
 clear ac ae am
 have HP:=qG hp
 have HS:=qG hs
 clear hp hs
 have ag:=qG (HS.o.x.c 4 _ rfl)
 have ah:=qG (HS.o.x.c 5 _ rfl)
 have ai:=qG (HS.o.x.c 6 _ rfl)
 have aj:=qG (HS.o.x.c 7 _ rfl)
 have an:=qG (HS.o.tale HP.o)
 go_enter Tryz.func197,Tryz.ntmps197
 go_upto_region 1 with fail
 refine wp_region_noPanic ?_
 refine wp_region_held_drew (S:=(fun W=>W.cell? ⟨b,off,none⟩=some (.int .i64 a)/\W.cell? ⟨f,4,none⟩=some (.int .i64 s.b.t.n)/\W.cell? ⟨f,5,none⟩=some (.slice A3 s.b.t.loans.length c3)/\W.cell? ⟨f,6,none⟩=some (.slice A4 s.b.t.looks.length c4)/\W.cell? ⟨f,7,none⟩=some (.slice A5 s.b.t.admits.length c5))) (by kernel_rfl) ?_ (fun ab=>?_)
 ·(try dsimp only);exact⟨af.o,ag.o,ah.o,ai.o,aj.o⟩
 refine ht 0 (h:=?_)
 refine ht 1 (h:=?_)
 refine ht 2 (h:=?_)
 refine ht 3 (h:=?_)
 refine ht 4 (h:=?_)
 refine ht 5 (h:=?_)
 refine ht 6 (h:=?_)
 refine ht 7 (h:=?_)
 refine ht 8 (h:=?_)
 refine r1 (i:=9) (by kernel_rfl) rfl fun K hK=>?_
 go_simp
 refine(zqt ⟨s.b.t,A3,c3,A4,c4,A5,c5⟩ a _ (an.o.next ((Below.refl _ w).drew)) (HP.o.env.deb.next ((Below.refl _ w).drew))).mono ?_;rintro e V ⟨rfl,aa⟩;have HB:=qG (show Below w.heap.size w V from(Below.refl _ w).drew.trans aa);clear aa;simp only[znw]
 refine hK.out _ _ ?_ (fun ab=>?_)
 ·(try dsimp only);exact⟨n2 HB.o af.o,n2 HB.o ag.o,n2 HB.o ah.o,n2 HB.o ai.o,n2 HB.o aj.o⟩
 clear hK K
 try simp only[qW]
 refine ht 10 (h:=?_)
 refine ht 11 (h:=?_)
 refine ht 12 (h:=?_)
 refine ht 13 (h:=?_)
 refine ht 14 (h:=?_)
 refine wpAnyH_done (by kernel_rfl) ?_ _
 refine NoPanic.normal ?_
 iterate 16 (try clear ab)
 go_wp2_with fail
 refine(zc3 _ V).mono ?_
 rintro e w' ⟨rfl,⟨h,rfl⟩|⟨h,rfl⟩⟩
 .have ak:=qG (show ∀ x∈[Pa.w Vb.who.name,Pa.n (((whoS s.b.t a).1:Nat))],x.ok from by simp only[List.forall_mem_cons];exact⟨by show _<=20;decide,zl6 _ _,fun x hx=>by cases hx⟩)
  go_wp2_with fail
  refine(zbf V [Pa.w Vb.who.name,Pa.n (((whoS s.b.t a).1:Nat))] (HP.o.env.next HB.o) (by simp) (by simp) ak.o).mono ?_
  rintro e V9 ⟨rfl,aa⟩
  have ao:=qG aa
  clear aa
  go_wp2_with fail
  go_ret
  rw[show resV d s .who [a]=.ok (s,rep [Pa.w Vb.who.name,Pa.n (((whoS s.b.t a).1:Nat))]) from by unfold resV doV;simp only[List.getD_cons_zero];rw[if_neg (by omega)];rfl]
  exact zei HP.o.fl (HB.o.trans (ao.o.mono HB.o.size)) rfl
 .rw[show resV d s .who [a]=.error (whoS s.b.t a).2 from by unfold resV doV;simp only[List.getD_cons_zero];rw[if_pos h]]
  exact⟨rfl,zau HP.o.fl HB.o rfl⟩
theorem zn6(O:Nat->Prop)(w:World)(f:Nat)(R:Nat->Rw)(cs:List Cu.Cut)(ps:List Pq)(d:Ru.Die)(s:St)(A:Option Addr)(c:Nat)(a:Int)(hp:Pre O w f R cs ps d s A c [a]) :
  Calls Tryz.prog 198 #[.pointer (some ⟨f,0,none⟩),.slice A 1 c] w (RetF O w f R d (resV d s .lost [a])):=by
 obtain⟨A0,c0,A1,c1,A2,c2,A3,c3,A4,c4,A5,c5,A6,c6,hs⟩:=hp.fl.sees
 obtain⟨b,off,rfl,aw,aj,na⟩:=hp.na.get (k:=0) (by simp)
 have na:w.cell? ⟨b,off,none⟩=some (.int .i64 a):=na
 have ak:b≠f:=fun e=>aj (hp.fl.sub b (.inl e))
 have ay:=qG ak
 have az:=qG aj
 have ae:=qG na
 have aA:1<=c:=hp.nc
 clear aj ak aw
 have HP:=qG hp
 have HS:=qG hs
 clear hp hs
 have af:=qG (HS.o.x.c 4 _ rfl)
 have ag:=qG (HS.o.x.c 5 _ rfl)
 have ah:=qG (HS.o.x.c 6 _ rfl)
 have ai:=qG (HS.o.x.c 7 _ rfl)
 have am:=qG (HS.o.tale HP.o)
 go_enter Tryz.func198,Tryz.ntmps198
 go_upto_region 1 with fail
 go_cut [5,6] (fun s5 s6 wx=>zko ((zaX s.b.t a).1.1) ((zaX s.b.t a).1.2) ((zaX s.b.t a).2) w s5 s6 wx)
 case first=>
  refine wp_region_noPanic ?_
  refine wp_region_held_drew (S:=(fun W=>W.cell? ⟨b,off,none⟩=some (.int .i64 a)/\W.cell? ⟨f,4,none⟩=some (.int .i64 s.b.t.n)/\W.cell? ⟨f,5,none⟩=some (.slice A3 s.b.t.loans.length c3)/\W.cell? ⟨f,6,none⟩=some (.slice A4 s.b.t.looks.length c4)/\W.cell? ⟨f,7,none⟩=some (.slice A5 s.b.t.admits.length c5))) (by kernel_rfl) ?_ (fun ac=>?_)
  ·(try dsimp only);exact⟨ae.o,af.o,ag.o,ah.o,ai.o⟩
  refine ht 0 (h:=?_)
  refine ht 1 (h:=?_)
  refine ht 2 (h:=?_)
  refine ht 3 (h:=?_)
  refine ht 4 (h:=?_)
  refine ht 5 (h:=?_)
  refine ht 6 (h:=?_)
  refine ht 7 (h:=?_)
  refine ht 8 (h:=?_)
  refine wpAnyH_ready (rs:=[9,13]) (by kernel_rfl) (by simp) ?_
  refine zab rfl (fun K hK=>?_) (zab rfl (fun K hK=>?_) (AllReadyH.nil))
  go_simp
  refine(zkp ⟨s.b.t,A3,c3,A4,c4,A5,c5⟩ a _ (am.o.next (by first|exact(Below.refl _ w).drew|exact(nxA w _).drew))).mono ?_;rintro e V ⟨rfl,aa⟩;have HB:=qG (show Below w.heap.size w V from by first|exact(Below.refl _ w).drew.trans aa|exact(nxA w (.cells #[.int .i64 0,.int .i64 0] 61)).drew.trans (aa.mono (by simp)));(try have ab:=qG ((Bx.new w #[.int .i64 0,.int .i64 0] 61).drew.next aa);have z0:=ab.o.c 0 _ rfl;have z1:=ab.o.c 1 _ rfl;have y0:=ab.o.fr 0;have y1:=ab.o.fr 1;have zl:=ab.o.lt);clear aa;simp only[zhw]
  refine hK.out _ _ ?_ (fun ac=>?_)
  ·(try dsimp only);exact⟨n2 HB.o ae.o,n2 HB.o af.o,n2 HB.o ag.o,n2 HB.o ah.o,n2 HB.o ai.o⟩
  clear hK K
  try simp only[qW]
  refine ht 10 (h:=?_)
  refine ht 11 (h:=?_)
  refine ht 12 (h:=?_)
  refine r1 (i:=13) (by kernel_rfl) rfl fun K hK=>?_
  go_simp
  refine hK.out _ _ ?_ (fun ac=>?_)
  ·(try dsimp only);first|exact⟨(n3 V (n2 HB.o ae.o)).trans rfl,(n3 V (n2 HB.o af.o)).trans rfl,(n3 V (n2 HB.o ag.o)).trans rfl,(n3 V (n2 HB.o ah.o)).trans rfl,(n3 V (n2 HB.o ai.o)).trans rfl⟩|exact⟨(n3 w ae.o).trans rfl,(n3 w af.o).trans rfl,(n3 w ag.o).trans rfl,(n3 w ah.o).trans rfl,(n3 w ai.o).trans rfl⟩
  clear hK K
  try simp only[qW]
  rotate_left
  go_simp
  refine hK.out _ _ ?_ (fun ac=>?_)
  ·(try dsimp only);first|exact⟨(n3 V (n2 HB.o ae.o)).trans rfl,(n3 V (n2 HB.o af.o)).trans rfl,(n3 V (n2 HB.o ag.o)).trans rfl,(n3 V (n2 HB.o ah.o)).trans rfl,(n3 V (n2 HB.o ai.o)).trans rfl⟩|exact⟨(n3 w ae.o).trans rfl,(n3 w af.o).trans rfl,(n3 w ag.o).trans rfl,(n3 w ah.o).trans rfl,(n3 w ai.o).trans rfl⟩
  clear hK K
  try simp only[qW]
  refine r1 (i:=9) (by kernel_rfl) rfl fun K hK=>?_
  go_simp
  refine(zkp ⟨s.b.t,A3,c3,A4,c4,A5,c5⟩ a _ (am.o.next (by first|exact(Below.refl _ w).drew|exact(nxA w _).drew))).mono ?_;rintro e V ⟨rfl,aa⟩;have HB:=qG (show Below w.heap.size w V from by first|exact(Below.refl _ w).drew.trans aa|exact(nxA w (.cells #[.int .i64 0,.int .i64 0] 61)).drew.trans (aa.mono (by simp)));(try have ab:=qG ((Bx.new w #[.int .i64 0,.int .i64 0] 61).drew.next aa);have z0:=ab.o.c 0 _ rfl;have z1:=ab.o.c 1 _ rfl;have y0:=ab.o.fr 0;have y1:=ab.o.fr 1;have zl:=ab.o.lt);clear aa;simp only[zhw]
  refine hK.out _ _ ?_ (fun ac=>?_)
  ·(try dsimp only);exact⟨n2 HB.o ae.o,n2 HB.o af.o,n2 HB.o ag.o,n2 HB.o ah.o,n2 HB.o ai.o⟩
  clear hK K
  try simp only[qW]
  refine ht 10 (h:=?_)
  refine ht 11 (h:=?_)
  refine ht 12 (h:=?_)
  all_goals
   refine r1 (i:=14) (by kernel_rfl) rfl fun K hK=>?_
   go_simp
   refine hK.out _ _ ?_ (fun ac=>?_)
   ·(try dsimp only);first|exact⟨(n3 V (n2 HB.o ae.o)).trans rfl,(n3 V (n2 HB.o af.o)).trans rfl,(n3 V (n2 HB.o ag.o)).trans rfl,(n3 V (n2 HB.o ah.o)).trans rfl,(n3 V (n2 HB.o ai.o)).trans rfl⟩|exact⟨(zal (Nat.ne_of_lt (zaa ae.o))).trans (n2 HB.o ae.o),(zal (Nat.ne_of_lt (zaa af.o))).trans (n2 HB.o af.o),(zal (Nat.ne_of_lt (zaa ag.o))).trans (n2 HB.o ag.o),(zal (Nat.ne_of_lt (zaa ah.o))).trans (n2 HB.o ah.o),(zal (Nat.ne_of_lt (zaa ai.o))).trans (n2 HB.o ai.o)⟩
   clear hK K
   try simp only[qW]
   refine ht 15 (h:=?_)
   refine wpAnyH_done (by kernel_rfl) ?_ _
   refine NoPanic.normal ?_
  iterate 17 (try clear ac)
  all_goals
   go_wp2_with fail
   go_meet
   first
   |exact⟨rfl,_,rfl,Bx.new V #[.int .i64 ((zaX s.b.t a).1.1),.int .i64 ((zaX s.b.t a).1.2)] 61,HB.o.trans ((nxA V _).mono HB.o.size)⟩
   |exact⟨rfl,_,rfl,(ab.o.set (k:=0) (by simp) _).set (k:=1) (by simp) _,(HB.o.setCell (qQ _) _).setCell (qQ _) _⟩
 case rest=>
  obtain⟨rfl,b5,rfl,an,ao⟩:=hcut
  have aq:=qG an
  have HB:=qG ao
  clear an ao
  go_wp2_with fail
  refine(zc3 _ wc).mono ?_
  rintro e w' ⟨rfl,⟨h,rfl⟩|⟨h,rfl⟩⟩
  .have ar:=qG (zkW HP.o.ok.b.okT a h)
   have w0:=aq.o.c 0 _ rfl
   have w1:=aq.o.c 1 _ rfl
   have au:=qG (show ∀ x∈[Pa.w Vb.lost.name,Pa.n ((zaX s.b.t a).1.1),Pa.n ((zaX s.b.t a).1.2)],x.ok from by simp only[List.forall_mem_cons];exact⟨by show _<=20;decide,ar.o.1,ar.o.2,fun x hx=>by cases hx⟩)
   go_wp2_with fail
   refine(zbf wc [Pa.w Vb.lost.name,Pa.n ((zaX s.b.t a).1.1),Pa.n ((zaX s.b.t a).1.2)] (HP.o.env.next HB.o) (by simp) (by simp) au.o).mono ?_
   rintro e V9 ⟨rfl,aa⟩
   have ax:=qG aa
   clear aa
   go_wp2_with fail
   go_ret
   rw[show resV d s .lost [a]=.ok (s,rep [Pa.w Vb.lost.name,Pa.n ((zaX s.b.t a).1.1),Pa.n ((zaX s.b.t a).1.2)]) from by unfold resV doV;simp only[List.getD_cons_zero];rw[if_neg (by omega)];rfl]
   exact zei HP.o.fl (HB.o.trans (ax.o.mono HB.o.size)) rfl
  .rw[show resV d s .lost [a]=.error (zaX s.b.t a).2 from by unfold resV doV;simp only[List.getD_cons_zero];rw[if_pos h]]
   exact⟨rfl,zau HP.o.fl HB.o rfl⟩
theorem zfr(O:Nat->Prop)(w:World)(f:Nat)(R:Nat->Rw)(cs:List Cu.Cut)(ps:List Pq)(d:Ru.Die)(s:St)(A:Option Addr)(c:Nat)(a:Int)(hp:Pre O w f R cs ps d s A c [a]) :
  Calls Tryz.prog 192 #[.pointer (some ⟨f,0,none⟩),.slice A 1 c] w (RetF O w f R d (resV d s .off [a])):=by
 obtain⟨A0,c0,A1,c1,A2,c2,A3,c3,A4,c4,A5,c5,A6,c6,hs⟩:=hp.fl.sees
 obtain⟨b,off,rfl,aH,ax,na⟩:=hp.na.get (k:=0) (by simp)
 have na:w.cell? ⟨b,off,none⟩=some (.int .i64 a):=na
 have aB:b≠f:=fun e=>ax (hp.fl.sub b (.inl e))
 have aL:=qG aB
 have aM:=qG ax
 have ah:=qG na
 have aN:1<=c:=hp.nc
 clear ax aB aH
 have HP:=qG hp
 have HS:=qG hs
 clear hp hs
 have F2:=HS.o.x.c 2 _ rfl
 go_enter Tryz.func192,Tryz.ntmps192
 go_wp2_with fail
 refine(zir f a A1 s.b.ran.length c1 w F2).mono ?_
 rintro e w' ⟨rfl,⟨h,rfl⟩|⟨h,rfl⟩⟩
 .have h0:0<=a:=(HP.o.nn a (qE ..)).1
  have hk:a.toNat<s.b.ran.length:=by omega
  obtain⟨g1,eg,⟨cap,ev⟩,x1,x2⟩:=Rw.ok.cell (HP.o.fl.own.row 1 (by decide)) (j:=a.toNat) (u:=.int .i64 (s.b.ran.getD a.toNat 0)) (by
   rw[HP.o.fl.h.ro.r1.2.2.2,<- zaO (cells:=zad) (size:=1) (fun _=>rfl) s.b.ran a.toNat (s.b.ran.getD a.toNat 0) 0 (.int .i64 (s.b.ran.getD a.toNat 0)) (by rw[qP,qN hk];rfl) rfl]
   rw[Nat.mul_one,Nat.add_zero])
  have aI:A1=some ⟨g1,0,none⟩:=by have:=HS.o.e1;rw[ev] at this;injection this with e1 _ _;exact e1.symm
  subst aI
  obtain⟨rv,ay⟩:∃ rv,rv=s.b.ran.getD a.toNat 0:=⟨_,rfl⟩
  rw[<- ay] at x1
  have az:=qG ay
  clear ay
  have aj:=qG x1
  have ak:=qG F2
  have ac:=qG (HS.o.x.c 13 _ rfl)
  have ae:=qG (HS.o.x.c 14 _ rfl)
  have af:=qG (HS.o.x.c 15 _ rfl)
  have ag:=qG (HS.o.x.c 16 _ rfl)
  have aC:=qG (HP.o.fl.dieAt HP.o.ok.dd)
  clear x1 x2 F2 na
  have na:=ah.o
  clear na
  have aO:a<(s.b.ran.length:Int):=h
  go_upto_region 2 with fail
  go_cut [5,6] (fun s5 s6 wx=>zko ((Ru.offS d a rv).1.1) ((Ru.offS d a rv).1.2) ((Ru.offS d a rv).2) w s5 s6 wx)
  case first=>
   refine wp_region_noPanic ?_
   refine wp_region_held_drew (S:=(fun W=>W.cell? ⟨b,off,none⟩=some (.int .i64 a)/\W.cell? ⟨f,2,none⟩=some (.slice (some ⟨g1,0,none⟩) s.b.ran.length c1)/\W.cell? ⟨g1,a.toNat,none⟩=some (.int .i64 rv)/\W.cell? ⟨f,13,none⟩=some (.slice d.A d.blades.length d.c)/\W.cell? ⟨f,14,none⟩=some (.int .i64 d.bound)/\W.cell? ⟨f,15,none⟩=some (.int .i64 d.stop)/\W.cell? ⟨f,16,none⟩=some (.int .i64 d.bend))) (by kernel_rfl) ?_ (fun aa=>?_)
   ·(try dsimp only);exact⟨ah.o,ak.o,aj.o,ac.o,ae.o,af.o,ag.o⟩
   refine ht 0 (h:=?_)
   refine ht 1 (h:=?_)
   refine ht 2 (h:=?_)
   refine ht 3 (h:=?_)
   refine ht 4 (h:=?_)
   refine ht 5 (h:=?_)
   refine ht 6 (h:=?_)
   refine ht 7 (h:=?_)
   refine ht 8 (h:=?_)
   refine ht 9 (h:=?_)
   refine ht 10 (h:=?_)
   refine ht 11 (h:=?_)
   refine ht 12 (h:=?_)
   refine ht 13 (h:=?_)
   refine ht 14 (h:=?_)
   refine ht 15 (h:=?_)
   refine ht 16 (h:=?_)
   refine ht 17 (h:=?_)
   refine wpAnyH_ready (rs:=[18,22]) (by kernel_rfl) (by simp) ?_
   refine zab rfl (fun K hK=>?_) (zab rfl (fun K hK=>?_) (AllReadyH.nil))
   go_simp
   refine(Ru.zfG d a rv _ (aC.o.next (by first|exact(Below.refl _ w).drew|exact(nxA w _).drew))).mono ?_;rintro e V ⟨rfl,ab⟩;have HB:=qG (show Below w.heap.size w V from by first|exact(Below.refl _ w).drew.trans ab|exact(nxA w (.cells #[.int .i64 0,.int .i64 0] 61)).drew.trans (ab.mono (by simp)));(try have ai:=qG ((Bx.new w #[.int .i64 0,.int .i64 0] 61).drew.next ab);have z0:=ai.o.c 0 _ rfl;have z1:=ai.o.c 1 _ rfl;have y0:=ai.o.fr 0;have y1:=ai.o.fr 1;have zl:=ai.o.lt);clear ab;simp only[Ru.zdZ]
   refine hK.out _ _ ?_ (fun aa=>?_)
   ·(try dsimp only);exact⟨n2 HB.o ah.o,n2 HB.o ak.o,n2 HB.o aj.o,n2 HB.o ac.o,n2 HB.o ae.o,n2 HB.o af.o,n2 HB.o ag.o⟩
   clear hK K
   try simp only[qW]
   refine ht 19 (h:=?_)
   refine ht 20 (h:=?_)
   refine ht 21 (h:=?_)
   refine r1 (i:=22) (by kernel_rfl) rfl fun K hK=>?_
   go_simp
   refine hK.out _ _ ?_ (fun aa=>?_)
   ·(try dsimp only);first|exact⟨(n3 V (n2 HB.o ah.o)).trans rfl,(n3 V (n2 HB.o ak.o)).trans rfl,(n3 V (n2 HB.o aj.o)).trans rfl,(n3 V (n2 HB.o ac.o)).trans rfl,(n3 V (n2 HB.o ae.o)).trans rfl,(n3 V (n2 HB.o af.o)).trans rfl,(n3 V (n2 HB.o ag.o)).trans rfl⟩|exact⟨(n3 w ah.o).trans rfl,(n3 w ak.o).trans rfl,(n3 w aj.o).trans rfl,(n3 w ac.o).trans rfl,(n3 w ae.o).trans rfl,(n3 w af.o).trans rfl,(n3 w ag.o).trans rfl⟩
   clear hK K
   try simp only[qW]
   rotate_left
   go_simp
   refine hK.out _ _ ?_ (fun aa=>?_)
   ·(try dsimp only);first|exact⟨(n3 V (n2 HB.o ah.o)).trans rfl,(n3 V (n2 HB.o ak.o)).trans rfl,(n3 V (n2 HB.o aj.o)).trans rfl,(n3 V (n2 HB.o ac.o)).trans rfl,(n3 V (n2 HB.o ae.o)).trans rfl,(n3 V (n2 HB.o af.o)).trans rfl,(n3 V (n2 HB.o ag.o)).trans rfl⟩|exact⟨(n3 w ah.o).trans rfl,(n3 w ak.o).trans rfl,(n3 w aj.o).trans rfl,(n3 w ac.o).trans rfl,(n3 w ae.o).trans rfl,(n3 w af.o).trans rfl,(n3 w ag.o).trans rfl⟩
   clear hK K
   try simp only[qW]
   refine r1 (i:=18) (by kernel_rfl) rfl fun K hK=>?_
   go_simp
   refine(Ru.zfG d a rv _ (aC.o.next (by first|exact(Below.refl _ w).drew|exact(nxA w _).drew))).mono ?_;rintro e V ⟨rfl,ab⟩;have HB:=qG (show Below w.heap.size w V from by first|exact(Below.refl _ w).drew.trans ab|exact(nxA w (.cells #[.int .i64 0,.int .i64 0] 61)).drew.trans (ab.mono (by simp)));(try have ai:=qG ((Bx.new w #[.int .i64 0,.int .i64 0] 61).drew.next ab);have z0:=ai.o.c 0 _ rfl;have z1:=ai.o.c 1 _ rfl;have y0:=ai.o.fr 0;have y1:=ai.o.fr 1;have zl:=ai.o.lt);clear ab;simp only[Ru.zdZ]
   refine hK.out _ _ ?_ (fun aa=>?_)
   ·(try dsimp only);exact⟨n2 HB.o ah.o,n2 HB.o ak.o,n2 HB.o aj.o,n2 HB.o ac.o,n2 HB.o ae.o,n2 HB.o af.o,n2 HB.o ag.o⟩
   clear hK K
   try simp only[qW]
   refine ht 19 (h:=?_)
   refine ht 20 (h:=?_)
   refine ht 21 (h:=?_)
   all_goals
    refine r1 (i:=23) (by kernel_rfl) rfl fun K hK=>?_
    go_simp
    refine hK.out _ _ ?_ (fun aa=>?_)
    ·(try dsimp only);first|exact⟨(n3 V (n2 HB.o ah.o)).trans rfl,(n3 V (n2 HB.o ak.o)).trans rfl,(n3 V (n2 HB.o aj.o)).trans rfl,(n3 V (n2 HB.o ac.o)).trans rfl,(n3 V (n2 HB.o ae.o)).trans rfl,(n3 V (n2 HB.o af.o)).trans rfl,(n3 V (n2 HB.o ag.o)).trans rfl⟩|exact⟨(zal (Nat.ne_of_lt (zaa ah.o))).trans (n2 HB.o ah.o),(zal (Nat.ne_of_lt (zaa ak.o))).trans (n2 HB.o ak.o),(zal (Nat.ne_of_lt (zaa aj.o))).trans (n2 HB.o aj.o),(zal (Nat.ne_of_lt (zaa ac.o))).trans (n2 HB.o ac.o),(zal (Nat.ne_of_lt (zaa ae.o))).trans (n2 HB.o ae.o),(zal (Nat.ne_of_lt (zaa af.o))).trans (n2 HB.o af.o),(zal (Nat.ne_of_lt (zaa ag.o))).trans (n2 HB.o ag.o)⟩
    clear hK K
    try simp only[qW]
    refine ht 24 (h:=?_)
    refine wpAnyH_done (by kernel_rfl) ?_ _
    refine NoPanic.normal ?_
   iterate 26 (try clear aa)
   all_goals
    go_wp2_with fail
    go_meet
    first
    |exact⟨rfl,_,rfl,Bx.new V #[.int .i64 ((Ru.offS d a rv).1.1),.int .i64 ((Ru.offS d a rv).1.2)] 61,HB.o.trans ((nxA V _).mono HB.o.size)⟩
    |exact⟨rfl,_,rfl,(ai.o.set (k:=0) (by simp) _).set (k:=1) (by simp) _,(HB.o.setCell (qQ _) _).setCell (qQ _) _⟩
  case rest=>
   obtain⟨rfl,b5,rfl,aD,aE⟩:=hcut
   have aF:=qG aD
   have HB:=qG aE
   clear aD aE
   go_wp2_with fail
   refine(zc3 _ wc).mono ?_
   rintro e w' ⟨rfl,⟨h,rfl⟩|⟨h,rfl⟩⟩
   .have aJ:=qG h
    have aA:=qG (off_bd h)
    have aK:=qG (show 0<=rv/\rv<1000000000000000000 from by rw[az.o];have:=HP.o.ok.b.rn (s.b.ran.getD a.toNat 0) (by rw[qP,qN hk];exact List.getElem_mem _);omega)
    have an:=qG (n2 HB.o ah.o)
    have ao:=qG (n2 HB.o ak.o)
    have aq:=qG (n2 HB.o aj.o)
    have ar:=qG (aF.o.c 0 _ rfl)
    have au:=qG (aF.o.c 1 _ rfl)
    clear h
    go_upto_region 4 with fail
    have aG:=qG (show ∀ x∈[Pa.w Vb.off.name,Pa.n (rv),Pa.n ((Ru.offS d a rv).1.1),Pa.n ((Ru.offS d a rv).1.2)],x.ok from by simp only[List.forall_mem_cons];exact⟨by show _<=20;decide,aK.o,aA.o.1,⟨aA.o.2.1,by have:=aA.o.2.2;omega⟩,fun x hx=>by cases hx⟩)
    refine wp_region_noPanic ?_
    refine wp_region_held_drew (S:=(fun W=>W.cell? ⟨b,off,none⟩=some (.int .i64 a)/\W.cell? ⟨f,2,none⟩=some (.slice (some ⟨g1,0,none⟩) s.b.ran.length c1)/\W.cell? ⟨g1,a.toNat,none⟩=some (.int .i64 rv)/\W.cell? ⟨b5,0,none⟩=some (.int .i64 (Ru.offS d a rv).1.1)/\W.cell? ⟨b5,1,none⟩=some (.int .i64 (Ru.offS d a rv).1.2))) (by kernel_rfl) ?_ (fun aa=>?_)
    ·(try dsimp only);exact⟨an.o,ao.o,aq.o,ar.o,au.o⟩
    refine ht 0 (h:=?_)
    refine ht 1 (h:=?_)
    refine ht 2 (h:=?_)
    refine ht 3 (h:=?_)
    refine ht 4 (h:=?_)
    refine ht 5 (h:=?_)
    refine ht 6 (h:=?_)
    refine ht 7 (h:=?_)
    refine ht 8 (h:=?_)
    refine ht 9 (h:=?_)
    refine ht 10 (h:=?_)
    refine ht 11 (h:=?_)
    refine ht 12 (h:=?_)
    refine ht 13 (h:=?_)
    refine ht 14 (h:=?_)
    refine ht 15 (h:=?_)
    refine ht 16 (h:=?_)
    refine ht 17 (h:=?_)
    refine ht 18 (h:=?_)
    refine r1 (i:=19) (by kernel_rfl) rfl fun K hK=>?_
    go_simp
    have aw:=qG (nxA wc (.cells (([Pa.w Vb.off.name,Pa.n (rv),Pa.n ((Ru.offS d a rv).1.1),Pa.n ((Ru.offS d a rv).1.2)]:List Pa).map Pa.v).toArray 20))
    refine hK.out _ _ ?_ (fun aa=>?_)
    ·(try dsimp only);exact⟨(aw.o.cell (p:=⟨b,off,none⟩) (zaa an.o)).trans an.o,(aw.o.cell (p:=⟨f,2,none⟩) (zaa ao.o)).trans ao.o,(aw.o.cell (p:=⟨g1,a.toNat,none⟩) (zaa aq.o)).trans aq.o,(aw.o.cell (p:=⟨b5,0,none⟩) (zaa ar.o)).trans ar.o,(aw.o.cell (p:=⟨b5,1,none⟩) (zaa au.o)).trans au.o⟩
    clear hK K
    try simp only[qW]
    refine r1 (i:=20) (by kernel_rfl) rfl fun K hK=>?_
    go_simp
    refine(zeS wc [Pa.w Vb.off.name,Pa.n (rv),Pa.n ((Ru.offS d a rv).1.1),Pa.n ((Ru.offS d a rv).1.2)] (HP.o.env.next HB.o) (by simp) (by simp) aG.o).mono ?_;rintro e V9 ⟨rfl,ab⟩;have am:=qG ab;clear ab
    refine hK.out _ _ ?_ (fun aa=>?_)
    ·(try dsimp only);exact⟨(am.o.cell (p:=⟨b,off,none⟩) (zaa an.o)).trans an.o,(am.o.cell (p:=⟨f,2,none⟩) (zaa ao.o)).trans ao.o,(am.o.cell (p:=⟨g1,a.toNat,none⟩) (zaa aq.o)).trans aq.o,(am.o.cell (p:=⟨b5,0,none⟩) (zaa ar.o)).trans ar.o,(am.o.cell (p:=⟨b5,1,none⟩) (zaa au.o)).trans au.o⟩
    clear hK K
    try simp only[qW]
    refine ht 21 (h:=?_)
    refine wpAnyH_done (by kernel_rfl) ?_ _
    refine NoPanic.normal ?_
    iterate 23 (try clear aa)
    go_wp2_with fail
    go_ret
    rw[show resV d s .off [a]=.ok (s,rep [Pa.w Vb.off.name,Pa.n (rv),Pa.n ((Ru.offS d a rv).1.1),Pa.n ((Ru.offS d a rv).1.2)]) from by unfold resV doV;simp only[List.getD_cons_zero,<- az.o];rw[if_neg (by omega),if_neg (by rw[aJ.o];decide)];rfl]
    exact zei HP.o.fl (HB.o.trans (am.o.mono HB.o.size)) rfl
   .rw[show resV d s .off [a]=.error (Ru.offS d a rv).2 from by unfold resV doV;simp only[List.getD_cons_zero,<- az.o];rw[if_neg (by omega),if_pos h]]
    exact⟨rfl,zau HP.o.fl HB.o rfl⟩
 .rw[show resV d s .off [a]=.error 2 from by unfold resV doV;simp only[List.getD_cons_zero];rw[if_pos (by omega)]]
  exact⟨rfl,zau HP.o.fl (Below.refl _ _) rfl⟩
theorem zp3(c:Cu.Cut)(x y:Int):0<=Cu.manyP c x y/\Cu.manyP c x y<=4:=by
 unfold Cu.manyP
 have h1:=za9 (Cu.upB c x y)
 have h2:=za9 (Cu.zeP c x y)
 have h3:=za9 (Cu.zex c x y)
 have h4:=za9 (Cu.zgU c x y)
 omega
theorem zjC{c:Cu.Cut}(ok:Cu.OkC c):(0<=(Cu.zan c).1/\(Cu.zan c).1<1000000000000000000)/\(0<=(Cu.zan c).2.1/\(Cu.zan c).2.1<1000000000000000000)/\(0<=(Cu.zan c).2.2.1/\(Cu.zan c).2.2.1<1000000000000000000)/\0<=(Cu.zan c).2.2.2/\(Cu.zan c).2.2.2<1000000000000000000:=by
 have h0:=zp6 ok
 have h1:=zgc ok (g:=Cu.zco c) fun x y=>by unfold Cu.zco;(repeat' split) <;> omega
 have h2:=zgc ok (g:=Cu.zbS c) fun x y=>by unfold Cu.zbS;(repeat' split) <;> omega
 have h3:=zgc ok (g:=Cu.zbR c) fun x y=>by unfold Cu.zbR;have:=zp3 c x y;split <;> omega
 unfold Cu.zan
 split
 .exact⟨by dsimp only;omega,by dsimp only;omega,by dsimp only;omega,by dsimp only;omega⟩
 .exact⟨by decide,by decide,by decide,by decide⟩
theorem zmL(O:Nat->Prop)(w:World)(f:Nat)(R:Nat->Rw)(cs:List Cu.Cut)(ps:List Pq)(d:Ru.Die)(s:St)(A:Option Addr)(c:Nat)(a:Int)(hp:Pre O w f R cs ps d s A c [a]) :
  Calls Tryz.prog 189 #[.pointer (some ⟨f,0,none⟩),.slice A 1 c] w (RetF O w f R d (resV d s .lines [a])):=by
 obtain⟨A0,c0,A1,c1,A2,c2,A3,c3,A4,c4,A5,c5,A6,c6,hs⟩:=hp.fl.sees
 obtain⟨b,off,rfl,an,ag,na⟩:=hp.na.get (k:=0) (by simp)
 have na:w.cell? ⟨b,off,none⟩=some (.int .i64 a):=na
 have ai:b≠f:=fun e=>ag (hp.fl.sub b (.inl e))
 have ay:=qG ai
 have az:=qG ag
 have aA:=qG na
 have aB:1<=c:=hp.nc
 clear ag ai an
 have HP:=qG hp
 have HS:=qG hs
 clear hp hs
 have h0:0<=a:=(HP.o.nn a (qE ..)).1
 obtain⟨g0,ah⟩:=HS.o.addr0 HP.o.fl
 have F1:=HS.o.x.c 1 _ rfl
 go_enter Tryz.func189,Tryz.ntmps189
 go_wp2_with fail
 refine(zfc f a g0 0 s.b.cuts.length c0 A0 w h0 ah F1).mono ?_
 rintro e w' ⟨rfl,⟨h,rfl⟩|⟨h,rfl⟩⟩
 .have hk:a.toNat<s.b.cuts.length:=by omega
  obtain⟨g,cc,e1,eg,ecc,eCt,aa⟩:=HS.o.cutAt HP.o.fl hk
  have ao:g=g0:=by have e2:=ah (by omega);rw[e1] at e2;injection e2 with e2;injection e2
  subst ao
  subst e1
  obtain⟨aj,okC,hl⟩:=zka HP.o.fl HP.o.ok ecc
  have aq:=qG aj
  have ar:=qG okC
  have ak:=qG eCt
  have aC:=qG eg
  have aD:=qG ecc
  have aE:=qG aa
  have x0:w.cell? ⟨g,a.toNat*3,none⟩=some (.int .i64 cc.wide):=(aa 0 _ rfl).1
  have x1:w.cell? ⟨g,a.toNat*3+1,none⟩=some (.int .i64 cc.high):=(aa 1 _ rfl).1
  have x2:w.cell? ⟨g,a.toNat*3+2,none⟩=some (.slice cc.A cc.piece.length cc.c):=(aa 2 _ rfl).1
  clear aa aj okC eCt eg ecc ah
  go_wp2_with fail
  refine(Cu.zl4 cc w aq.o).mono ?_
  rintro e V ⟨rfl,ab⟩
  have HB:=qG ab
  clear ab x0 x1 x2 F1 na
  have au:=qG (nxA V (.cells #[.int .i64 (Cu.zan cc).1,.int .i64 (Cu.zan cc).2.1,.int .i64 (Cu.zan cc).2.2.1,.int .i64 (Cu.zan cc).2.2.2] 310))
  have ac:=qG (Bx.new V #[.int .i64 (Cu.zan cc).1,.int .i64 (Cu.zan cc).2.1,.int .i64 (Cu.zan cc).2.2.1,.int .i64 (Cu.zan cc).2.2.2] 310)
  simp only[Cu.zgT]
  go_upto_region 2 with fail
  generalize(V.alloc (.cells #[.int .i64 (Cu.zan cc).1,.int .i64 (Cu.zan cc).2.1,.int .i64 (Cu.zan cc).2.2.1,.int .i64 (Cu.zan cc).2.2.2] 310))=V2 at *
  have ae:=qG (HB.o.trans (au.o.mono HB.o.size))
  go_wp2_with fail
  refine(zc3 _ V2).mono ?_
  rintro e w' ⟨rfl,⟨h,rfl⟩|⟨h,rfl⟩⟩
  .have af:=qG (zjC ar.o)
   have y0:=ac.o.c 0 _ rfl
   have y1:=ac.o.c 1 _ rfl
   have y2:=ac.o.c 2 _ rfl
   have y3:=ac.o.c 3 _ rfl
   have aw:=qG h
   clear h
   have am:=qG (show ∀ x∈[Pa.w Vb.lines.name,Pa.n ((Cu.zan cc).1),Pa.n ((Cu.zan cc).2.1),Pa.n ((Cu.zan cc).2.2.1),Pa.n ((Cu.zan cc).2.2.2)],x.ok from by simp only[List.forall_mem_cons];exact⟨by show _<=20;decide,af.o.1,af.o.2.1,af.o.2.2.1,af.o.2.2.2,fun x hx=>by cases hx⟩)
   go_wp2_with fail
   refine(zbf V2 [Pa.w Vb.lines.name,Pa.n ((Cu.zan cc).1),Pa.n ((Cu.zan cc).2.1),Pa.n ((Cu.zan cc).2.2.1),Pa.n ((Cu.zan cc).2.2.2)] (HP.o.env.next ae.o) (by simp) (by simp) am.o).mono ?_
   rintro e V9 ⟨rfl,ab⟩
   have ax:=qG ab
   clear ab
   go_wp2_with fail
   go_ret
   rw[show resV d s .lines [a]=.ok (s,rep [Pa.w Vb.lines.name,Pa.n ((Cu.zan cc).1),Pa.n ((Cu.zan cc).2.1),Pa.n ((Cu.zan cc).2.2.1),Pa.n ((Cu.zan cc).2.2.2)]) from by unfold resV doV;simp only[List.getD_cons_zero];rw[if_neg (by omega),<- ak.o,zee,zfL];rw[if_neg (fun k=>k aw.o)];rfl]
   exact zei HP.o.fl (ae.o.trans (ax.o.mono ae.o.size)) rfl
  .rw[show resV d s .lines [a]=.error (Cu.cutE cc) from by unfold resV doV;simp only[List.getD_cons_zero];rw[if_neg (by omega),<- ak.o,zee,zfL];rw[if_pos h]]
   exact⟨rfl,zau HP.o.fl ae.o rfl⟩
 .rw[show resV d s .lines [a]=.error 2 from by unfold resV doV;simp only[List.getD_cons_zero];rw[if_pos (by omega)]]
  exact⟨rfl,zau HP.o.fl (Below.refl _ _) rfl⟩
theorem zof(O:Nat->Prop)(w:World)(f:Nat)(R:Nat->Rw)(cs:List Cu.Cut)(ps:List Pq)(d:Ru.Die)(s:St)(A:Option Addr)(c:Nat)(a:Int)(hp:Pre O w f R cs ps d s A c [a]) :
  Calls Tryz.prog 193 #[.pointer (some ⟨f,0,none⟩),.slice A 1 c] w (RetF O w f R d (resV d s .lend [a])):=by
 obtain⟨A0,c0,A1,c1,A2,c2,A3,c3,A4,c4,A5,c5,A6,c6,hs⟩:=hp.fl.sees
 obtain⟨b,off,rfl,ay,ag,na⟩:=hp.na.get (k:=0) (by simp)
 have na:w.cell? ⟨b,off,none⟩=some (.int .i64 a):=na
 have an:b≠f:=fun e=>ag (hp.fl.sub b (.inl e))
 have aK:=qG an
 have az:=qG ag
 have ab:=qG na
 have aL:1<=c:=hp.nc
 clear ag an ay
 have HP:=qG hp
 have HS:=qG hs
 clear hp hs
 have aA:=qG (HS.o.x.c 0 _ rfl)
 have ah:=qG (HS.o.x.c 7 _ rfl)
 have aB:=qG (show 0<=a from(HP.o.nn a (qE ..)).1)
 have aC:=qG (show a<10000000000000 from(HP.o.nn a (qE ..)).2)
 go_enter Tryz.func193,Tryz.ntmps193
 go_upto_region 1 with fail
 by_cases ha:a<(s.b.t.admits.length:Int)
 .have ao:decide (a<(s.b.t.admits.length:Int))=true:=decide_eq_true ha
  refine wp_region_noPanic ?_
  refine wp_region_held_drew (S:=(fun W=>W.cell? ⟨b,off,none⟩=some (.int .i64 a)/\W.cell? ⟨f,7,none⟩=some (.slice A5 s.b.t.admits.length c5))) (by kernel_rfl) ?_ (fun aa=>?_)
  ·(try dsimp only);exact⟨ab.o,ah.o⟩
  refine ht 0 (h:=?_)
  refine ht 1 (h:=?_)
  refine ht 2 (h:=?_)
  refine ht 3 (h:=?_)
  refine ht 4 (h:=?_)
  refine ht 5 (h:=?_)
  refine ht 6 (h:=?_)
  refine ht 7 (h:=?_)
  refine ht 8 (h:=?_)
  refine ht 9 (h:=?_)
  refine ht 10 (h:=?_)
  refine ht 11 (h:=?_)
  refine r1 (i:=12) (by kernel_rfl) rfl fun K hK=>?_
  go_simp
  refine(zat 2 _).mono ?_;rintro e w' ⟨rfl,rfl⟩
  refine hK.out _ _ ?_ (fun aa=>?_)
  ·(try dsimp only);exact⟨ab.o,ah.o⟩
  clear hK K
  try simp only[qW]
  refine wpAnyH_done (by kernel_rfl) ?_ _
  refine NoPanic.normal ?_
  iterate 14 (try clear aa)
  have HA:=qG ha
  clear ao
  have f10:w.drew.cell? ⟨f,10,none⟩=some (.bool s.b.opn):=HS.o.x.c 10 _ rfl
  have f5:w.drew.cell? ⟨f,5,none⟩=some (.slice A3 s.b.t.loans.length c3):=HS.o.x.c 5 _ rfl
  clear na
  generalize hV0:w.drew=V0 at *
  have aq:=qG (show Below w.heap.size w V0 from hV0▸(Below.refl _ w).drew)
  have aD:=qG (show Mid w V0 f R R (seL d s A0 c0 A1 c1 A2 c2 A3 c3 A4 c4 A5 c5 A6 c6) from hV0▸(Mid.sees HP.o.fl HS.o).drew)
  have aI:=qG (show V0.cell? ⟨b,off,none⟩=some (.int .i64 a) from hV0▸ab.o)
  have aJ:=qG (show V0.cell? ⟨f,0,none⟩=some (.int .i64 s.b.hour) from hV0▸aA.o)
  clear hV0
  cases ho:s.b.opn
  .rw[ho] at f10
   have HO:=qG ho
   go_wp2_with fail
   refine(zat 6 V0).mono ?_
   rintro e w' ⟨rfl,rfl⟩
   by_cases hl:12<=s.b.t.loans.length
   .have ar:decide ((s.b.t.loans.length:Int)<12)=false:=decide_eq_false (by omega)
    go_wp2_with fail
    refine(zak 9 V0).mono ?_
    rintro e w' ⟨rfl,rfl⟩
    rw[show resV d s .lend [a]=.error 9 from by unfold resV doV;simp only[List.getD_cons_zero];rw[if_neg (by have:=HA.o;omega),HO.o,if_neg (by decide),if_pos hl]]
    exact⟨rfl,zau HP.o.fl aq.o rfl⟩
   .have ar:decide ((s.b.t.loans.length:Int)<12)=true:=decide_eq_true (by omega)
    go_wp2_with fail
    refine(zat 9 V0).mono ?_
    rintro e w' ⟨rfl,rfl⟩
    have HL:=qG hl
    have ac:=qG (show ¬ zao f R b from fun k=>az.o (HP.o.fl.sub b k))
    clear ar f10 f5 ho hl
    go_upto_region 4 with fail
    go_cut [59] (fun _ wx=>ziS w f R R (seL d s A0 c0 A1 c1 A2 c2 A3 c3 A4 c4 A5 c5 A6 c6) 3 5 67 3 (s.b.t.loans.length+1) (s.b.t.loans.flatMap Le.Loan.cells++Le.Loan.cells ⟨a,s.b.hour,1048576⟩) wx)
    case first=>
     obtain⟨i0,hi,aE,aF,aG⟩:=zbd zjz
     have ai:=qG (show R 3=⟨67,3,.slice A3 s.b.t.loans.length c3,s.b.t.loans.length,s.b.t.loans.flatMap Le.Loan.cells⟩ from zgH HP.o.fl.h.ro.r3 HS.o.e3)
     have HM:=qG aD.o
     refine wp_region_noPanic ?_
     refine wp_region_held_drew (S:=(fun W=>W.cell? ⟨b,off,none⟩=some (.int .i64 a)/\W.cell? ⟨f,0,none⟩=some (.int .i64 s.b.hour))) (by kernel_rfl) ?_ (fun aa=>?_)
     ·(try dsimp only);exact⟨HM.o.cell ac.o ab.o,HM.o.x.c 0 _ rfl⟩
     refine ht 0 (h:=?_)
     refine ht 1 (h:=?_)
     refine ht 2 (h:=?_)
     refine ht 3 (h:=?_)
     refine ht 4 (h:=?_)
     refine ht 5 (h:=?_)
     refine ht 6 (h:=?_)
     refine ht 8 (h:=?_)
     refine ht 9 (h:=?_)
     refine ht 10 (h:=?_)
     refine ht 11 (h:=?_)
     refine ht 12 (h:=?_)
     refine ht 13 (h:=?_)
     refine ht 14 (h:=?_)
     refine ht 15 (h:=?_)
     refine ht 16 (h:=?_)
     refine ht 17 (h:=?_)
     refine wpAnyH_ready (rs:=[7,18]) (by kernel_rfl) (by simp) ?_
     refine zab rfl (fun K hK=>?_) (zab rfl (fun K hK=>?_) (AllReadyH.nil))
     have z5:=HM.o.x.c 5 _ rfl;go_simp;clear z5
     refine hK.out _ _ ?_ (fun aa=>?_)
     ·(try dsimp only);exact⟨HM.o.cell ac.o ab.o,HM.o.x.c 0 _ rfl⟩
     clear hK K
     try simp only[qW]
     refine r1 (i:=18) (by kernel_rfl) rfl fun K hK=>?_
     go_simp
     (first|refine hold_alloc (fun Wa q1 q2 q3=>?_)|refine zaJ (fun Wa q1 q2 q3=>?_));have aj:=qG (show Bx _ _ (Le.Loan.cells ⟨a,s.b.hour,1048576⟩) from q2);replace HM:=qG (HM.o.below q1);clear q1 q2 q3
     refine hK.out _ _ ?_ (fun aa=>?_)
     ·(try dsimp only);exact⟨HM.o.cell ac.o ab.o,HM.o.x.c 0 _ rfl⟩
     clear hK K
     try simp only[qW]
     rotate_left
     go_simp
     (first|refine hold_alloc (fun Wa q1 q2 q3=>?_)|refine zaJ (fun Wa q1 q2 q3=>?_));have aj:=qG (show Bx _ _ (Le.Loan.cells ⟨a,s.b.hour,1048576⟩) from q2);replace HM:=qG (HM.o.below q1);clear q1 q2 q3
     refine hK.out _ _ ?_ (fun aa=>?_)
     ·(try dsimp only);exact⟨HM.o.cell ac.o ab.o,HM.o.x.c 0 _ rfl⟩
     clear hK K
     try simp only[qW]
     refine r1 (i:=7) (by kernel_rfl) rfl fun K hK=>?_
     have z5:=HM.o.x.c 5 _ rfl;go_simp;clear z5
     refine hK.out _ _ ?_ (fun aa=>?_)
     ·(try dsimp only);exact⟨HM.o.cell ac.o ab.o,HM.o.x.c 0 _ rfl⟩
     clear hK K
     try simp only[qW]
     all_goals
      refine r1 (i:=19) (by kernel_rfl) rfl fun K hK=>?_
      refine zaI (r:=⟨67,3,.slice A3 s.b.t.loans.length c3,s.b.t.loans.length,s.b.t.loans.flatMap Le.Loan.cells⟩) rfl (.tmp 42) (.tmp 53) 37 rfl (ai.o▸HM.o.o.row 3 (by decide)) i0 _ 24 Tryz.underlying37 hi aE aF aG rfl (show 0<3 by decide) rfl ⟨_,0,none⟩ 1 1 (Le.Loan.cells ⟨a,s.b.hour,1048576⟩) rfl (by decide) rfl aj.o.news (fun u hu=>by simp only[Le.Loan.cells,List.mem_cons,List.not_mem_nil,or_false] at hu;rcases hu with rfl|rfl|rfl <;> rfl) (show s.b.t.loans.length+1<=maxLen by have:=HL.o;unfold maxLen;omega) (show(s.b.t.loans.length+1)*24<=_ by have:=HL.o;omega) ?_;intro v' w' ak af au;replace HM:=qG (HM.o.app (k:=3) (r:=⟨67,3,v',s.b.t.loans.length+1,s.b.t.loans.flatMap Le.Loan.cells++Le.Loan.cells ⟨a,s.b.hour,1048576⟩⟩) (by decide) (by rw[ai.o];exact af) ak (by rw[ai.o];exact au));obtain⟨A6',c6',e6,-⟩:∃ A c,v'=.slice A (s.b.t.loans.length+1) c/\s.b.t.loans.length+1<=c:=ak.form;subst e6;clear ak af au aj
      refine hK.out _ _ ?_ (fun aa=>?_)
      ·(try dsimp only);exact⟨HM.o.cell ac.o ab.o,HM.o.x.c 0 _ rfl⟩
      clear hK K
      try simp only[qW]
      refine ht 20 (h:=?_)
      refine ht 21 (h:=?_)
      refine ht 22 (h:=?_)
      refine ht 23 (h:=?_)
      refine ht 24 (h:=?_)
      refine r1 (i:=25) (by kernel_rfl) rfl fun K hK=>?_
      have z5:=HM.o.x.c 5 _ rfl;have y5:=HM.o.x.fr 5;go_simp;clear z5 y5;replace HM:=qG (HM.o.setF (j:=5) (by simp[seL]) (.slice A6' (s.b.t.loans.length+1) c6'))
      refine hK.out _ _ ?_ (fun aa=>?_)
      ·(try dsimp only);exact⟨HM.o.cell ac.o ab.o,HM.o.x.c 0 _ rfl⟩
      clear hK K
      try simp only[Act.put]
      refine wpAnyH_done (by kernel_rfl) ?_ _
      refine NoPanic.normal ?_
     iterate 27 (try clear aa)
     all_goals
      go_wp2_with fail
      go_meet
      exact⟨_,HM.o⟩
    case rest=>
     obtain⟨v',hm⟩:=hcut
     have HM:=qG hm
     clear hm
     have y10:=HM.o.x.c 10 _ rfl
     have z10:=HM.o.x.fr 10
     have l10:=HM.o.x.lt
     go_upto_region 6 with fail
     have ae:=qG (HM.o.setF (j:=10) (by simp[seL]) (.bool true))
     generalize wc.setCell ⟨f,10,none⟩ (.bool true)=V2 at *
     clear y10 z10 l10
     have y0:=ae.o.cell ac.o ab.o
     have aw:=qG (show ∀ x∈[Pa.w Vb.lend.name,Pa.n (a)],x.ok from by simp only[List.forall_mem_cons];exact⟨by show _<=20;decide,⟨aB.o,by have:=aC.o;omega⟩,fun x hx=>by cases hx⟩)
     go_wp2_with fail
     refine(zbf V2 [Pa.w Vb.lend.name,Pa.n (a)] (ae.o.env HP.o) (by simp) (by simp) aw.o).mono ?_
     rintro e V9 ⟨rfl,am⟩
     have aH:=qG am
     clear am
     go_wp2_with fail
     go_ret
     rw[show resV d s .lend [a]=.ok (⟨{ s.b with t:={ s.b.t with loans:=s.b.t.loans++[⟨a,s.b.hour,1048576⟩] },opn:=true },s.plans,s.planned⟩,rep [Pa.w Vb.lend.name,Pa.n (a)]) from by unfold resV doV;simp only[List.getD_cons_zero];rw[if_neg (by have:=HA.o;omega),HO.o,if_neg (by decide),if_neg HL.o];rfl]
     refine zbu (HP.o.fl.up1 (s':=⟨{ s.b with t:={ s.b.t with loans:=s.b.t.loans++[⟨a,s.b.hour,1048576⟩] },opn:=true },s.plans,s.planned⟩) ae.o.turn ae.o.o ?_ ?_ HP.o.fl.h.ec (fun c hc=>.inl hc) HP.o.fl.h.hp (fun x hx=>.inl hx)) ae.o.turn aH.o rfl
     .exact zcn HS.o.e0 HS.o.e1 HS.o.e2 (v3:=v') rfl HS.o.e4 HS.o.e5 HS.o.e6 ae.o.x
     .have ro:=HP.o.fl.h.ro
      exact⟨ro.r0,ro.r1,ro.r2,⟨rfl,rfl,by show _=(s.b.t.loans++[_]).length;rw[qD];rfl,by show _=(s.b.t.loans++[_]).flatMap _;rw[List.flatMap_append];rfl⟩,ro.r4,ro.r5,ro.r6⟩
  .rw[ho] at f10
   have HO:=qG ho
   go_wp2_with fail
   refine(zak 6 V0).mono ?_
   rintro e w' ⟨rfl,rfl⟩
   rw[show resV d s .lend [a]=.error 6 from by unfold resV doV;simp only[List.getD_cons_zero];rw[if_neg (by have:=HA.o;omega),HO.o,if_pos rfl]]
   exact⟨rfl,zau HP.o.fl aq.o rfl⟩
 .have ao:decide (a<(s.b.t.admits.length:Int))=false:=decide_eq_false ha
  have ax:=qG (show ∀ w',Below w.heap.size w w'->RetF O w f R d (resV d s .lend [a]) (.panicked (zaF 2)) w' from fun w' hb=>by rw[show resV d s .lend [a]=.error 2 from by unfold resV doV;simp only[List.getD_cons_zero];rw[if_pos (by omega)]];exact zau HP.o.fl hb rfl)
  refine zru (fun ch W'=>ch=zaF 2/\Below w.heap.size w W') (fun ch a' w' hd h=>by obtain⟨rfl,h⟩:=h;exact⟨hd,ax.o w' h⟩) ?_
  refine wp_region_held_drew (S:=(fun W=>W.cell? ⟨b,off,none⟩=some (.int .i64 a)/\W.cell? ⟨f,7,none⟩=some (.slice A5 s.b.t.admits.length c5))) (by kernel_rfl) ?_ (fun aa=>?_)
  ·(try dsimp only);exact⟨ab.o,ah.o⟩
  refine ht 0 (h:=?_) (hQ:=fun _ _ _=>zrr)
  refine ht 1 (h:=?_) (hQ:=fun _ _ _=>zrr)
  refine ht 2 (h:=?_) (hQ:=fun _ _ _=>zrr)
  refine ht 3 (h:=?_) (hQ:=fun _ _ _=>zrr)
  refine ht 4 (h:=?_) (hQ:=fun _ _ _=>zrr)
  refine ht 5 (h:=?_) (hQ:=fun _ _ _=>zrr)
  refine ht 6 (h:=?_) (hQ:=fun _ _ _=>zrr)
  refine ht 7 (h:=?_) (hQ:=fun _ _ _=>zrr)
  refine ht 8 (h:=?_) (hQ:=fun _ _ _=>zrr)
  refine ht 9 (h:=?_) (hQ:=fun _ _ _=>zrr)
  refine ht 10 (h:=?_) (hQ:=fun _ _ _=>zrr)
  refine ht 11 (h:=?_) (hQ:=fun _ _ _=>zrr)
  refine r1 (i:=12) (by kernel_rfl) rfl fun K hK=>?_
  go_simp
  refine(zak 2 _).mono ?_;rintro e w' ⟨rfl,rfl⟩;exact⟨rfl,rfl,(Below.refl _ w).drew⟩
theorem znL(O:Nat->Prop)(w:World)(f:Nat)(R:Nat->Rw)(cs:List Cu.Cut)(ps:List Pq)(d:Ru.Die)(s:St)(A:Option Addr)(c:Nat)(a:Int)(b2:Int)(hp:Pre O w f R cs ps d s A c [a,b2]) :
  Calls Tryz.prog 195 #[.pointer (some ⟨f,0,none⟩),.slice A 2 c] w (RetF O w f R d (resV d s .seen [a,b2])):=by
 obtain⟨A0,c0,A1,c1,A2,c2,A3,c3,A4,c4,A5,c5,A6,c6,hs⟩:=hp.fl.sees
 obtain⟨b,off,rfl,az,ak,na⟩:=hp.na.get (k:=0) (by simp)
 have na:w.cell? ⟨b,off,none⟩=some (.int .i64 a):=na
 obtain⟨b',off',e',-,-,na1⟩:=hp.na.get (k:=1) (by simp)
 injection e' with e'
 injection e' with e1 e2 _
 subst e1 e2
 have na1:w.cell? ⟨b,off+1,none⟩=some (.int .i64 b2):=na1
 have ar:b≠f:=fun e=>ak (hp.fl.sub b (.inl e))
 have aI:=qG ar
 have aA:=qG ak
 have ae:=qG na
 have ac:=qG na1
 have aJ:2<=c:=hp.nc
 clear ak ar az
 have HP:=qG hp
 have HS:=qG hs
 clear hp hs
 have aK:=qG (show 0<=a from(HP.o.nn a (qE ..)).1)
 have aa:=qG (show ¬ zao f R b from fun k=>aA.o (HP.o.fl.sub b k))
 have f6:w.cell? ⟨f,6,none⟩=some (.slice A4 s.b.t.looks.length c4):=HS.o.x.c 6 _ rfl
 have aB:=qG (Mid.sees HP.o.fl HS.o)
 have au:=qG HP.o.ok.b.okT
 by_cases hl:20<=s.b.t.looks.length
 .have hd:decide ((s.b.t.looks.length:Int)<20)=false:=decide_eq_false (by omega)
  go_enter Tryz.func195,Tryz.ntmps195
  go_wp2_with fail
  refine(zak 9 w).mono ?_
  rintro e w' ⟨rfl,rfl⟩
  rw[show resV d s .seen [a,b2]=.error 9 from by unfold resV doV;simp only[];rw[if_pos hl]]
  exact⟨rfl,zau HP.o.fl (Below.refl _ _) rfl⟩
 .have hd:decide ((s.b.t.looks.length:Int)<20)=true:=decide_eq_true (by omega)
  go_enter Tryz.func195,Tryz.ntmps195
  go_wp2_with fail
  refine(zat 9 w).mono ?_
  rintro e w' ⟨rfl,rfl⟩
  have HL:=qG hl
  clear hd f6 hl na na1
  go_upto_region 2 with fail
  go_cut [42] (fun _ wx=>ziS w f R R (seL d s A0 c0 A1 c1 A2 c2 A3 c3 A4 c4 A5 c5 A6 c6) 4 6 194 3 (s.b.t.looks.length+1) (s.b.t.looks.flatMap Le.Look.cells++Le.Look.cells ⟨s.b.hour,a,b2⟩) wx)
  case first=>
   obtain⟨i0,hi,aC,aD,aE⟩:=zbd zjy
   have am:=qG (show R 4=⟨194,3,.slice A4 s.b.t.looks.length c4,s.b.t.looks.length,s.b.t.looks.flatMap Le.Look.cells⟩ from zgH HP.o.fl.h.ro.r4 HS.o.e4)
   have HM:=qG aB.o
   refine wp_region_noPanic ?_
   refine wp_region_held_drew (S:=(fun W=>W.cell? ⟨b,off,none⟩=some (.int .i64 a)/\W.cell? ⟨b,off+1,none⟩=some (.int .i64 b2)/\W.cell? ⟨f,0,none⟩=some (.int .i64 s.b.hour))) (by kernel_rfl) ?_ (fun ab=>?_)
   ·(try dsimp only);exact⟨HM.o.cell aa.o ae.o,HM.o.cell aa.o ac.o,HM.o.x.c 0 _ rfl⟩
   refine ht 0 (h:=?_)
   refine ht 1 (h:=?_)
   refine ht 2 (h:=?_)
   refine ht 3 (h:=?_)
   refine ht 4 (h:=?_)
   refine ht 5 (h:=?_)
   refine ht 6 (h:=?_)
   refine ht 8 (h:=?_)
   refine ht 9 (h:=?_)
   refine ht 10 (h:=?_)
   refine ht 11 (h:=?_)
   refine ht 12 (h:=?_)
   refine ht 13 (h:=?_)
   refine ht 14 (h:=?_)
   refine ht 15 (h:=?_)
   refine ht 16 (h:=?_)
   refine ht 17 (h:=?_)
   refine ht 18 (h:=?_)
   refine ht 19 (h:=?_)
   refine ht 20 (h:=?_)
   refine wpAnyH_ready (rs:=[7,21]) (by kernel_rfl) (by simp) ?_
   refine zab rfl (fun K hK=>?_) (zab rfl (fun K hK=>?_) (AllReadyH.nil))
   have z5:=HM.o.x.c 6 _ rfl;go_simp;clear z5
   refine hK.out _ _ ?_ (fun ab=>?_)
   ·(try dsimp only);exact⟨HM.o.cell aa.o ae.o,HM.o.cell aa.o ac.o,HM.o.x.c 0 _ rfl⟩
   clear hK K
   try simp only[qW]
   refine r1 (i:=21) (by kernel_rfl) rfl fun K hK=>?_
   go_simp
   (first|refine hold_alloc (fun Wa q1 q2 q3=>?_)|refine zaJ (fun Wa q1 q2 q3=>?_));have an:=qG (show Bx _ _ (Le.Look.cells ⟨s.b.hour,a,b2⟩) from q2);replace HM:=qG (HM.o.below q1);clear q1 q2 q3
   refine hK.out _ _ ?_ (fun ab=>?_)
   ·(try dsimp only);exact⟨HM.o.cell aa.o ae.o,HM.o.cell aa.o ac.o,HM.o.x.c 0 _ rfl⟩
   clear hK K
   try simp only[qW]
   rotate_left
   go_simp
   (first|refine hold_alloc (fun Wa q1 q2 q3=>?_)|refine zaJ (fun Wa q1 q2 q3=>?_));have an:=qG (show Bx _ _ (Le.Look.cells ⟨s.b.hour,a,b2⟩) from q2);replace HM:=qG (HM.o.below q1);clear q1 q2 q3
   refine hK.out _ _ ?_ (fun ab=>?_)
   ·(try dsimp only);exact⟨HM.o.cell aa.o ae.o,HM.o.cell aa.o ac.o,HM.o.x.c 0 _ rfl⟩
   clear hK K
   try simp only[qW]
   refine r1 (i:=7) (by kernel_rfl) rfl fun K hK=>?_
   have z5:=HM.o.x.c 6 _ rfl;go_simp;clear z5
   refine hK.out _ _ ?_ (fun ab=>?_)
   ·(try dsimp only);exact⟨HM.o.cell aa.o ae.o,HM.o.cell aa.o ac.o,HM.o.x.c 0 _ rfl⟩
   clear hK K
   try simp only[qW]
   all_goals
    refine r1 (i:=22) (by kernel_rfl) rfl fun K hK=>?_
    refine zaI (r:=⟨194,3,.slice A4 s.b.t.looks.length c4,s.b.t.looks.length,s.b.t.looks.flatMap Le.Look.cells⟩) rfl (.tmp 22) (.tmp 36) 38 rfl (am.o▸HM.o.o.row 4 (by decide)) i0 _ 24 Tryz.underlying38 hi aC aD aE rfl (show 0<3 by decide) rfl ⟨_,0,none⟩ 1 1 (Le.Look.cells ⟨s.b.hour,a,b2⟩) rfl (by decide) rfl an.o.news (fun u hu=>by simp only[Le.Look.cells,List.mem_cons,List.not_mem_nil,or_false] at hu;rcases hu with rfl|rfl|rfl <;> rfl) (show s.b.t.looks.length+1<=maxLen by have:=HL.o;unfold maxLen;omega) (show(s.b.t.looks.length+1)*24<=_ by have:=HL.o;omega) ?_;intro v' w' ao ai aw;replace HM:=qG (HM.o.app (k:=4) (r:=⟨194,3,v',s.b.t.looks.length+1,s.b.t.looks.flatMap Le.Look.cells++Le.Look.cells ⟨s.b.hour,a,b2⟩⟩) (by decide) (by rw[am.o];exact ai) ao (by rw[am.o];exact aw));obtain⟨A6',c6',e6,-⟩:∃ A c,v'=.slice A (s.b.t.looks.length+1) c/\s.b.t.looks.length+1<=c:=ao.form;subst e6;clear ao ai aw an
    refine hK.out _ _ ?_ (fun ab=>?_)
    ·(try dsimp only);exact⟨HM.o.cell aa.o ae.o,HM.o.cell aa.o ac.o,HM.o.x.c 0 _ rfl⟩
    clear hK K
    try simp only[qW]
    refine ht 23 (h:=?_)
    refine ht 24 (h:=?_)
    refine ht 25 (h:=?_)
    refine ht 26 (h:=?_)
    refine ht 27 (h:=?_)
    refine r1 (i:=28) (by kernel_rfl) rfl fun K hK=>?_
    have z5:=HM.o.x.c 6 _ rfl;have y5:=HM.o.x.fr 6;go_simp;clear z5 y5;replace HM:=qG (HM.o.setF (j:=6) (by simp[seL]) (.slice A6' (s.b.t.looks.length+1) c6'))
    refine hK.out _ _ ?_ (fun ab=>?_)
    ·(try dsimp only);exact⟨HM.o.cell aa.o ae.o,HM.o.cell aa.o ac.o,HM.o.x.c 0 _ rfl⟩
    clear hK K
    try simp only[Act.put]
    refine wpAnyH_done (by kernel_rfl) ?_ _
    refine NoPanic.normal ?_
   iterate 30 (try clear ab)
   all_goals
    go_wp2_with fail
    go_meet
    exact⟨_,HM.o⟩
  case rest=>
   obtain⟨v',hm⟩:=hcut
   obtain⟨A4',c4',e4,h4⟩:∃ A c,v'=.slice A (s.b.t.looks.length+1) c/\s.b.t.looks.length+1<=c:=(hm.o.row 4 (by decide)).form
   subst e4
   have HM:=qG hm
   clear hm
   have aj:=qG (show RowsOk (upR R 4 ⟨194,3,.slice A4' (s.b.t.looks.length+1) c4',s.b.t.looks.length+1,s.b.t.looks.flatMap Le.Look.cells++Le.Look.cells ⟨s.b.hour,a,b2⟩⟩) cs ps { s.b with t:=⟨s.b.t.n,s.b.t.loans,s.b.t.looks++[⟨s.b.hour,a,b2⟩],s.b.t.admits⟩ } from by
    have ro:=HP.o.fl.h.ro
    exact⟨ro.r0,ro.r1,ro.r2,ro.r3,⟨rfl,rfl,by show _=(s.b.t.looks++[_]).length;rw[qD];rfl,by show _=(s.b.t.looks++[_]).flatMap _;rw[List.flatMap_append];rfl⟩,ro.r5,ro.r6⟩)
   obtain⟨tl,af⟩:∃ tl:Le.Tl,tl=⟨s.b.t.n,s.b.t.loans,s.b.t.looks++[⟨s.b.hour,a,b2⟩],s.b.t.admits⟩:=⟨_,rfl⟩
   have ax:tl.looks.length=s.b.t.looks.length+1:=by rw[af];show(s.b.t.looks++[_]).length=_;rw[qD];rfl
   have aF:=qG (show TaleAt wc wc.heap.size ⟨tl,A3,c3,A4',c4',A5,c5⟩ from by
    rw[af]
    refine HM.o.tale _ aj.o.r3 aj.o.r4 aj.o.r5 HS.o.e3 ?_ HS.o.e5 ?_ ?_ ?_
    .show Value.slice A4' (s.b.t.looks.length+1) c4'=.slice A4' (s.b.t.looks++[_]).length c4';rw[qD];rfl
    .show s.b.t.loans.length<=_;have:=au.o.lo;omega
    .show(s.b.t.looks++[_]).length<=_;rw[qD];have:=HL.o;simp only[List.length_singleton];omega
    .show s.b.t.admits.length<=_;have:=au.o.a2;omega)
   have aG:=qG (zci tl A3 c3 A4' c4' A5 c5 f wc (by rw[af];exact HM.o.x.c 4 _ rfl) (by rw[af];exact HM.o.x.c 5 _ rfl) (by rw[ax];exact HM.o.x.c 6 _ rfl) (by rw[af];exact HM.o.x.c 7 _ rfl) aF.o)
   have ag:=qG af
   clear af ax
   go_wp2_with fail
   refine aG.o.mono ?_
   rintro e V2 ⟨hb,⟨h,rfl⟩|⟨h,rfl⟩⟩
   .have HF:=qG h
    have ah:=qG (HM.o.below hb)
    clear h hb
    have y6:=ah.o.x.c 6 _ rfl
    have ay:=qG (show ∀ x∈[Pa.w Vb.seen.name,Pa.n ((s.b.t.looks.length:Int)+1)],x.ok from by simp only[List.forall_mem_cons];exact⟨by show _<=20;decide,⟨by omega,by have:=HL.o;omega⟩,fun x hx=>by cases hx⟩)
    go_wp2_with fail
    refine(zbf V2 [Pa.w Vb.seen.name,Pa.n ((s.b.t.looks.length:Int)+1)] (ah.o.env HP.o) (by simp) (by simp) ay.o).mono ?_
    rintro e V9 ⟨rfl,aq⟩
    have aH:=qG aq
    clear aq
    go_wp2_with fail
    go_ret
    rw[show resV d s .seen [a,b2]=.ok (⟨{ s.b with t:=tl },s.plans,s.planned⟩,rep [Pa.w Vb.seen.name,Pa.n ((s.b.t.looks.length:Int)+1)]) from by unfold resV doV;simp only[List.getD_cons_zero,List.getD_cons_succ];rw[if_neg HL.o,if_neg (fun k=>k (by rw[<- ag.o];exact HF.o)),<- ag.o];rfl]
    refine zbu (HP.o.fl.up1 (s':=⟨{ s.b with t:=tl },s.plans,s.planned⟩) ah.o.turn ah.o.o ?_ ?_ HP.o.fl.h.ec (fun c hc=>.inl hc) HP.o.fl.h.hp (fun x hx=>.inl hx)) ah.o.turn aH.o rfl
    .rw[ag.o];exact zcn HS.o.e0 HS.o.e1 HS.o.e2 HS.o.e3 (v4:=.slice A4' (s.b.t.looks.length+1) c4') rfl HS.o.e5 HS.o.e6 ah.o.x
    .rw[ag.o];exact aj.o
   .rw[show resV d s .seen [a,b2]=.error (fitE tl) from by unfold resV doV;simp only[List.getD_cons_zero,List.getD_cons_succ];rw[if_neg HL.o,if_pos (by rw[<- ag.o];exact h),<- ag.o]]
    exact⟨rfl,HM.o.late rfl (by simp[seL]) hb rfl⟩
end
end Go.Proofs.YtankkcbofgighaaGreatDoor
