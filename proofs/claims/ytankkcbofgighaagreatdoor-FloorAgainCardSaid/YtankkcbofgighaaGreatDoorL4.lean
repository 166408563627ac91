import Derived.Test.YtankkcbofgighaaGreatDoorL3
import Derived.RangeFuncNested
import Derived.RangeFuncBound
import Derived.RangeFuncCalls
import Derived.RangeFuncLeaves
import Derived.OrdersIn
import Derived.OrdersHeld
import Derived.WalkKit
import Derived.OwnWalkIn
import Derived.TacticsInMore
import Derived.LoopNIn
import Derived.LoopIn
set_option linter.all false
set_option maxRecDepth 100000
set_option maxHeartbeats 40000000
namespace Go.Proofs.YtankkcbofgighaaGreatDoor
namespace Le
open Go.RowKit
def freeN(l:List Int):Nat->Nat
|0=>192
|k+1=>if l.getD k 0=-1 then freeN l k ||| 2 ^ k else freeN l k
theorem zgn(l:List Int):∀ k:Nat,k<=6->freeN l k<256
|0,_=>(by show 192<256;decide)
|k+1,h=>by
  have ih:=zgn l k (by omega)
  unfold freeN
  split
  .exact Nat.or_lt_two_pow (n:=8) ih (Nat.lt_of_le_of_lt (Nat.pow_le_pow_right (by decide) (show k<=5 by omega)) (by decide))
  .exact ih
def RFr(m:Mt)(V:World)(sv i:Value)(w:World):Prop:=∃ k:Nat,k<=m.t.admits.length/\i=.int .i64 k/\sv=.int .i64 (freeN m.t.admits k)/\Below V.heap.size V w
theorem zoy(m:Mt)(f:Nat->Int)(w:World)(hr:TaleAt w w.heap.size m)(h6:m.t.admits.length<=6):Calls Tryz.prog 158 #[.agg #[.int .i64 m.t.n,.slice m.A1 m.t.loans.length m.c1,.slice m.A2 m.t.looks.length m.c2,.slice m.A3 m.t.admits.length m.c3,.int .i64 (f 0),.int .i64 (f 1),.int .i64 (f 2),.int .i64 (f 3),.int .i64 (f 4),.int .i64 (f 5),.int .i64 (f 6),.int .i64 (f 7),.int .i64 (f 8),.int .i64 (f 9),.int .i64 (f 10),.int .i64 (f 11),.int .i64 (f 12),.int .i64 (f 13),.int .i64 (f 14),.int .i64 (f 15)]] w (Ret (.int .i64 (freeN m.t.admits m.t.admits.length)) w):=by
 have B0:=qG (nxA w (.cells #[.int .i64 m.t.n,.slice m.A1 m.t.loans.length m.c1,.slice m.A2 m.t.looks.length m.c2,.slice m.A3 m.t.admits.length m.c3,.int .i64 (f 0),.int .i64 (f 1),.int .i64 (f 2),.int .i64 (f 3),.int .i64 (f 4),.int .i64 (f 5),.int .i64 (f 6),.int .i64 (f 7),.int .i64 (f 8),.int .i64 (f 9),.int .i64 (f 10),.int .i64 (f 11),.int .i64 (f 12),.int .i64 (f 13),.int .i64 (f 14),.int .i64 (f 15)] 176))
 have HR:=qG hr
 clear hr
 go_enter Tryz.func158,Tryz.ntmps158
 go_wp2
 generalize w.alloc (.cells #[.int .i64 m.t.n,.slice m.A1 m.t.loans.length m.c1,.slice m.A2 m.t.looks.length m.c2,.slice m.A3 m.t.admits.length m.c3,.int .i64 (f 0),.int .i64 (f 1),.int .i64 (f 2),.int .i64 (f 3),.int .i64 (f 4),.int .i64 (f 5),.int .i64 (f 6),.int .i64 (f 7),.int .i64 (f 8),.int .i64 (f 9),.int .i64 (f 10),.int .i64 (f 11),.int .i64 (f 12),.int .i64 (f 13),.int .i64 (f 14),.int .i64 (f 15)] 176)=V at *
 go_loopw [3,10] (fun sv i wr=>RFr m V sv i wr) (fun _ i _=>m.t.admits.length-(intOf i).toNat)
 case atStart=>exact⟨0,by omega,rfl,rfl,Below.refl _ _⟩
 case round=>
  obtain⟨k,hk,rfl,rfl,hb⟩:=hrel
  have HB:=qG (B0.o.trans (hb.mono B0.o.size))
  have HV:=qG hb
  have ag:=zgn m.t.admits k (by omega)
  by_cases hlt:k<m.t.admits.length
  .obtain⟨b,off,e,ae,h0⟩:=zb4 (HR.o.ad.below HB.o) hlt
   have ah:b<wr.heap.size:=qM ae HB.o.size
   have HS:=qG (show freeN m.t.admits (k+1)=if m.t.admits.getD k 0=-1 then freeN m.t.admits k ||| 2 ^ k else freeN m.t.admits k from rfl)
   generalize m.t.admits.getD k 0=x at *
   generalize m.A3=A3 at *
   subst e
   have ac:2 ^ k<=32:=Nat.pow_le_pow_right (by decide) (show k<=5 by omega)
   have ab:=qG (show bits BinOp.or IntKind.i64 (freeN m.t.admits k:Int) (wrap64 (2 ^ k))=((freeN m.t.admits k ||| 2 ^ k:Nat):Int) from by
    obtain⟨T,hT⟩:∃ T:Nat,T=2 ^ k:=⟨_,rfl⟩
    have af:T<=32:=by rw[hT];exact ac
    rw[show((2:Int) ^ k)=(T:Int) by rw[hT];push_cast;rfl,<- hT,IntWalk.wrap64_in _ (by omega)]
    exact zcm _ _ (by omega) (by omega))
   clear hb ac
   generalize freeN m.t.admits k=F at *
   by_cases hx:x=-1
   .have aa:=qG (HS.o.trans (if_pos hx))
    go_wp2
    all_goals (first|(refine⟨?_,?_⟩;(unfold RFr;exact⟨k+1,by omega,by go_num,by rw[aa.o,ab.o],HV.o⟩);(simp[intOf];omega))|(go_roundw;(case rel=>(unfold RFr;exact⟨k+1,by omega,by go_num,by rw[aa.o,ab.o],HV.o⟩));(case measure=>(simp[intOf];omega)))|(go_round;(case rel=>(unfold RFr;exact⟨k+1,by omega,by go_num,by rw[aa.o,ab.o],HV.o⟩));(case measure=>(simp[intOf];omega))))
   .have aa:=qG (HS.o.trans (if_neg hx))
    go_wp2
    all_goals (first|(refine⟨?_,?_⟩;(unfold RFr;exact⟨k+1,by omega,by go_num,by rw[aa.o],HV.o⟩);(simp[intOf];omega))|(go_roundw;(case rel=>(unfold RFr;exact⟨k+1,by omega,by go_num,by rw[aa.o],HV.o⟩));(case measure=>(simp[intOf];omega)))|(go_round;(case rel=>(unfold RFr;exact⟨k+1,by omega,by go_num,by rw[aa.o],HV.o⟩));(case measure=>(simp[intOf];omega))))
  .obtain rfl:k=m.t.admits.length:=by omega
   go_wp2
   go_ret
   exact zdY rfl HB.o
def zaw(s:Nat):List Value:=[.int .i64 s]
structure RowsAt(w:World)(B:Nat)(A:Option Addr)(R:List (List Nat)):Prop where
 row:∀ r l,R[r]?=some l->∃ b off A' c',A=some ⟨b,off,none⟩/\b<B/\w.cell? ⟨b,off+r,none⟩=some (.slice A' l.length c')/\At w B 1 zaw A' l
theorem RowsAt.below{w w':World}{B:Nat}{A:Option Addr}{R:List (List Nat)}(h:RowsAt w B A R)(hb:Below B w w'):RowsAt w' B A R:=⟨fun r l hl=>by
 obtain⟨b,off,A',c',e,hlt,hc,aa⟩:=h.row r l hl
 exact⟨b,off,A',c',e,hlt,(hb.cell (p:=⟨b,off+r,none⟩) hlt).trans hc,aa.below hb⟩⟩
theorem RowsAt.more{w:World}{B B':Nat}{A:Option Addr}{R:List (List Nat)}(h:RowsAt w B A R)(hB:B<=B'):RowsAt w B' A R:=⟨fun r l hl=>by
 obtain⟨b,off,A',c',e,hlt,hc,aa⟩:=h.row r l hl
 exact⟨b,off,A',c',e,by omega,hc,aa.more hB⟩⟩
theorem RowsAt.next{w w':World}{A:Option Addr}{R:List (List Nat)}(h:RowsAt w w.heap.size A R)(hb:Below w.heap.size w w'):RowsAt w' w'.heap.size A R:=(h.below hb).more hb.size
def rowF(R:List (List Nat))(r:Nat):List Nat:=R.getD r []
theorem zi9{R:List (List Nat)}{r:Nat}(h:r<R.length):R[r]?=some (rowF R r):=by
 unfold rowF;rw[qP,qN h];rfl
theorem zpU{R:List (List Nat)}{r s:Nat}(h:s∈rowF R r):r<R.length:=Classical.byContradiction fun hn=>by
 unfold rowF at h;rw[qP,List.getElem?_eq_none (by omega)] at h;cases h
structure RowsOk(R:List (List Nat))(n:Nat):Prop where
 len:R.length<=16
 n96:n<=96
 row:∀ l∈R,l.length<=96/\∀ s∈l,s<n
theorem RowsOk.at{R:List (List Nat)}{n r:Nat}(h:RowsOk R n)(hr:r<R.length):(rowF R r).length<=96/\∀ s∈rowF R r,s<n:=h.row _ (List.mem_of_getElem? (zi9 hr))
def tkI(v:Option Nat):Int:=match v with|some r=>(r:Int)|none=>-1
structure VBlk(w:World)(g n:Nat)(f:Nat->Value):Prop where
 lt:g<w.heap.size
 cell:∀ j,j<n->w.cell? ⟨g,j,none⟩=some (f j)
 free:∀ j,w.frozen? ⟨g,j,none⟩=false
theorem VBlk.below{w w':World}{B g n:Nat}{f:Nat->Value}(h:VBlk w g n f)(hb:Below B w w')(hg:g<B):VBlk w' g n f:=
 ⟨qM h.lt hb.size,fun j hj=>(hb.cell (p:=⟨g,j,none⟩) hg).trans (h.cell j hj),fun j=>(hb.frozen (p:=⟨g,j,none⟩) hg).trans (h.free j)⟩
theorem VBlk.next{w w':World}{g n:Nat}{f:Nat->Value}(h:VBlk w g n f)(hb:Below w.heap.size w w'):VBlk w' g n f:=h.below hb h.lt
theorem VBlk.set_{w:World}{g n:Nat}{f f':Nat->Value}(h:VBlk w g n f){j:Nat}{x:Value}(hj:j<n)(hx:f' j=x)(ho:∀ i,i≠j->f' i=f i):VBlk (w.setCell ⟨g,j,none⟩ x) g n f':=by
 refine⟨by simpa [World.setCell] using h.lt,fun i hi=>?_,fun i=>by rw[World.frozen?_setCell];exact h.free i⟩
 by_cases e:i=j
 .subst e
  rw[hx]
  exact World.cell?_setCell_same' _ _ _ (by rw[h.cell i hi];rfl)
 .rw[qA _ _ _ _ (by intro e';injection e' with _ e2;exact e e2.symm),h.cell i hi,ho i e]
theorem VBlk.other{w:World}{g b n:Nat}{f:Nat->Value}(h:VBlk w g n f)(aa:b≠g)(j:Nat)(x:Value):VBlk (w.setCell ⟨b,j,none⟩ x) g n f:=by
 refine⟨by simpa [World.setCell] using h.lt,fun i hi=>?_,fun i=>by rw[World.frozen?_setCell];exact h.free i⟩
 rw[qA _ _ _ _ (by intro e';injection e' with e2;exact aa e2)];exact h.cell i hi
theorem VBlk.drewN{w:World}{g n k:Nat}{f:Nat->Value}(h:VBlk w g n f):VBlk (w.drewN k) g n f:=⟨h.lt,h.cell,h.free⟩
theorem VBlk.drew{w:World}{g n:Nat}{f:Nat->Value}(h:VBlk w g n f):VBlk w.drew g n f:=⟨h.lt,h.cell,h.free⟩
def unS(S:Nat->Bool):Nat->Nat
|0=>0
|n+1=>unS S n+if S n then 0 else 1
theorem zfW{S S':Nat->Bool}(h:∀ s,S s=true->S' s=true):∀ n:Nat,unS S' n<=unS S n
|0=>qQ _
|n+1=>by
  have ih:=zfW h n
  show unS S' n+(if S' n then 0 else 1)<=unS S n+if S n then 0 else 1
  cases hs:S n
  .split <;> simp <;> omega
  .rw[h n hs];exact Nat.add_le_add ih (qQ _)
theorem zma{S S':Nat->Bool}(h:∀ s,S s=true->S' s=true){s:Nat}(h0:S s=false)(h1:S' s=true):∀{n:Nat},s<n->unS S' n<unS S n
|n+1,hs=>by
  show unS S' n+(if S' n then 0 else 1)<unS S n+if S n then 0 else 1
  by_cases e:s=n
  .subst e
   have:=zfW h s
   rw[h0,h1];simp;omega
  .have:=zma h h0 h1 (n:=n) (by omega)
   cases hs:S n
   .split <;> simp <;> omega
   .rw[h n hs];simp;exact this
structure GD(B br bs bt bg gt gs:Nat):Prop where
 b1:B<=gt
 b2:B<=gs
 t1:gt≠br
 t2:gt≠bs
 t3:gt≠bt
 t4:gt≠bg
 t5:gt≠gs
 s1:gs≠br
 s2:gs≠bs
 s3:gs≠bt
 s4:gs≠bg
structure GW(V:World)(R:List (List Nat))(A:Option Addr)(c n br bs bt bg gt gs:Nat)(T:Tk)(S:Nat->Bool)(w:World):Prop where
 b:Below V.heap.size V w
 xr:Bx w br [.slice A R.length c]
 xs:Bx w bs [.slice (some ⟨gs,0,none⟩) n n]
 xt:Bx w bt [.slice (some ⟨gt,0,none⟩) n n]
 xg:Bx w bg [.func (.func 213) #[] #[.pointer (some ⟨br,0,none⟩),.pointer (some ⟨bs,0,none⟩),.pointer (some ⟨bt,0,none⟩),.pointer (some ⟨bg,0,none⟩)]]
 vt:VBlk w gt n (fun s=>.int .i64 (tkI (T s)))
 vs:VBlk w gs n (fun s=>.bool (S s))
theorem GW.setT{V:World}{R:List (List Nat)}{A:Option Addr}{c n br bs bt bg gt gs:Nat}{T:Tk}{S:Nat->Bool}{w:World}(h:GW V R A c n br bs bt bg gt gs T S w)(hD:GD V.heap.size br bs bt bg gt gs){s row:Nat}(hs:s<n) :
  GW V R A c n br bs bt bg gt gs (updT T s (some row)) S (w.setCell ⟨gt,s,none⟩ (.int .i64 row)):=
 ⟨h.b.setCell (p:=⟨gt,s,none⟩) hD.b1 _,h.xr.other (Ne.symm hD.t1) _ _,h.xs.other (Ne.symm hD.t2) _ _,h.xt.other (Ne.symm hD.t3) _ _,h.xg.other (Ne.symm hD.t4) _ _,
  h.vt.set_ hs (by unfold updT;rw[if_pos rfl];rfl) (fun i hi=>by unfold updT;rw[if_neg hi]),h.vs.other hD.t5 _ _⟩
theorem GW.setS{V:World}{R:List (List Nat)}{A:Option Addr}{c n br bs bt bg gt gs:Nat}{T:Tk}{S:Nat->Bool}{w:World}(h:GW V R A c n br bs bt bg gt gs T S w)(hD:GD V.heap.size br bs bt bg gt gs){s:Nat}(hs:s<n) :
  GW V R A c n br bs bt bg gt gs T (zb9 S s) (w.setCell ⟨gs,s,none⟩ (.bool true)):=
 ⟨h.b.setCell (p:=⟨gs,s,none⟩) hD.b2 _,h.xr.other (Ne.symm hD.s1) _ _,h.xs.other (Ne.symm hD.s2) _ _,h.xt.other (Ne.symm hD.s3) _ _,h.xg.other (Ne.symm hD.s4) _ _,
  h.vt.other (Ne.symm hD.t5) _ _,h.vs.set_ hs (by unfold zb9;simp) (fun i hi=>by unfold zb9;simp[hi])⟩
theorem GW.drewN{V:World}{R:List (List Nat)}{A:Option Addr}{c n br bs bt bg gt gs:Nat}{T:Tk}{S:Nat->Bool}{w:World}(h:GW V R A c n br bs bt bg gt gs T S w)(k:Nat):GW V R A c n br bs bt bg gt gs T S (w.drewN k):=
 ⟨zbz h.b k,h.xr.drewN,h.xs.drewN,h.xt.drewN,h.xg.drewN,h.vt.drewN,h.vs.drewN⟩
theorem GW.drew{V:World}{R:List (List Nat)}{A:Option Addr}{c n br bs bt bg gt gs:Nat}{T:Tk}{S:Nat->Bool}{w:World}(h:GW V R A c n br bs bt bg gt gs T S w):GW V R A c n br bs bt bg gt gs T S w.drew:=
 ⟨h.b.drew,h.xr.drew,h.xs.drew,h.xt.drew,h.xg.drew,h.vt.drew,h.vs.drew⟩
def RetG(V:World)(R:List (List Nat))(A:Option Addr)(c n br bs bt bg gt gs:Nat)(T:Tk)(S:Nat->Bool)(row:Nat)(e:Ending)(w':World):Prop:=
 ∃(b:Bool) (T':Tk) (S':Nat->Bool),e=.returned (.bool b)/\GW V R A c n br bs bt bg gt gs T' S' w'/\(b=true->GiveY (rowF R) T T' S S' row n)/\(b=false->T'=T/\GiveN (rowF R) T S S' (rowF R row))
structure RGv(V:World)(R:List (List Nat))(A:Option Addr)(c n br bs bt bg gt gs:Nat)(T:Tk)(S:Nat->Bool)(l:List Nat)(k:Nat)(W:World):Prop where
 hk:k<=l.length
 ex:∃ S',GiveN (rowF R) T S S' (l.take k)/\GW V R A c n br bs bt bg gt gs T S' W
theorem zox(V:World)(R:List (List Nat))(A:Option Addr)(c n br bs bt bg gt gs:Nat)(hD:GD V.heap.size br bs bt bg gt gs)(hR:RowsAt V V.heap.size A R)(ok:RowsOk R n)(m:Nat) :
  ∀(row:Nat) (T:Tk) (S:Nat->Bool) (w:World),unS S n<=m->row<R.length->(∀ s r,T s=some r->s∈rowF R r)->GW V R A c n br bs bt bg gt gs T S w->
   Calls Tryz.prog 213 #[.int .i64 row,.pointer (some ⟨br,0,none⟩),.pointer (some ⟨bs,0,none⟩),.pointer (some ⟨bt,0,none⟩),.pointer (some ⟨bg,0,none⟩)] w (RetG V R A c n br bs bt bg gt gs T S row):=by
 have HD:=qG hD
 have HR:=qG hR
 have OK:=qG ok
 have aB:=ok.n96
 have aC:=ok.len
 clear hD hR ok
 induction m using Nat.strongRecOn with
|ind m ih=>
  intro row T S w hm af ai hG
  have IH:=qG ih
  have HG:=qG hG
  have HM:=qG hm
  have aj:=qG ai
  obtain⟨b,off,A',c',e,hb,h0,ak⟩:=HR.o.row row _ (zi9 af)
  have OKL:=qG (OK.o.at af)
  have ax:=OKL.o.1
  have q0:=hG.xr.c 0 _ rfl
  replace h0:=(hG.b.cell (p:=⟨b,off+row,none⟩) hb).trans h0
  have am:=qG ak
  have aE:=qM hb hG.b.size
  obtain⟨l,hle⟩:∃ l,l=rowF R row:=⟨_,rfl⟩
  rw[<- hle] at h0 am OKL ax
  have HL:=qG hle
  clear ih hm ai hG ak hle
  subst e
  go_enter Tryz.func213,Tryz.ntmps213
  go_wp2_with fail
  clear q0 h0
  go_loopw [14] (fun iv wr=>∃ k:Nat,iv=.int .i64 k/\RGv V R (some ⟨b,off,none⟩) c n br bs bt bg gt gs T S l k wr) (fun iv _=>l.length-(intOf iv).toNat)
  case atStart=>exact⟨0,rfl,by omega,S,GiveN.start,HG.o⟩
  case round=>
   obtain⟨k,rfl,hk,S',hN,hI⟩:=hrel
   have HN:=qG hN
   have HI:=qG hI
   clear hN
   by_cases hlt:k<l.length
   .obtain⟨s,hs⟩:∃ s,l[k]?=some s:=⟨_,qN hlt⟩
    have ag:s∈l:=List.mem_of_getElem? hs
    have aa:s<n:=OKL.o.2 s ag
    obtain⟨b2,off2,e2,ay,hc⟩:=(am.o.below hI.b) k s hs
    have g0:=hc 0 _ rfl
    rw[Nat.mul_one,Nat.add_zero] at g0
    have an:l.take (k+1)=l.take k++[s]:=by rw[List.take_add_one,hs];rfl
    have ao:=qG an
    have aD:=qM ay hI.b.size
    have x2:=hI.xs.c 0 _ rfl
    have v2:=hI.vs.cell s aa
    have f2:=hI.vs.free s
    have aq:=qG ag
    clear hc an ag hs hI
    subst e2
    cases hS:S' s
    .rw[hS] at v2
     have HS:=qG hS
     have ac:=qG (HI.o.setS HD.o aa)
     clear hS
     go_upto_region 6 with fail
     generalize wr.setCell ⟨gs,s,none⟩ (.bool true)=W2 at *
     have x3:=ac.o.xt.c 0 _ rfl
     have x4:=ac.o.xg.c 0 _ rfl
     have v3:=ac.o.vt.cell s aa
     have f3:=ac.o.vt.free s
     cases hT:T s with
    |none=>
      rw[hT] at v3
      replace v3:W2.cell? ⟨gt,s,none⟩=some (.int .i64 (-1)):=v3
      have HT:=qG hT
      have HY:=qG (GiveY.free HN.o HS.o hT (by rw[<- HL.o];exact aq.o) aa)
      clear hT x2 v2 f2 g0
      go_wp2_with (go_quiet (fail))
      go_ret
      exact⟨true,_,_,rfl,(ac.o.drewN _).setT HD.o aa,fun _=>HY.o,(fun h=>by cases h)⟩
    |some r=>
      rw[hT] at v3
      replace v3:W2.cell? ⟨gt,s,none⟩=some (.int .i64 r):=v3
      have HT:=qG hT
      have az:=qG (aj.o s r hT)
      have aA:=zpU az.o
      clear hT x2 v2 f2 g0
      have aw:=qG (show unS (zb9 S' s) n<m from qM (zma (S:=S') (fun u hu=>zd3 hu) HS.o (zen _ _) aa) (Nat.le_trans (zfW HN.o.seen n) HM.o))
      have d1:decide ((r:Int)<0)=false:=decide_eq_false (by omega)
      refine wp_region_noPanic ?_
      refine wp_region_held_drew (S:=(fun W=>W.cell? ⟨bt,0,none⟩=some (.slice (some ⟨gt,0,none⟩) n n)/\W.cell? ⟨bg,0,none⟩=some (.func (.func 213) #[] #[.pointer (some ⟨br,0,none⟩),.pointer (some ⟨bs,0,none⟩),.pointer (some ⟨bt,0,none⟩),.pointer (some ⟨bg,0,none⟩)])/\W.cell? ⟨gt,s,none⟩=some (.int .i64 r))) (by kernel_rfl) ?_ (fun ae=>?_)
      ·(try dsimp only);exact⟨x3,x4,v3⟩
      refine ht 0 (h:=?_)
      refine ht 1 (h:=?_)
      refine ht 2 (h:=?_)
      refine ht 3 (h:=?_)
      refine ht 4 (h:=?_)
      refine ht 5 (h:=?_)
      refine ht 6 (h:=?_)
      refine ht 7 (h:=?_)
      refine ht 8 (h:=?_)
      refine ht 9 (h:=?_)
      refine ht 10 (h:=?_)
      refine r1 (i:=11) (by kernel_rfl) rfl fun K hK=>?_
      go_simp
      (with_reducible refine(IH.o (unS (zb9 S' s) n) aw.o r T (zb9 S' s) _ (qQ _) aA aj.o ?_).mono ?_);(exact ac.o.drew);rintro e w3 ⟨y,T',S'',rfl,ab,hy,hn⟩;have ah:T' s=some r:=(by cases y;exact((hn rfl).1▸HT.o);exact((hy rfl).keep s (zen _ _)).trans HT.o)
      refine hK.out _ _ ?_ (fun ae=>?_)
      ·(try dsimp only);exact⟨ab.xt.c 0 _ rfl,ab.xg.c 0 _ rfl,by have:=ab.vt.cell s aa;rw[ah] at this;exact this⟩
      clear hK K
      try simp only[qW]
      refine ht 12 (h:=?_)
      refine wpAnyH_done (by kernel_rfl) ?_ _
      refine NoPanic.normal ?_
      iterate 14 (try clear ae)
      have ar:=qG ab
      clear x3 x4 v3 f3
      cases y
      .have HE:=qG (hn rfl)
       have HF:=qG (show RGv V R (some ⟨b,off,none⟩) c n br bs bt bg gt gs T S l (k+1) w3 from⟨by omega,S'',by rw[ao.o];exact HN.o.go HT.o HE.o.2,by have:=ar.o;rw[HE.o.1] at this;exact this⟩)
       clear hy hn ab ah
       go_wp2_with fail
       exact⟨⟨k+1,by go_num,HF.o⟩,by simp[intOf];omega⟩
      .have HY:=qG (GiveY.move HN.o HS.o HT.o (show s∈rowF R row by rw[<- HL.o];exact aq.o) aa (hy rfl))
       have x3:=ab.xt.c 0 _ rfl
       have v3:=ab.vt.cell s aa
       have f3:=ab.vt.free s
       clear hy hn ab ah
       go_wp2_with fail
       go_ret
       exact⟨true,_,_,rfl,ar.o.setT HD.o aa,fun _=>HY.o,(fun h=>by cases h)⟩
    .rw[hS] at v2
     have HF:=qG (show RGv V R (some ⟨b,off,none⟩) c n br bs bt bg gt gs T S l (k+1) wr from⟨by omega,S',by rw[ao.o];exact HN.o.skip hS,HI.o⟩)
     clear hS
     go_wp2_with fail
     exact⟨⟨k+1,by go_num,HF.o⟩,by simp[intOf];omega⟩
   .have au:k=l.length:=by omega
    have HF:=qG (show GiveN (rowF R) T S S' (rowF R row) from by have:=HN.o;rw[au,List.take_length,HL.o] at this;exact this)
    clear au hI
    go_wp2_with fail
    go_ret
    exact⟨false,_,_,rfl,HI.o,(fun h=>by cases h),fun _=>⟨rfl,HF.o⟩⟩
end Le
namespace Le
def slotsL(l:List Int):Nat->List Nat
|0=>[]
|p+1=>slotsL l p++List.replicate (l.getD p 0).toNat p
theorem zeL{l:List Int}(hl:∀ x∈l,x<=16):∀ k:Nat,(slotsL l k).length<=16*k
|0=>qQ _
|k+1=>by
  have ih:=zeL hl k
  have h:l.getD k 0<=16:=by
   rw[qP]
   cases h:l[k]? with
  |none=>decide
  |some x=>exact hl x (List.mem_of_getElem? h)
  show(slotsL l k++List.replicate (l.getD k 0).toNat k).length<=_
  rw[qD,List.length_replicate];omega
theorem zfM(l:List Int)(p:Nat):∀ k:Nat,(slotsL l k).count p=if p<k then(l.getD p 0).toNat else 0
|0=>by rw[if_neg (by omega)];rfl
|k+1=>by
  have ih:=zfM l p k
  show(slotsL l k++List.replicate (l.getD k 0).toNat k).count p=_
  rw[List.count_append,ih,List.count_replicate]
  by_cases e:k=p
  .subst e
   rw[if_neg (by omega),if_pos (by simp),if_pos (by omega)];omega
  .rw[if_neg (show ¬(k==p)=true by simpa using e)]
   by_cases h:p<k
   .rw[if_pos h,if_pos (by omega)];omega
   .rw[if_neg h,if_neg (by omega)]
theorem zeK{l:List Int}{p:Nat}:∀{k:Nat},p∈slotsL l k->p<k/\0<(l.getD p 0)
|0,h=>by cases h
|k+1,h=>by
  rcases List.mem_append.1 (show p∈slotsL l k++List.replicate (l.getD k 0).toNat k from h) with h|h
  .have:=zeK h;exact⟨by omega,this.2⟩
  .rw[List.mem_replicate] at h
   obtain⟨h1,rfl⟩:=h
   exact⟨by omega,by omega⟩
theorem zio(L:List Nat)(p:Nat):∀ n:Nat,n<=L.length->cntF (fun s=>L.getD s 0) p n=(L.take n).count p
|0,_=>by simp[cntF]
|n+1,h=>by
  have ih:=zio L p n (by omega)
  show cntF (fun s=>L.getD s 0) p n+(if L.getD n 0=p then 1 else 0)=_
  rw[ih,List.take_succ_eq_append_getElem (by omega),List.count_append,qP,qN (by omega)]
  show _+(if L[n]=p then 1 else 0)=_+[L[n]].count p
  rw[List.count_singleton]
  simp
def rowG(q:Nat->Bool):Nat->List Nat
|0=>[]
|j+1=>if q j then rowG q j++[j] else rowG q j
theorem zeg{q:Nat->Bool}{s:Nat}:∀{j:Nat},s∈rowG q j↔s<j/\q s=true
|0=>by simp[rowG]
|j+1=>by
  have ih:=zeg (q:=q) (s:=s) (j:=j)
  show s∈(if q j then rowG q j++[j] else rowG q j)↔_
  cases hq:q j
  .rw[if_neg (by decide),ih]
   constructor
   .rintro⟨h1,h2⟩;exact⟨by omega,h2⟩
   .rintro⟨h1,h2⟩
    exact⟨by
     by_cases e:s=j
     .subst e;rw[hq] at h2;cases h2
     .omega,h2⟩
  .rw[if_pos rfl,List.mem_append,ih,List.mem_singleton]
   constructor
   .rintro(⟨h1,h2⟩|rfl)
    .exact⟨by omega,h2⟩
    .exact⟨by omega,hq⟩
   .rintro⟨h1,h2⟩
    by_cases e:s=j
    .exact .inr e
    .exact .inl ⟨by omega,h2⟩
theorem zeh(q:Nat->Bool):∀ j:Nat,(rowG q j).length<=j
|0=>qQ _
|j+1=>by
  have ih:=zeh q j
  show(if q j then rowG q j++[j] else rowG q j).length<=j+1
  split
  .rw[qD,List.length_singleton];omega
  .omega
theorem zfE(row:Nat->List Nat):∀ n:Nat,(zap row (fun _=>true) n).length=n
|0=>rfl
|n+1=>by
  show(if true=true then zap row (fun _=>true) n++[row n] else zap row (fun _=>true) n).length=_
  rw[if_pos rfl,qD,zfE row n];rfl
theorem zq7(row:Nat->List Nat){n k:Nat}(h:k<n):rowF (zap row (fun _=>true) n) k=row k:=by
 have:=(zcg (row:=row) (mu:=fun _=>true) (k:=k) rfl h).2
 rw[zfE] at this
 exact this
theorem zgd(row:Nat->List Nat)(mu:Nat->Bool):∀ n:Nat,(zap row mu n).length<=n
|0=>qQ _
|n+1=>by
  have ih:=zgd row mu n
  show(if mu n then zap row mu n++[row n] else zap row mu n).length<=n+1
  split
  .rw[qD,List.length_singleton];omega
  .omega
theorem zem{row:Nat->List Nat}{mu:Nat->Bool}{x:List Nat}:∀{n:Nat},x∈zap row mu n->∃ k,k<n/\x=row k
|0,h=>by cases h
|n+1,h=>by
  have h:x∈(if mu n then zap row mu n++[row n] else zap row mu n):=h
  split at h
  .rcases List.mem_append.1 h with h|h
   .obtain⟨k,hk,e⟩:=zem h;exact⟨k,by omega,e⟩
   .exact⟨n,by omega,List.mem_singleton.1 h⟩
  .obtain⟨k,hk,e⟩:=zem h;exact⟨k,by omega,e⟩
theorem zgm(l:List Int)(p:Nat):∀ k:Nat,k<=6->(has (freeN l k) p=true↔p=6\/p=7\/(p<k/\l.getD p 0=-1))
|0,_=>by
  show(192:Nat).testBit p=true↔_
  rw[show(192:Nat)=2 ^ 6 ||| 2 ^ 7 from rfl,Nat.testBit_or,Nat.testBit_two_pow,Nat.testBit_two_pow,Bool.or_eq_true,qC,qC]
  constructor
  .rintro(h|h)
   .exact .inl h.symm
   .exact .inr (.inl h.symm)
  .rintro(h|h|h)
   .exact .inl h.symm
   .exact .inr h.symm
   .omega
|k+1,hk=>by
  have ih:=zgm l p k (by omega)
  show has (if l.getD k 0=-1 then freeN l k ||| 2 ^ k else freeN l k) p=true↔_
  by_cases h:l.getD k 0=-1
  .rw[if_pos h]
   unfold has at ih ⊢
   rw[Nat.testBit_or,Bool.or_eq_true,ih,Nat.testBit_two_pow,qC]
   constructor
   .rintro((h1|h1|h1)|rfl)
    .exact .inl h1
    .exact .inr (.inl h1)
    .exact .inr (.inr ⟨by omega,h1.2⟩)
    .exact .inr (.inr ⟨by omega,h⟩)
   .rintro(h1|h1|⟨h1,h2⟩)
    .exact .inl (.inl h1)
    .exact .inl (.inr (.inl h1))
    .by_cases e:k=p
     .exact .inr e
     .exact .inl (.inr (.inr ⟨by omega,h2⟩))
  .rw[if_neg h,ih]
   constructor
   .rintro(h1|h1|h1)
    .exact .inl h1
    .exact .inr (.inl h1)
    .exact .inr (.inr ⟨by omega,h1.2⟩)
   .rintro(h1|h1|⟨h1,h2⟩)
    .exact .inl h1
    .exact .inr (.inl h1)
    .exact .inr (.inr ⟨by
      by_cases e:p=k
      .subst e;exact absurd h2 h
      .omega,h2⟩)
theorem zmR{a b:Nat}:a &&& b=0↔∀ p,¬(has a p=true/\has b p=true):=by
 unfold has
 constructor
 .intro h p hp
  have:(a &&& b).testBit p=true:=by rw[Nat.testBit_and,hp.1,hp.2];rfl
  rw[h,Nat.zero_testBit] at this;cases this
 .intro h
  refine Nat.eq_of_testBit_eq fun p=>?_
  rw[Nat.zero_testBit,Nat.testBit_and]
  have:=h p
  cases h1:a.testBit p
  .rfl
  .cases h2:b.testBit p
   .rfl
   .exact absurd ⟨h1,h2⟩ this
theorem zcX{l:List Int}{p:Nat}(h:∀ x∈l,-1<=x):admA l p=none↔l.length<=p\/l.getD p 0=-1:=by
 unfold admA
 rw[qP]
 cases hp:l[p]? with
|none=>exact⟨fun _=>.inl (List.getElem?_eq_none_iff.1 hp),fun _=>rfl⟩
|some m=>
  have hlt:=(qO.1 hp).1
  have hm:=h m (List.mem_of_getElem? hp)
  show(if 0<=m then some m.toNat else none)=none↔l.length<=p\/m=-1
  by_cases h0:0<=m
  .rw[if_pos h0]
   exact⟨fun h=>(by cases h),fun h=>(by omega)⟩
  .rw[if_neg h0]
   exact⟨fun _=>.inr (by omega),fun _=>rfl⟩
theorem zkn{l:List Int}{p m:Nat}(h:admA l p=some m):p<l.length/\m=(l.getD p 0).toNat:=by
 unfold admA at h
 rw[qP]
 cases hp:l[p]? with
|none=>rw[hp] at h;cases h
|some x=>
  rw[hp] at h
  have h:(if 0<=x then some x.toNat else none)=some m:=h
  split at h
  .injection h with h
   exact⟨(qO.1 hp).1,h.symm⟩
  .cases h
def OkB(L:Nat)(x:Nat):Prop:=∀ p,has x p=true->p<L\/p=6\/p=7
def muB(g:Nat->Nat)(l:List Int)(k:Nat):Bool:=decide (g k &&& freeN l l.length=0)
def ownP(l:List Int)(s:Nat):Nat:=(slotsL l l.length).getD s 0
def rowP(g:Nat->Nat)(l:List Int)(k:Nat):List Nat:=rowG (fun s=>has (g k) (ownP l s)) (slotsL l l.length).length
theorem zg3{n:Nat}{g:Nat->Nat}{l:List Int}(h6:l.length<=6)(hl:∀ x∈l,-1<=x)(hg:∀ k,k<n->OkB l.length (g k)):zl3 n (slotsL l l.length).length (fun k p=>has (g k) p) (admA l) (ownP l) (muB g l):=by
 refine⟨fun s hs=>?_,fun p m hp=>?_,fun k hk=>?_⟩
 .have hm:ownP l s∈slotsL l l.length:=by unfold ownP;rw[qP,qN hs];exact List.getElem_mem hs
  have h1:=zeK hm
  cases ha:admA l (ownP l s) with
 |some m=>exact⟨m,rfl⟩
 |none=>
   rcases(zcX hl).1 ha with h|h <;> omega
 .obtain⟨h1,h2⟩:=zkn hp
  have h3:=zio (slotsL l l.length) p _ (qQ _)
  rw[List.take_length,zfM,if_pos h1] at h3
  rw[h2,<- h3];rfl
 .unfold muB
  rw[qC,zmR]
  constructor
  .intro h p hp
   cases ha:admA l p with
  |some m=>exact⟨m,rfl⟩
  |none=>
    refine absurd ⟨hp,(zgm l p _ h6).2 ?_⟩ (h p)
    rcases hg k hk p hp with h1|h1|h1
    .rcases(zcX hl).1 ha with h2|h2
     .omega
     .exact .inr (.inr ⟨h1,h2⟩)
    .exact .inl h1
    .exact .inr (.inl h1)
  .rintro h p ⟨hp,hf⟩
   obtain⟨m,hm⟩:=h p hp
   obtain⟨h1,h2⟩:=zkn hm
   rcases(zgm l p _ h6).1 hf with h3|h3|h3
   .omega
   .omega
   .have:=(zcX (p:=p) hl).2 (.inr h3.2)
    rw[hm] at this;cases this
theorem zlP{n:Nat}{g:Nat->Nat}{l:List Int}(h6:l.length<=6)(hl:∀ x∈l,-1<=x)(hg:∀ k,k<n->OkB l.length (g k)){T T':Tk}{m1 m2:Nat}
  (h1:MtI (rowF (zap (rowP g l) (muB g l) n)) T (slotsL l l.length).length (zap (rowP g l) (muB g l) n).length m1) (h2:MtI (rowF (zap (rowP g l) (fun _=>true) n)) T' (slotsL l l.length).length n m2) :
  (m1=(zap (rowP g l) (muB g l) n).length/\m2=(slotsL l l.length).length)↔Fit n (fun k p=>has (g k) p) (admA l):=by
 refine zoA (zg3 h6 hl hg) (d:=6) ((zcX hl).2 (.inl h6)) (row:=rowP g l) (fun k s _=>?_) (fun k hk=>zq7 _ hk) h1 h2
 unfold rowP
 exact zeg
theorem zqb{n:Nat}{g:Nat->Nat}{l:List Int}(h6:l.length<=6)(hl:∀ x∈l,-1<=x)(hg:∀ k,k<n->OkB l.length (g k)){T:Tk}{m1:Nat}
  (h1:MtI (rowF (zap (rowP g l) (muB g l) n)) T (slotsL l l.length).length (zap (rowP g l) (muB g l) n).length m1) (aa:m1≠(zap (rowP g l) (muB g l) n).length):¬ Fit n (fun k p=>has (g k) p) (admA l):=fun hf=>by
 obtain⟨⟨σ,h2,h3⟩,-⟩:=(zif (zg3 h6 hl hg) (d:=6) ((zcX hl).2 (.inl h6))).1 hf
 exact aa ((zi8 h1).2 (zjs.2 ⟨σ,fun k hk hm=>zeg.2 (h2 k hk hm),h3⟩))
end Le
namespace Le
open Go.RowKit
theorem znB(m:Mt)(p:Int)(bp bt:Nat)(w:World)(hp:Bx w bp [.int .i64 p])(ht:Bx w bt m.cells)(hn:1<=m.t.n/\m.t.n<=16):Calls Tryz.prog 96 #[.pointer (some ⟨bp,0,none⟩),.pointer (some ⟨bt,0,none⟩)] w (RetQ (.bool (inS p 0 (m.t.n-1))) w):=by
 have c0:=hp.c 0 _ rfl
 have t0:=ht.c 0 _ rfl
 have l0:=hp.lt
 have l1:=ht.lt
 clear hp ht
 go_enter Tryz.func96,Tryz.ntmps96
 go_wp2_with (go_at_call 97;(with_reducible refine(zam _ _ _ _).mono ?_);rintro e w' ⟨rfl,rfl⟩)
 go_ret
 exact zbM rfl
theorem zmI(m:Mt)(p:Int)(bp bt:Nat)(w:World)(hp:Bx w bp [.int .i64 p])(ht:Bx w bt m.cells)(l3:m.t.admits.length<=9223372036854775807):Calls Tryz.prog 100 #[.pointer (some ⟨bp,0,none⟩),.pointer (some ⟨bt,0,none⟩)] w (RetQ (.bool (inS p 0 ((m.t.admits.length:Int)-1))) w):=by
 have c0:=hp.c 0 _ rfl
 have t0:=ht.c 3 _ rfl
 have l0:=hp.lt
 have l1:=ht.lt
 clear hp ht
 go_enter Tryz.func100,Tryz.ntmps100
 go_wp2_with (go_at_call 97;(with_reducible refine(zam _ _ _ _).mono ?_);rintro e w' ⟨rfl,rfl⟩)
 go_ret
 exact zbM rfl
def Only(Q:Exit->Act->World->Prop):Exit->Act->World->Prop
|.normal,a,w=>Q .normal a w
|_,_,_=>False
theorem Only.shut{Q:Exit->Act->World->Prop}:¬ LetsOut (Only Q):=fun⟨_,_,h⟩=>h
section
variable {P:Program} {ops:Array Oper} {Q:Exit->Act->World->Prop} {l n:Nat}
theorem zdo{row:String}{args:Array Value}{w:World}{R:Value->World->Prop}(h:Rows P row args w R):RowsIn (Fence.wide.inRound l) n P row args w R:=by
 intro c cs _
 obtain⟨v,w',r,s⟩:=h c cs
 exact⟨v,w',r,stepsIn_wide.2 s⟩
theorem zhz{o:Oper}{a:Act}{w:World}{K K':Act->World->Prop}(aa:∀ c,o.op≠.defer c)(hk:∀ a w,K a w->K' a w)(h:o.wp P a w K (Only Q)) :
  o.wpIn (Fence.wide.inRound l) n P a w K' Q:=by
 unfold Oper.wpIn
 refine⟨fun _ _=>trivial,?_⟩
 rw[Oper.semAt_eq _ _ _ aa]
 unfold Oper.wp at h
 generalize(execOp a.eval o).run P w=r at h ⊢
 cases r with
|ok x w'=>
  cases x <;> simp only[Oper.upon,Oper.uponIn] at h ⊢ <;> first
  |exact hk _ _ h
  |exact h.elim
  |exact⟨(fun hd=>by cases hd),CallsIn.inRound l (callsIn_wide.2 (h.mono fun e w'' he=>by cases e <;> first|exact hk _ _ he|exact he.elim|exact(Only.shut he).elim))⟩
  |exact⟨(fun hd=>by cases hd),zdo (h.mono fun _ _ he=>hk _ _ he)⟩
|halt x w'=>cases x <;> simp only[Oper.upon,Oper.uponIn] at h ⊢ <;> exact h.elim
def zcl(ops:Array Oper):Bool:=ops.all fun o=>match o.op with|.defer _=>false|_=>true
theorem zdr(h:zcl ops=true){i:Nat}{o:Oper}(ho:ops[i]?=some o):∀ c,o.op≠.defer c:=by
 intro c e
 have hm:=Array.all_eq_true'.1 h o (Array.mem_of_getElem? ho)
 rw[e] at hm
 cases hm
theorem zhp{i:Nat}{a:Act}{w:World}{K K':Act->World->Prop}(hd:zcl ops=true)(hk:∀ a w,K a w->K' a w)(h:wpOp P ops (Only Q) i K a w) :
  wpOpIn (Fence.wide.inRound l) n P ops Q i K' a w:=by
 unfold wpOp at h
 unfold wpOpIn
 cases ho:ops[i]? with
|none=>simp only[ho] at h ⊢;exact hk _ _ h
|some o=>
  simp only[ho] at h ⊢
  split
  .rename_i hw
   rw[if_pos hw] at h
   rcases h with h|⟨_,h⟩
   .exact zhz (zdr hd ho) hk h
   .exact(Only.shut h).elim
  .rename_i hw
   rw[if_neg hw] at h
   exact⟨fun _ _=>trivial,hk _ _ h⟩
theorem zdm(hd:zcl ops=true):∀(fuel:Nat) (listed:Array Bool) (a:Act) (w:World),wpAny P .any ops (Only Q) fuel listed a w->wpAnyIn (Fence.wide.inRound l) n P .any ops Q fuel listed a w
|0,_,_,_,h=>h
|fuel+1,_,_,_,h=>⟨h.1,fun i hi=>zhp hd (fun a' w' h'=>zdm hd fuel _ a' w' h') (h.2 i hi)⟩
theorem zcD{id:Nat}{S:World->Prop}{a:Act}{w:World}(hm:P.follows .mixedOrders=true)(hd:zcl ops=true)(hS:S w.drew)
  (h:S w.drew->wpAnyH P .any ops (Only Q) S ops.size (Array.replicate ops.size false) a w.drew):(Code.region id ops true).wpIn (Fence.wide.inRound l) n P Q a w:=
 wpIn_region_any hm (zdm hd _ _ _ _ (wpAny_of_held _ _ _ _ (h hS)))
end
end Le
end Go.Proofs.YtankkcbofgighaaGreatDoor
