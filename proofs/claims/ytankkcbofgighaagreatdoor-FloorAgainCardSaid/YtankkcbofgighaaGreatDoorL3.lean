import Derived.Test.YtankkcbofgighaaGreatDoorL2
import Derived.Test.YtankkcbofgighaaGreatDoorRows
import Derived.WalkKit
import Derived.WalkSpells
import Derived.WalkLawsBesides
import Derived.Lib.Hide
import Derived.BigQuiet
import Derived.Deep.QuietTactic
import Derived.Deep.AppendLies
import Derived.Deep.RegionHeld3
import Derived.Handy
import Derived.Laws.BitsAllLaws
import Derived.Maps.AppendAt
import Derived.ArgAppend
import Derived.Deep.Cut
set_option linter.all false
set_option maxRecDepth 100000
set_option maxHeartbeats 40000000
namespace Go.Proofs.YtankkcbofgighaaGreatDoor
namespace Le
open Go.RowKit
def Ret(v:Value)(w:World)(e:Ending)(w':World):Prop:=e=.returned v/\Below w.heap.size w w'
def RetQ(v:Value)(w:World)(e:Ending)(w':World):Prop:=e=.returned v/\w=w'
theorem znf(a b c:Bool):a=false\/(a=true/\b=false)\/(a=true/\b=true/\c=false)\/(a=true/\b=true/\c=true):=by cases a <;> cases b <;> cases c <;> simp
theorem zkg(a b c d:Bool):a=false\/(a=true/\b=false)\/(a=true/\b=true/\c=false)\/(a=true/\b=true/\c=true/\d=false)\/(a=true/\b=true/\c=true/\d=true):=by cases a <;> cases b <;> cases c <;> cases d <;> simp
theorem zbM{a b:Bool}{w:World}(h:a=b):RetQ (.bool b) w (.returned (.bool a)) w:=⟨by rw[h],rfl⟩
theorem zja{k:IntKind}{a b:Int}{w:World}(h:a=b):RetQ (.int k b) w (.returned (.int k a)) w:=⟨by rw[h],rfl⟩
theorem zaA{a b:Bool}{w w':World}(h:a=b)(hb:Below w.heap.size w w'):Ret (.bool b) w (.returned (.bool a)) w':=⟨by rw[h],hb⟩
theorem zdY{k:IntKind}{a b:Int}{w w':World}(h:a=b)(hb:Below w.heap.size w w'):Ret (.int k b) w (.returned (.int k a)) w':=⟨by rw[h],hb⟩
def At{α:Type}(w:World)(B size:Nat)(cells:α->List Value)(A:Option Addr)(l:List α):Prop:=
 ∀ k x,l[k]?=some x->∃ b off,A=some ⟨b,off,none⟩/\b<B/\∀ j u,(cells x)[j]?=some u->w.cell? ⟨b,off+k*size+j,none⟩=some u
theorem At.keep{α:Type}{w w':World}{B size:Nat}{cells:α->List Value}{A:Option Addr}{l:List α}(h:At w B size cells A l)
  (hk:∀ b o,b<B->w'.cell? ⟨b,o,none⟩=w.cell? ⟨b,o,none⟩):At w' B size cells A l:=fun k x hx=>by
 obtain⟨b,off,e,hb,hc⟩:=h k x hx
 exact⟨b,off,e,hb,fun j u hu=>(hk b _ hb).trans (hc j u hu)⟩
theorem At.below{α:Type}{w w':World}{B size:Nat}{cells:α->List Value}{A:Option Addr}{l:List α}(h:At w B size cells A l)
  (hb:Below B w w'):At w' B size cells A l:=h.keep fun b o hk=>hb.cell (p:=⟨b,o,none⟩) hk
theorem At.more{α:Type}{w:World}{B B' size:Nat}{cells:α->List Value}{A:Option Addr}{l:List α}(h:At w B size cells A l)
  (hb:B<=B'):At w B' size cells A l:=fun k x hx=>by
 obtain⟨b,off,e,hk,hc⟩:=h k x hx
 exact⟨b,off,e,qM hk hb,hc⟩
theorem zbz{B:Nat}{a w:World}(h:Below B a w)(n:Nat):Below B a (w.drewN n):=⟨h.os,h.tape,h.output,h.size,h.block⟩
theorem zbj{a w:World}(h:Below a.heap.size a w)(row:Option Nat):a.grownBy w row:=⟨h.os,h.tape,h.output,h.size,fun i hi _=>h.block i hi⟩
theorem za5{w w':World}{base:Nat}{e:TypeId}{size:Nat}{v:Value}{n:Nat}{xs:List Value}(h:w.ownsRow base e size v n xs)(hb:Below w.heap.size w w'):w'.ownsRow base e size v n xs:=
 h.kept (zbj hb none) (by cases v.ownBlock <;> simp)
theorem zbO{α:Type}{l:List α}{p:α->Bool}{k:Nat}(hk:k<l.length)(h:(l.take k).all p=true)(hp:p l[k]=true):(l.take (k+1)).all p=true:=by
 rw[List.take_succ_eq_append_getElem hk];simp only[List.all_append,h,List.all_cons,hp,List.all_nil,Bool.and_self]
theorem zbP{α:Type}{l:List α}{p:α->Bool}{k:Nat}(hk:¬ k<l.length)(h:(l.take k).all p=true):l.all p=true:=by
 rw[List.take_of_length_le (by omega)] at h;exact h
def zeros(n:Nat):Array Value:=madeCells #[.int .i64 0] n
def zad(n:Int):List Value:=[.int .i64 n]
theorem At.next{α:Type}{w w':World}{size:Nat}{cells:α->List Value}{A:Option Addr}{l:List α}(h:At w w.heap.size size cells A l)(hb:Below w.heap.size w w'):At w' w'.heap.size size cells A l:=(h.below hb).more hb.size
def Loan.cells(x:Loan):List Value:=[.int .i64 x.p,.int .i64 x.a,.int .i64 x.b]
def Look.cells(x:Look):List Value:=[.int .i64 x.h,.int .i64 x.there,.int .i64 x.gone]
structure Mt where
 t:Tl
 A1:Option Addr
 c1:Nat
 A2:Option Addr
 c2:Nat
 A3:Option Addr
 c3:Nat
def Mt.cells(m:Mt):List Value:=[.int .i64 m.t.n,.slice m.A1 m.t.loans.length m.c1,.slice m.A2 m.t.looks.length m.c2,.slice m.A3 m.t.admits.length m.c3]
structure TaleAt(w:World)(B:Nat)(m:Mt):Prop where
 lo:At w B 3 Loan.cells m.A1 m.t.loans
 lk:At w B 3 Look.cells m.A2 m.t.looks
 ad:At w B 1 zad m.A3 m.t.admits
 l1:m.t.loans.length<=9223372036854775807
 l2:m.t.looks.length<=9223372036854775807
 l3:m.t.admits.length<=9223372036854775807
 k1:m.t.loans.length<=m.c1
 k2:m.t.looks.length<=m.c2
 k3:m.t.admits.length<=m.c3
theorem TaleAt.below{w w':World}{B:Nat}{m:Mt}(h:TaleAt w B m)(hb:Below B w w'):TaleAt w' B m:=⟨h.lo.below hb,h.lk.below hb,h.ad.below hb,h.l1,h.l2,h.l3,h.k1,h.k2,h.k3⟩
theorem TaleAt.more{w:World}{B B':Nat}{m:Mt}(h:TaleAt w B m)(hb:B<=B'):TaleAt w B' m:=⟨h.lo.more hb,h.lk.more hb,h.ad.more hb,h.l1,h.l2,h.l3,h.k1,h.k2,h.k3⟩
theorem TaleAt.next{w w':World}{m:Mt}(h:TaleAt w w.heap.size m)(hb:Below w.heap.size w w'):TaleAt w' w'.heap.size m:=(h.below hb).more hb.size
theorem nxA(W:World)(o:Obj):Below W.heap.size W (W.alloc o):=(Below.refl _ _).alloc (qQ _) _
theorem zn8{l:List Loan}{k:Nat}(hk:k<l.length):l[k]?=some (l.getD k ⟨0,0,0⟩):=by
 rw[qP,qN hk];rfl
theorem zn7{l:List Look}{k:Nat}(hk:k<l.length):l[k]?=some (l.getD k ⟨0,0,0⟩):=by
 rw[qP,qN hk];rfl
theorem zkY{W:World}{B:Nat}{A:Option Addr}{l:List Loan}(h:At W B 3 Loan.cells A l){k:Nat}(hk:k<l.length):∃ b off,A=some ⟨b,off,none⟩/\b<B/\W.cell? ⟨b,off+k*3,none⟩=some (.int .i64 (l.getD k ⟨0,0,0⟩).p)/\W.cell? ⟨b,off+k*3+1,none⟩=some (.int .i64 (l.getD k ⟨0,0,0⟩).a)/\W.cell? ⟨b,off+k*3+2,none⟩=some (.int .i64 (l.getD k ⟨0,0,0⟩).b):=by
 obtain⟨b,off,e,hb,hc⟩:=h k _ (zn8 hk)
 exact⟨b,off,e,hb,hc 0 _ rfl,hc 1 _ rfl,hc 2 _ rfl⟩
theorem zkX{W:World}{B:Nat}{A:Option Addr}{l:List Look}(h:At W B 3 Look.cells A l){k:Nat}(hk:k<l.length):∃ b off,A=some ⟨b,off,none⟩/\b<B/\W.cell? ⟨b,off+k*3,none⟩=some (.int .i64 (l.getD k ⟨0,0,0⟩).h)/\W.cell? ⟨b,off+k*3+1,none⟩=some (.int .i64 (l.getD k ⟨0,0,0⟩).there)/\W.cell? ⟨b,off+k*3+2,none⟩=some (.int .i64 (l.getD k ⟨0,0,0⟩).gone):=by
 obtain⟨b,off,e,hb,hc⟩:=h k _ (zn7 hk)
 exact⟨b,off,e,hb,hc 0 _ rfl,hc 1 _ rfl,hc 2 _ rfl⟩
theorem zb4{W:World}{B:Nat}{A:Option Addr}{l:List Int}(h:At W B 1 zad A l){k:Nat}(hk:k<l.length):∃ b off,A=some ⟨b,off,none⟩/\b<B/\W.cell? ⟨b,off+k,none⟩=some (.int .i64 (l.getD k 0)):=by
 obtain⟨b,off,e,hb,hc⟩:=h k (l.getD k 0) (by rw[qP,qN hk];rfl)
 refine⟨b,off,e,hb,?_⟩
 have:=hc 0 _ rfl
 rw[Nat.mul_one] at this
 exact this
structure Bx(W:World)(b:Nat)(vs:List Value):Prop where
 lt:b<W.heap.size
 c:∀ j u,vs[j]?=some u->W.cell? ⟨b,j,none⟩=some u
 fr:∀ j,W.frozen? ⟨b,j,none⟩=false
theorem Bx.new(w:World)(vs:Array Value)(t:TypeId):Bx (w.alloc (.cells vs t)) w.heap.size vs.toList:=by
 refine⟨by simp,fun j u hu=>?_,fun j=>by simp[go_sem]⟩
 rw[cell_of_row _ _ _ _ t (0,0) (heap_alloc_new w _)]
 simpa using hu
theorem Bx.below{W W':World}{b B:Nat}{vs:List Value}(h:Bx W b vs)(hb:Below B W W')(hB:b<B):Bx W' b vs:=
 ⟨qM h.lt hb.size,fun j u hu=>(hb.cell (p:=⟨b,j,none⟩) hB).trans (h.c j u hu),fun j=>(hb.frozen (p:=⟨b,j,none⟩) hB).trans (h.fr j)⟩
theorem Bx.next{W W':World}{b:Nat}{vs:List Value}(h:Bx W b vs)(hb:Below W.heap.size W W'):Bx W' b vs:=h.below hb h.lt
theorem Bx.drewN{W:World}{b n:Nat}{vs:List Value}(h:Bx W b vs):Bx (W.drewN n) b vs:=⟨h.lt,h.c,h.fr⟩
theorem Bx.drew{W:World}{b:Nat}{vs:List Value}(h:Bx W b vs):Bx W.drew b vs:=⟨h.lt,h.c,h.fr⟩
def setCells(W:World)(b:Nat):Nat->List Value->World
|_,[]=>W
|j,v :: vs=>setCells (W.setCell ⟨b,j,none⟩ v) b (j+1) vs
theorem zay(b:Nat):∀(vs:List Value) (j:Nat) (W:World),(setCells W b j vs).heap.size=W.heap.size
|[],_,_=>rfl
|_ :: vs,j,_=>(zay b vs (j+1) _).trans (World.size_setCell _ _ _)
theorem zba(b:Nat):∀(vs:List Value) (j:Nat) (W:World) (i:Nat),(∀ k,k<vs.length->(W.cell? ⟨b,j+k,none⟩).isSome=true)->(setCells W b j vs).cell? ⟨b,i,none⟩=if j<=i/\i<j+vs.length then vs[i-j]? else W.cell? ⟨b,i,none⟩
|[],j,W,i,_=>by rw[if_neg (by simp only[List.length_nil];omega)];rfl
|v :: vs,j,W,i,h=>by
  have ih:=zba b vs (j+1) (W.setCell ⟨b,j,none⟩ v) i (fun k hk=>by
   rw[qA _ _ _ _ (by intro e;injection e with _ e2;omega)]
   have:=h (k+1) (by simpa using hk)
   rw[show j+(k+1)=j+1+k by omega] at this;exact this)
  show(setCells (W.setCell ⟨b,j,none⟩ v) b (j+1) vs).cell? ⟨b,i,none⟩=_
  rw[ih]
  by_cases e:i=j
  .subst e
   rw[if_neg (by omega),if_pos (by simp),Nat.sub_self]
   exact World.cell?_setCell_same' _ _ _ (h 0 (by simp))
  .rw[qA _ _ _ _ (by intro e';injection e' with _ e2;exact e e2.symm)]
   by_cases h1:j<=i/\i<j+(v :: vs).length
   .have h2:j+1<=i/\i<j+1+vs.length:=by simp at h1;omega
    rw[if_pos h1,if_pos h2,show i-j=(i-(j+1))+1 by omega];rfl
   .have h2:¬(j+1<=i/\i<j+1+vs.length):=by simp at h1;omega
    rw[if_neg h1,if_neg h2]
theorem za1(b:Nat):∀(vs:List Value) (j:Nat) (W:World) (g i:Nat),g≠b->(setCells W b j vs).cell? ⟨g,i,none⟩=W.cell? ⟨g,i,none⟩
|[],_,_,_,_,_=>rfl
|_ :: vs,j,_,g,i,h=>(za1 b vs (j+1) _ g i h).trans (qA _ _ _ _ (by intro e;injection e with e;exact h e.symm))
theorem zaE(b:Nat):∀(vs:List Value) (j:Nat) (W:World) (g i:Nat),(setCells W b j vs).frozen? ⟨g,i,none⟩=W.frozen? ⟨g,i,none⟩
|[],_,_,_,_=>rfl
|_ :: vs,j,_,g,i=>(zaE b vs (j+1) _ g i).trans (World.frozen?_setCell _ _ _ _)
theorem zac{B:Nat}{V:World}{b:Nat}(hb:B<=b):∀(vs:List Value) (j:Nat) {W:World},Below B V W->Below B V (setCells W b j vs)
|[],_,_,h=>h
|v :: vs,j,_,h=>zac hb vs (j+1) (h.setCell (p:=⟨b,j,none⟩) hb v)
theorem Bx.setAll{W:World}{b:Nat}{vs:List Value}(h:Bx W b vs)(ws:List Value)(hl:ws.length=vs.length):Bx (setCells W b 0 ws) b ws:=by
 refine⟨by rw[zay];exact h.lt,fun j u hu=>?_,fun j=>(zaE b ws 0 W b j).trans (h.fr j)⟩
 have hj:j<ws.length:=(qO.1 hu).1
 rw[zba b ws 0 W j (fun k hk=>by
  have aa:k<vs.length:=by omega
  rw[Nat.zero_add,h.c k _ (qN aa)];rfl),if_pos (by omega)]
 exact hu
theorem Bx.set{W:World}{b:Nat}{vs:List Value}(h:Bx W b vs){k:Nat}(hk:k<vs.length)(v:Value):Bx (W.setCell ⟨b,k,none⟩ v) b (vs.set k v):=by
 refine⟨by rw[World.size_setCell];exact h.lt,fun j u hu=>?_,fun j=>by rw[World.frozen?_setCell];exact h.fr j⟩
 by_cases e:j=k
 .subst e
  rw[List.getElem?_set_self hk] at hu
  injection hu with hu
  subst hu
  exact World.cell?_setCell_same' _ _ _ (by rw[h.c _ _ (qN hk)];rfl)
 .rw[List.getElem?_set_ne (Ne.symm e)] at hu
  rw[qA _ _ _ _ (by intro e';injection e' with _ e2;exact e e2.symm)]
  exact h.c j u hu
theorem Bx.other{W:World}{b g:Nat}{vs:List Value}(h:Bx W b vs)(hg:b≠g)(j:Nat)(v:Value):Bx (W.setCell ⟨g,j,none⟩ v) b vs:=
 ⟨by rw[World.size_setCell];exact h.lt,fun i u hu=>(qA _ _ _ _ (by intro e;injection e with e;exact hg e.symm)).trans (h.c i u hu),fun i=>by rw[World.frozen?_setCell];exact h.fr i⟩
theorem Bx.setOther{W:World}{b g:Nat}{vs:List Value}(h:Bx W b vs)(hg:b≠g)(ws:List Value)(j:Nat):Bx (setCells W g j ws) b vs:=
 ⟨by rw[zay];exact h.lt,fun i u hu=>(za1 g ws j W b i hg).trans (h.c i u hu),fun i=>(zaE g ws j W b i).trans (h.fr i)⟩
theorem zah{fn:Func}{p t:Tmp}{ty:TypeId}(h:fn.results=#[.cell p ty,.tmp t]){tmps:Array Value}{P:Program}{w:World}{a:Addr}{v:Value}(hp:tmps.getD p undef=.pointer (some a))(hv:(loadVar ty a).run P w=.ok v w) :
  (results fn tmps).run P w=.ok (.tuple #[v,tmps.getD t undef]) w:=by
 have aa:tmps[p]?.getD undef=.pointer (some a):=by simpa using hp
 simp[results,h,aa,asAddr,hv,Result.andThen]
theorem zbB{fn:Func}{p q:Tmp}{ty ty':TypeId}(h:fn.results=#[.cell p ty,.cell q ty']){tmps:Array Value}{P:Program}{w:World}{a b:Addr}{v u:Value}(hp:tmps.getD p undef=.pointer (some a))(hq:tmps.getD q undef=.pointer (some b))(hv:(loadVar ty a).run P w=.ok v w)(hu:(loadVar ty' b).run P w=.ok u w) :
  (results fn tmps).run P w=.ok (.tuple #[v,u]) w:=by
 have aa:tmps[p]?.getD undef=.pointer (some a):=by simpa using hp
 have ab:tmps[q]?.getD undef=.pointer (some b):=by simpa using hq
 simp[results,h,aa,ab,asAddr,hv,hu,Result.andThen]
theorem zbE{w:World}{base:Nat}{e:TypeId}{size:Nat}{v:Value}{n:Nat}{xs:List Value}(h:w.ownsRow base e size v n xs) :
  ∃ A c,v=.slice A n c/\∀ j u,xs[j]?=some u->∃ b,A=some ⟨b,0,none⟩/\base<=b/\b<w.heap.size/\w.cell? ⟨b,j,none⟩=some u:=by
 rcases h.2 with ⟨rfl,rfl⟩|⟨g,cap,cur,rfl,hb,hh,hn,hc,hs,hx⟩
 .refine⟨none,0,rfl,fun j u hu=>?_⟩
  have hl:=h.1
  have:j<xs.length:=(qO.1 hu).1
  omega
 .refine⟨some ⟨g,0,none⟩,cap,rfl,fun j u hu=>⟨g,rfl,hb,(qB.1 hh).1,?_⟩⟩
  have:=h.cells (g:=g) rfl j u hu
  rw[show((⟨g,0,none⟩:Addr).add j)=⟨g,j,none⟩ by unfold Addr.add;split <;> simp_all] at this
  exact this
theorem At.nil{α:Type}{w:World}{B size:Nat}{cells:α->List Value}{A:Option Addr}:At w B size cells A ([]:List α):=fun k x h=>by simp at h
theorem zdg{B:Nat}{a w w':World}(h':Below w.heap.size w w')(h:Below B a w)(hB:B<=a.heap.size):Below B a w':=h.trans (h'.mono (Nat.le_trans hB h.size))
section
variable {P:Program} {md:Region.Mode} {ops:Array Oper} {Q:Exit->Act->World->Prop} {S:World->Prop}
theorem zaf{i:Nat}{oi:Oper}{v:Value}{fuel:Nat}{listed:Array Bool}{a:Act}{w:World}(hi:ops.toList[i]?=some oi)
  (hs:Region.noSelect ops=true) (hf:Region.free md ops listed i=true) (hr:(Region.ready md ops listed).contains i=true)
  (hQ:∀ c a w,Q (.panic c) (a.put oi.dst v) w->Q (.panic c) a w) (hy:YieldsIf P ops S oi v a) (hS:S w)
  (h:wpAnyH P md ops Q S fuel (listed.setIfInBounds i true) (a.put oi.dst v) w):wpAnyH P md ops Q S (fuel+1) listed a w:=
 wpAnyH_take (by simpa using hi) hs hf hr hQ hy hS h
theorem ht{v:Value}{oi:Oper}{fuel:Nat}{listed:Array Bool}{a a':Act}{w:World}(i:Nat)(hi:ops.toList[i]?=some oi:=by rfl)
  (hs:Region.noSelect ops=true:=by kernel_rfl) (hf:Region.free md ops listed i=true:=by kernel_rfl) (hr:(Region.ready md ops listed).contains i=true:=by kernel_rfl)
  (hw:Region.wanted oi (yielded ops a.tmps)=true:=by rfl)
  (hy:∀ w,S w->(execOp a.eval oi).run P w=.ok (.value v) w:=by(intro w aa;(try dsimp only at aa);go_simp;try (with_reducible rfl)))
  (ha:a.put oi.dst v=a':=by((try simp only[qW]);rfl))
  (hS:S w:=by assumption) (h:wpAnyH P md ops Q S fuel (listed.setIfInBounds i true) a' w)
  (hQ:∀ c a w,Q (.panic c) (a.put oi.dst v) w->Q (.panic c) a w:=by exact fun _ _ _ h=>h):wpAnyH P md ops Q S (fuel+1) listed a w:=
 zaf hi hs hf hr hQ (.inl ⟨hw,hy⟩) hS (by rw[ha];exact h)
theorem zab{fuel:Nat}{listed:Array Bool}{a:Act}{w:World}{i:Nat}{o:Oper}{rs:List Nat}(ho:ops.toList[i]?=some o)
  (h:∀ K':Act->World->Prop,Shut (∀ a w,S w->(S w->wpAnyH P md ops Q S fuel (listed.setIfInBounds i true) a w)->K' a w)->if Region.wanted o (yielded ops a.tmps)=true then Oper.wp P o a w K' Q else K' (a.put o.dst undef) w)
  (hs:AllReadyH P md ops Q S fuel listed a w rs):AllReadyH P md ops Q S fuel listed a w (i :: rs):=AllReadyH.cons (by simpa using ho) h hs
theorem r1{fuel:Nat}{listed:Array Bool}{a:Act}{w:World}{i:Nat}{o:Oper}(hr:Region.ready md ops listed=[i])(ho:ops.toList[i]?=some o)(h:∀ K':Act->World->Prop,Shut (∀ a w,S w->(S w->wpAnyH P md ops Q S fuel (listed.setIfInBounds i true) a w)->K' a w)->if Region.wanted o (yielded ops a.tmps)=true then Oper.wp P o a w K' Q else K' (a.put o.dst undef) w):wpAnyH P md ops Q S (fuel+1) listed a w:=wpAnyH_ready hr (by simp) (zab ho h .nil)
end
theorem zch:(Tryz.prog.info? 3).map (fun i=>(i.zero,i.size,i.bytes))=some (some (.int .i64 0),1,8):=by kernel_rfl
theorem zhx{n:Nat}(h:n<=62):1<=powI n/\powI n<=4611686018427387904:=by
 have h1:2 ^ n<=2 ^ 62:=Nat.pow_le_pow_right (by omega) h
 have h2:0<2 ^ n:=Nat.two_pow_pos n
 have h3:(2:Nat) ^ 62=4611686018427387904:=by decide
 unfold powI;omega
def zbt(n:Nat)(s:Look):Bool:=!zcZ n s
def zbT(m:Int):Bool:=!zfq m
def zeb{α:Type}(l:List α)(p:α->Bool)(w:World)(e:Ending)(w':World):Prop:=∃ r:Int,e=.returned (.int .i64 r)/\decide (0<=r)=l.any p/\(∀ k:Nat,r=k->∃ x,l[k]?=some x/\p x=true/\l.find? p=some x)/\Below w.heap.size w w'
theorem zcH{α:Type}{l:List α}{p:α->Bool}(h:l.all (fun x=>!p x)=true):l.any p=false:=by
 rw[List.any_eq_false]
 intro x hx e
 have:=List.all_eq_true.1 h x hx
 simp[e] at this
theorem zcP{α:Type}{p:α->Bool}:∀{l:List α} {k:Nat} (hk:k<l.length),(l.take k).all (fun x=>!p x)=true->p l[k]=true->l.find? p=some l[k]
|x :: l,0,_,_,h=>by
  have h:p x=true:=h
  rw[List.find?_cons,h];rfl
|x :: l,k+1,hk,ha,h=>by
  rw[List.take_succ_cons,List.all_cons,Bool.and_eq_true,Bool.not_eq_true'] at ha
  rw[List.find?_cons,ha.1]
  exact zcP (l:=l) (by simpa using hk) ha.2 h
theorem zam(a b c:Int)(w:World):Calls Tryz.prog 97 #[.int .i64 a,.int .i64 b,.int .i64 c] w (RetQ (.bool (inS a b c)) w):=by
 go_enter Tryz.func97,Tryz.ntmps97
 go_wp2
 all_goals (go_ret;refine zbM ?_;unfold inS;rw[Bool.eq_iff_iff];simp;try omega)
theorem zjl(x y:Loan)(w:World):Calls Tryz.prog 154 #[.agg #[.int .i64 x.p,.int .i64 x.a,.int .i64 x.b],.agg #[.int .i64 y.p,.int .i64 y.a,.int .i64 y.b]] w (Ret (.bool (zaG x y)) w):=by
 go_enter Tryz.func154,Tryz.ntmps154
 go_wp2
 all_goals (go_ret;refine zaA ?_ ((nxA _ _).trans ((nxA _ _).mono (by simp)));unfold zaG;rw[Bool.eq_iff_iff];simp;try omega)
theorem znc(y:Loan)(bm:Nat)(x:Loan)(w:World)(hx:Bx w bm y.cells):Calls Tryz.prog 153 #[.agg #[.int .i64 x.p,.int .i64 x.a,.int .i64 x.b],.pointer (some ⟨bm,0,none⟩)] w (Ret (.bool (zaG y x)) w):=by
 have c0:=hx.c 0 _ rfl
 have c1:=hx.c 1 _ rfl
 have c2:=hx.c 2 _ rfl
 have hlt:=hx.lt
 clear hx
 have HB:=qG (nxA w (.cells #[.int .i64 x.p,.int .i64 x.a,.int .i64 x.b] 67))
 go_enter Tryz.func153,Tryz.ntmps153
 go_wp2_with fail
 refine(zjl y x _).mono ?_
 rintro e w1 ⟨rfl,aa⟩
 have Hb:=qG (HB.o.trans (aa.mono HB.o.size))
 clear aa
 go_wp2
 go_ret
 exact zaA rfl Hb.o
theorem zl1(x:Int)(w:World):Calls Tryz.prog 151 #[.int .i64 x] w (Ret (.bool (zbT x)) w):=by
 go_enter Tryz.func151,Tryz.ntmps151
 go_wp2_with (go_at_call 97;(with_reducible refine(zam _ _ _ _).mono ?_);rintro e w' ⟨rfl,rfl⟩)
 go_ret
 exact zaA rfl (Below.refl _ _)
theorem zdT(a b:Nat)(ha:a<9223372036854775808)(hb:b<9223372036854775808):bits .and .i64 (a:Int) (b:Int)=((a &&& b:Nat):Int):=by
 have hx:a &&& b<2 ^ 63:=Nat.and_lt_two_pow _ (by omega)
 have h1:(BitVec.ofInt 64 (a:Int)).toNat=a:=by
  rw[BitVec.ofInt_natCast,BitVec.toNat_ofNat];exact Nat.mod_eq_of_lt (by omega)
 have h2:(BitVec.ofInt 64 (b:Int)).toNat=b:=by
  rw[BitVec.ofInt_natCast,BitVec.toNat_ofNat];exact Nat.mod_eq_of_lt (by omega)
 show IntKind.i64.wrap ((BitVec.ofInt 64 (a:Int) &&& BitVec.ofInt 64 (b:Int)).toNat:Int)=_
 rw[BitVec.toNat_and,h1,h2,IntKind.wrap_i64]
 omega
theorem zcm(a b:Nat)(ha:a<9223372036854775808)(hb:b<9223372036854775808):bits .or .i64 (a:Int) (b:Int)=((a ||| b:Nat):Int):=by
 have hx:a ||| b<2 ^ 63:=Nat.or_lt_two_pow (by omega) (by omega)
 have h1:(BitVec.ofInt 64 (a:Int)).toNat=a:=by
  rw[BitVec.ofInt_natCast,BitVec.toNat_ofNat];exact Nat.mod_eq_of_lt (by omega)
 have h2:(BitVec.ofInt 64 (b:Int)).toNat=b:=by
  rw[BitVec.ofInt_natCast,BitVec.toNat_ofNat];exact Nat.mod_eq_of_lt (by omega)
 show IntKind.i64.wrap ((BitVec.ofInt 64 (a:Int) ||| BitVec.ofInt 64 (b:Int)).toNat:Int)=_
 rw[BitVec.toNat_or,h1,h2,IntKind.wrap_i64]
 omega
theorem zqs{n:Nat}(hn:n<=16){a b:Int}(ha:inS a 0 (powI n-1)=true)(hb:inS b 0 (powI n-1)=true):bits BinOp.and IntKind.i64 a b=((a.toNat &&& b.toNat:Nat):Int):=by
 rw[zb6] at ha hb
 have:=(zhx (n:=n) (by omega)).2
 have h1:powI n<=65536:=by
  have:2 ^ n<=2 ^ 16:=Nat.pow_le_pow_right (by omega) hn
  unfold powI;omega
 rw[show a=(a.toNat:Int) by omega,show b=(b.toNat:Int) by omega]
 rw[zdT _ _ (by omega) (by omega),Int.toNat_natCast,Int.toNat_natCast]
theorem zkG(n bm:Nat)(x:Look)(w:World)(hx:Bx w bm [.int .i64 (powI n-1)])(hn:n<=16):Calls Tryz.prog 150 #[.agg #[.int .i64 x.h,.int .i64 x.there,.int .i64 x.gone],.pointer (some ⟨bm,0,none⟩)] w (Ret (.bool (zbt n x)) w):=by
 have c0:=hx.c 0 _ rfl
 have hlt:=hx.lt
 clear hx
 have HB:=qG (nxA w (.cells #[.int .i64 x.h,.int .i64 x.there,.int .i64 x.gone] 194))
 have Hk:=qG (show zcZ n x=(inS x.h 0 mxH&&(inS x.there 0 (powI n-1)&&(inS x.gone 0 (powI n-1)&&decide (x.there.toNat &&& x.gone.toNat=0)))) from rfl)
 have HA:=qG (zqs hn (a:=x.there) (b:=x.gone))
 go_enter Tryz.func150,Tryz.ntmps150
 rcases znf (inS x.h 0 mxH) (inS x.there 0 (powI n-1)) (inS x.gone 0 (powI n-1)) with a1|⟨a1,a2⟩|⟨a1,a2,a3⟩|⟨a1,a2,a3⟩
 all_goals
  go_wp2_with (go_at_call 97;(with_reducible refine(zam _ _ _ _).mono ?_);rintro e w' ⟨rfl,rfl⟩)
  go_ret
  refine zaA ?_ HB.o
  unfold zbt
  rw[Hk.o]
  first
  |(simp[*];done)
  |(rw[HA.o a2 a3,a1,a2,a3,Bool.eq_iff_iff];simp;try omega)
def zhl(l:List Loan)(p:Loan->Bool)(w0:World)(i:Value)(w:World):Prop:=∃ k:Nat,k<=l.length/\i=.int .i64 k/\Below w0.heap.size w0 w/\(l.take k).all (fun x=>!p x)=true
theorem zhD(y:Loan)(bm:Nat)(A:Option Addr)(c:Nat)(l:List Loan)(w:World)(h:At w w.heap.size 3 Loan.cells A l)(hl:l.length<=9223372036854775807)(hx:Bx w bm y.cells) :
  Calls Tryz.prog 103 #[.slice A l.length c,.func (.func 153) #[] #[.pointer (some ⟨bm,0,none⟩)]] w (zeb l (zaG y) w):=by
 go_enter Tryz.func103,Tryz.ntmps103
 go_wp2
 go_loopw [8] (fun i wr=>zhl l (zaG y) w i wr) (fun i _=>l.length-(intOf i).toNat)
 case atStart=>exact⟨0,by omega,rfl,Below.refl _ _,rfl⟩
 case round=>
  obtain⟨k,hk,rfl,hb,aa⟩:=hrel
  by_cases hlt:k<l.length
  .obtain⟨b,off,rfl,af,ab⟩:=h.below hb k l[k] (qN hlt)
   have h0:=ab 0 _ rfl
   have h1:=ab 1 _ rfl
   have h2:=ab 2 _ rfl
   simp only[Nat.add_zero] at h0
   have ag:Below wr.heap.size wr wr:=Below.refl _ _
   have Hb:=qG hb
   have Ha:=qG (zbO (p:=fun x=>!(zaG y) x) hlt aa)
   have Hf:=qG (show(zaG y) l[k]=true->l.any (zaG y)=true from fun e=>List.any_eq_true.2 ⟨_,List.getElem_mem hlt,e⟩)
   have Hg:=qG (show(zaG y) l[k]=true->∃ yy,l[k]?=some yy/\(zaG y) yy=true/\l.find? (zaG y)=some yy from fun e=>⟨_,qN hlt,e,zcP hlt aa e⟩)
   have Hx:=qG (hx.next hb)
   clear hx
   generalize l[k]=x at *
   clear aa h ab hb
   go_wp2_with fail
   refine(znc y bm x wr Hx.o).mono ?_
   rintro e w1 ⟨rfl,ae⟩
   have ac:=qG (Hb.o.trans (ae.mono Hb.o.size))
   generalize hq:zaG y x=q
   rw[hq] at Ha Hf Hg
   clear ae
   cases q
   .go_wp2
    all_goals (first|(refine⟨?_,?_⟩;(unfold zhl;exact⟨k+1,by omega,by go_num,ac.o,Ha.o (by simp)⟩);(simp[intOf];omega))|(go_roundw;(case rel=>(unfold zhl;exact⟨k+1,by omega,by go_num,ac.o,Ha.o (by simp)⟩));(case measure=>(simp[intOf];omega)))|(go_round;(case rel=>(unfold zhl;exact⟨k+1,by omega,by go_num,ac.o,Ha.o (by simp)⟩));(case measure=>(simp[intOf];omega))))
   .go_wp2
    go_ret
    exact⟨_,rfl,by rw[Hf.o (by simp)];simp,fun k' e'=>(show k=k' by omega)▸Hg.o (by simp),ac.o⟩
  .have e:=zbP hlt aa
   go_wp2
   go_ret
   refine⟨_,rfl,?_,fun k' e'=>absurd e' (by omega),hb⟩
   rw[show l.any (zaG y)=false from zcH e]
   simp
theorem zfI(y:Loan)(bm:Nat)(A:Option Addr)(c:Nat)(l:List Loan)(w:World)(h:At w w.heap.size 3 Loan.cells A l)(hl:l.length<=9223372036854775807)(hx:Bx w bm y.cells) :
  Calls Tryz.prog 152 #[.slice A l.length c,.func (.func 153) #[] #[.pointer (some ⟨bm,0,none⟩)]] w (Ret (.bool (l.any (zaG y))) w):=by
 go_enter Tryz.func152,Tryz.ntmps152
 go_wp2_with fail
 refine(zhD y bm _ _ _ _ h hl hx).mono ?_
 rintro e w1 ⟨r,rfl,hr,_,aa⟩
 have Hb:=qG aa
 have Hr:=qG hr
 clear aa hr
 by_cases h0:0<=r
 .go_wp2
  go_ret
  exact zaA (by rw[<- Hr.o];first|done|simp[h0]) Hb.o
 .go_wp2
  go_ret
  exact zaA (by rw[<- Hr.o];first|done|simp[h0]) Hb.o
def ziR(l:List Look)(p:Look->Bool)(w0:World)(i:Value)(w:World):Prop:=∃ k:Nat,k<=l.length/\i=.int .i64 k/\Below w0.heap.size w0 w/\(l.take k).all (fun x=>!p x)=true
theorem zix(y bm:Nat)(A:Option Addr)(c:Nat)(l:List Look)(w:World)(h:At w w.heap.size 3 Look.cells A l)(hl:l.length<=9223372036854775807)(hx:Bx w bm [.int .i64 (powI y-1)])(hn:y<=16) :
  Calls Tryz.prog 212 #[.slice A l.length c,.func (.func 150) #[] #[.pointer (some ⟨bm,0,none⟩)]] w (zeb l (zbt y) w):=by
 go_enter Tryz.func212,Tryz.ntmps212
 go_wp2
 go_loopw [8] (fun i wr=>ziR l (zbt y) w i wr) (fun i _=>l.length-(intOf i).toNat)
 case atStart=>exact⟨0,by omega,rfl,Below.refl _ _,rfl⟩
 case round=>
  obtain⟨k,hk,rfl,hb,aa⟩:=hrel
  by_cases hlt:k<l.length
  .obtain⟨b,off,rfl,af,ab⟩:=h.below hb k l[k] (qN hlt)
   have h0:=ab 0 _ rfl
   have h1:=ab 1 _ rfl
   have h2:=ab 2 _ rfl
   simp only[Nat.add_zero] at h0
   have ag:Below wr.heap.size wr wr:=Below.refl _ _
   have Hb:=qG hb
   have Ha:=qG (zbO (p:=fun x=>!(zbt y) x) hlt aa)
   have Hf:=qG (show(zbt y) l[k]=true->l.any (zbt y)=true from fun e=>List.any_eq_true.2 ⟨_,List.getElem_mem hlt,e⟩)
   have Hg:=qG (show(zbt y) l[k]=true->∃ yy,l[k]?=some yy/\(zbt y) yy=true/\l.find? (zbt y)=some yy from fun e=>⟨_,qN hlt,e,zcP hlt aa e⟩)
   have Hx:=qG (hx.next hb)
   clear hx
   generalize l[k]=x at *
   clear aa h ab hb
   go_wp2_with fail
   refine(zkG y bm x wr Hx.o hn).mono ?_
   rintro e w1 ⟨rfl,ae⟩
   have ac:=qG (Hb.o.trans (ae.mono Hb.o.size))
   generalize hq:zbt y x=q
   rw[hq] at Ha Hf Hg
   clear ae
   cases q
   .go_wp2
    all_goals (first|(refine⟨?_,?_⟩;(unfold ziR;exact⟨k+1,by omega,by go_num,ac.o,Ha.o (by simp)⟩);(simp[intOf];omega))|(go_roundw;(case rel=>(unfold ziR;exact⟨k+1,by omega,by go_num,ac.o,Ha.o (by simp)⟩));(case measure=>(simp[intOf];omega)))|(go_round;(case rel=>(unfold ziR;exact⟨k+1,by omega,by go_num,ac.o,Ha.o (by simp)⟩));(case measure=>(simp[intOf];omega))))
   .go_wp2
    go_ret
    exact⟨_,rfl,by rw[Hf.o (by simp)];simp,fun k' e'=>(show k=k' by omega)▸Hg.o (by simp),ac.o⟩
  .have e:=zbP hlt aa
   go_wp2
   go_ret
   refine⟨_,rfl,?_,fun k' e'=>absurd e' (by omega),hb⟩
   rw[show l.any (zbt y)=false from zcH e]
   simp
theorem zgt(y bm:Nat)(A:Option Addr)(c:Nat)(l:List Look)(w:World)(h:At w w.heap.size 3 Look.cells A l)(hl:l.length<=9223372036854775807)(hx:Bx w bm [.int .i64 (powI y-1)])(hn:y<=16) :
  Calls Tryz.prog 155 #[.slice A l.length c,.func (.func 150) #[] #[.pointer (some ⟨bm,0,none⟩)]] w (Ret (.bool (l.any (zbt y))) w):=by
 go_enter Tryz.func155,Tryz.ntmps155
 go_wp2_with fail
 refine(zix y bm _ _ _ _ h hl hx hn).mono ?_
 rintro e w1 ⟨r,rfl,hr,_,aa⟩
 have Hb:=qG aa
 have Hr:=qG hr
 clear aa hr
 by_cases h0:0<=r
 .go_wp2
  go_ret
  exact zaA (by rw[<- Hr.o];first|done|simp[h0]) Hb.o
 .go_wp2
  go_ret
  exact zaA (by rw[<- Hr.o];first|done|simp[h0]) Hb.o
def RAdm(l:List Int)(p:Int->Bool)(w0:World)(i:Value)(w:World):Prop:=∃ k:Nat,k<=l.length/\i=.int .i64 k/\Below w0.heap.size w0 w/\(l.take k).all (fun x=>!p x)=true
theorem zjI(A:Option Addr)(c:Nat)(l:List Int)(w:World)(h:At w w.heap.size 1 zad A l)(hl:l.length<=9223372036854775807) :
  Calls Tryz.prog 78 #[.slice A l.length c,.func (.func 151) #[] #[]] w (zeb l zbT w):=by
 go_enter Tryz.func78,Tryz.ntmps78
 go_wp2
 go_loopw [8] (fun i wr=>RAdm l zbT w i wr) (fun i _=>l.length-(intOf i).toNat)
 case atStart=>exact⟨0,by omega,rfl,Below.refl _ _,rfl⟩
 case round=>
  obtain⟨k,hk,rfl,hb,aa⟩:=hrel
  by_cases hlt:k<l.length
  .obtain⟨b,off,rfl,af,ac⟩:=h.below hb k l[k] (qN hlt)
   have h0:=ac 0 _ rfl
   simp only[Nat.add_zero,Nat.mul_one] at h0
   have ag:Below wr.heap.size wr wr:=Below.refl _ _
   have Hb:=qG hb
   have Ha:=qG (zbO (p:=fun x=>!zbT x) hlt aa)
   have Hf:=qG (show zbT l[k]=true->l.any zbT=true from fun e=>List.any_eq_true.2 ⟨_,List.getElem_mem hlt,e⟩)
   have Hg:=qG (show zbT l[k]=true->∃ yy,l[k]?=some yy/\zbT yy=true/\l.find? zbT=some yy from fun e=>⟨_,qN hlt,e,zcP hlt aa e⟩)
   generalize l[k]=x at *
   clear aa h ac hb
   go_wp2_with fail
   refine(zl1 x wr).mono ?_
   rintro e w1 ⟨rfl,ae⟩
   have ab:=qG (Hb.o.trans (ae.mono Hb.o.size))
   generalize hq:zbT x=q
   rw[hq] at Ha Hf Hg
   clear ae
   cases q
   .go_wp2
    all_goals (first|(refine⟨?_,?_⟩;(unfold RAdm;exact⟨k+1,by omega,by go_num,ab.o,Ha.o (by simp)⟩);(simp[intOf];omega))|(go_roundw;(case rel=>(unfold RAdm;exact⟨k+1,by omega,by go_num,ab.o,Ha.o (by simp)⟩));(case measure=>(simp[intOf];omega)))|(go_round;(case rel=>(unfold RAdm;exact⟨k+1,by omega,by go_num,ab.o,Ha.o (by simp)⟩));(case measure=>(simp[intOf];omega))))
   .go_wp2
    go_ret
    exact⟨_,rfl,by rw[Hf.o (by simp)];simp,fun k' e'=>(show k=k' by omega)▸Hg.o (by simp),ab.o⟩
  .have e:=zbP hlt aa
   go_wp2
   go_ret
   refine⟨_,rfl,?_,fun k' e'=>absurd e' (by omega),hb⟩
   rw[show l.any zbT=false from zcH e]
   simp
theorem zhb(A:Option Addr)(c:Nat)(l:List Int)(w:World)(h:At w w.heap.size 1 zad A l)(hl:l.length<=9223372036854775807) :
  Calls Tryz.prog 141 #[.slice A l.length c,.func (.func 151) #[] #[]] w (Ret (.bool (l.any zbT)) w):=by
 go_enter Tryz.func141,Tryz.ntmps141
 go_wp2_with fail
 refine(zjI  _ _ _ _ h hl).mono ?_
 rintro e w1 ⟨r,rfl,hr,_,aa⟩
 have Hb:=qG aa
 have Hr:=qG hr
 clear aa hr
 by_cases h0:0<=r
 .go_wp2
  go_ret
  exact zaA (by rw[<- Hr.o];first|done|simp[h0]) Hb.o
 .go_wp2
  go_ret
  exact zaA (by rw[<- Hr.o];first|done|simp[h0]) Hb.o
theorem zjo{m k:Nat}{l:List Loan}(hk:k<l.length):zbm m (l.take k) (l.drop k)=(zcr m (l.getD k ⟨0,0,0⟩)&&!((l.take k).any (zaG (l.getD k ⟨0,0,0⟩)))&&zbm m (l.take (k+1)) (l.drop (k+1))):=by
 have hg:l.getD k ⟨0,0,0⟩=l[k]:=by rw[qP,qN hk];rfl
 rw[hg,List.drop_eq_getElem_cons hk,List.take_succ_eq_append_getElem hk];rfl
theorem zkt{m k:Nat}{l:List Loan}(hk:¬ k<l.length):zbm m (l.take k) (l.drop k)=true:=by
 rw[List.drop_eq_nil_of_le (by omega)];rfl
structure OkT(t:Tl):Prop where
 n1:1<=t.n
 n2:t.n<=16
 a1:1<=t.admits.length
 a2:t.admits.length<=6
 lo:t.loans.length<=12
 lk:t.looks.length<=20
 lent:Lent t.loans
 per:∀ x∈t.loans,x.p<t.admits.length
 look:∀ x∈t.looks,(0<=x.h/\x.h<=mxH)/\(0<=x.there/\x.there<=powI t.n.toNat-1)/\(0<=x.gone/\x.gone<=powI t.n.toNat-1)/\x.there.toNat &&& x.gone.toNat=0
 adm:∀ m∈t.admits,-1<=m/\m<=16
theorem zcL{t:Tl}(h:zaN t=true):OkT t:=by
 unfold zaN at h
 simp only[Bool.and_eq_true,zb6,qC,List.all_eq_true] at h
 obtain⟨h1,h2,h3,h4,h5,h6,h7⟩:=h
 obtain⟨h8,h9⟩:=zeX (by omega) h5
 refine⟨h1.1,h1.2,by omega,by omega,by omega,by omega,h8,fun x hx=>(h9 x hx).1,fun x hx=>?_,fun m hm=>?_⟩
 .have:=h6 x hx
  unfold zcZ at this
  simp only[Bool.and_eq_true,zb6,qC] at this
  exact⟨this.1,this.2.1,this.2.2.1,this.2.2.2⟩
 .have:=h7 m hm
  unfold zfq at this
  exact zb6.1 this
theorem zmo{l:List Look}{i k:Nat}(hi:i<l.length):seenS (l.take (i+1)) k=if ibit (l.getD i ⟨0,0,0⟩).there k then max (seenS (l.take i) k) (l.getD i ⟨0,0,0⟩).h else seenS (l.take i) k:=by
 have hg:l.getD i ⟨0,0,0⟩=l[i]:=by rw[qP,qN hi];rfl
 unfold seenS
 rw[hg,List.take_succ_eq_append_getElem hi,List.foldl_append];rfl
theorem zm0{l:List Look}{i k:Nat}(hi:i<l.length):goneS (l.take (i+1)) k=if ibit (l.getD i ⟨0,0,0⟩).gone k then min (goneS (l.take i) k) (l.getD i ⟨0,0,0⟩).h else goneS (l.take i) k:=by
 have hg:l.getD i ⟨0,0,0⟩=l[i]:=by rw[qP,qN hi];rfl
 unfold goneS
 rw[hg,List.take_succ_eq_append_getElem hi,List.foldl_append];rfl
theorem zdv{α:Type}{l:List α}{i:Nat}{d:α}(hi:i<l.length):l.getD i d∈l:=by
 rw[qP,qN hi];exact List.getElem_mem hi
end Le
namespace Le
theorem zdf{t:Tl}:(zby t).2=4↔zaN t=true/\zaW t t.looks.length=none/\fitB t=true:=by
 unfold zby
 cases zaN t
 .simp
 .simp only[Bool.true_eq_false,if_false,true_and]
  cases zaW t t.looks.length with
 |some i=>simp
 |none=>cases fitB t <;> simp
theorem zfO(m:Nat)(x:Loan):∀(l e:List Loan),zbm m e (l++[x])=(zbm m e l&&(zcr m x&&!((e++l).any (zaG x))))
|[],e=>by simp[zbm]
|y :: l,e=>by
  show(zcr m y&&!(e.any (zaG y))&&zbm m (e++[y]) (l++[x]))=(zcr m y&&!(e.any (zaG y))&&zbm m (e++[y]) l&&_)
  rw[zfO m x l (e++[y])]
  simp only[List.append_assoc,List.singleton_append,Bool.and_assoc]
theorem zfg(t:Tl)(l:List Loan):∀ i,zaW { t with loans:=l } i=zaW t i
|0=>rfl
|i+1=>by
  unfold zaW
  rw[zfg t l i]
theorem zin{f g:Nat->Nat}{p:Nat}:∀{n:Nat},(∀ k,k<n->(f k=p↔g k=p))->cntF f p n=cntF g p n
|0,_=>rfl
|n+1,h=>by
  unfold cntF
  rw[zin (n:=n) (fun k hk=>h k (by omega))]
  by_cases e:f n=p
  .rw[if_pos e,if_pos ((h n (by omega)).1 e)]
  .rw[if_neg e,if_neg (fun e'=>e ((h n (by omega)).2 e'))]
theorem zoe{t:Tl}{p now:Int}(hc:(zby t).2=4)(hp:0<=p/\p<t.admits.length)(ai:t.loans.length<12)(hn:0<=now/\now<=1048575)(hb:∀ x∈t.loans,x.b<=now)(hk:∀ x∈t.looks,x.h<=now) :
  (zby { t with loans:=t.loans++[⟨p,now,1048576⟩] }).2=4:=by
 obtain⟨h1,h2,h3⟩:=zdf.1 hc
 have ok:=zcL h1
 have aa:∀ x∈t.looks,0<=x.h/\x.h<=mxH:=fun x hx=>(ok.look x hx).1
 have af:zaN { t with loans:=t.loans++[⟨p,now,1048576⟩] }=true:=by
  unfold zaN at h1 ⊢
  simp only[Bool.and_eq_true,qC] at h1 ⊢
  obtain⟨a1,a2,a3,a4,a5,a6⟩:=h1
  refine⟨a1,a2,by rw[qD];simp only[List.length_cons,List.length_nil];omega,a4,?_,a6⟩
  rw[zfO,a5]
  simp only[Bool.true_and,Bool.and_eq_true,Bool.not_eq_true',List.nil_append]
  refine⟨?_,?_⟩
  .unfold zcr inS mxH
   simp only[Bool.and_eq_true,qC]
   omega
  .rw[List.any_eq_false]
   intro x hx
   have:=hb x hx
   unfold zaG
   simp only[Bool.and_eq_true,qC]
   omega
 have ok':=zcL af
 refine zdf.2 ⟨af,by rw[zfg];exact h2,?_⟩
 have ab:∀ x∈({ t with loans:=t.loans++[⟨p,now,1048576⟩] }:Tl).looks,0<=x.h/\x.h<=mxH:=aa
 rw[zcA ok'.lent ab]
 obtain⟨f,hf⟩:=(zcA ok.lent aa).1 h3
 have ae:∀ h:Int,0<=h->h<=mxH->(h<now\/h=mxH\/whoH t.loans h≠6)->whoH (t.loans++[⟨p,now,1048576⟩]) h=whoH t.loans h:=fun h h0 hm ag=>by
  unfold whoH
  by_cases e:h=mxH
  .rw[if_pos e,if_pos e]
  .rw[if_neg e,if_neg e]
   have:zbQ (t.loans++[⟨p,now,1048576⟩]) h=zbQ t.loans h:=by
    unfold zbQ
    rw[List.find?_append]
    cases e1:t.loans.find? (zaL h) with
   |some x=>rfl
   |none=>
     rcases ag with h5|h5|h5
     .have:zaL h ⟨p,now,1048576⟩=false:=by unfold zaL;simp only[Bool.and_eq_false_iff,decide_eq_false_iff_not];omega
      rw[List.find?_cons,this]
      rfl
     .exact absurd h5 e
     .exfalso;apply h5;unfold whoH zbQ;rw[if_neg e,e1];rfl
   rw[this]
 refine⟨fun k=>if f k=6 then(if zbY { t with loans:=t.loans++[⟨p,now,1048576⟩] } k 6=true then 6 else 7) else f k,fun k ah=>?_,fun q m hq=>?_⟩
 .obtain⟨h,hw,he⟩:=(zdn ok.lent aa).1 (hf.can k ah)
  have ac:∀ v x,InW t.looks k x->whoH (t.loans++[⟨p,now,1048576⟩]) x=v->zbY { t with loans:=t.loans++[⟨p,now,1048576⟩] } k v=true:=fun v x hx e=>(zdn ok'.lent ab).2 ⟨x,hx,e⟩
  by_cases e6:f k=6
  .rw[if_pos e6]
   split
   .rename_i hs;exact hs
   .rename_i hs
    by_cases hlt:h<now\/h=mxH
    .exact absurd (ac 6 h hw (by rw[ae h hw.1 hw.2.1 (hlt.elim .inl (fun x=>.inr (.inl x))),he,e6])) hs
    .refine ac 7 mxH ⟨by unfold mxH;omega,Int.le_refl _,fun x hx=>⟨fun _=>(aa x hx).2,fun hg=>?_⟩⟩ (by unfold whoH;rw[if_pos rfl])
     have h5:=(hw.2.2 x hx).2 hg
     have h6:=hk x hx
     omega
  .rw[if_neg e6]
   exact ac _ h hw (by rw[ae h hw.1 hw.2.1 (.inr (.inr (by rw[he];exact e6))),he])
 .have aj:q<6:=by
   unfold admA at hq
   cases e:t.admits[q]? with
  |none=>simp only[e] at hq;cases hq
  |some m=>have:=(qO.1 e).1;have:=ok.a2;omega
  rw[<- hf.adm q m hq]
  refine zin fun k _=>?_
  by_cases e6:f k=6
  .rw[if_pos e6,e6]
   split <;> omega
  .rw[if_neg e6]
theorem zn0{n m:Int}(h1:1<=n/\n<=16)(h2:1<=m/\m<=6):(zby ⟨n,[],[],List.replicate m.toNat (-1)⟩).2=4:=by
 have ab:zaN ⟨n,[],[],List.replicate m.toNat (-1)⟩=true:=by
  unfold zaN
  simp only[Bool.and_eq_true,qC,zb6,List.length_replicate,List.length_nil,List.all_nil,List.all_eq_true]
  refine⟨by omega,by omega,by decide,by decide,rfl,trivial,fun x hx=>?_⟩
  rw[(List.mem_replicate.1 hx).2];rfl
 refine zdf.2 ⟨ab,rfl,?_⟩
 have ok:=zcL ab
 have aa:∀ x∈(⟨n,[],[],List.replicate m.toNat (-1)⟩:Tl).looks,0<=x.h/\x.h<=mxH:=fun x hx=>by cases hx
 rw[zcA ok.lent aa]
 refine⟨fun _=>7,fun k _=>(zdn ok.lent aa).2 ⟨mxH,⟨by unfold mxH;omega,Int.le_refl _,fun x hx=>by cases hx⟩,by unfold whoH;rw[if_pos rfl]⟩,fun p q hq=>?_⟩
 unfold admA at hq
 simp only[List.getElem?_replicate] at hq
 by_cases e:p<m.toNat
 .rw[if_pos e] at hq;simp at hq
 .rw[if_neg e] at hq;simp at hq
end Le
section
structure BOk(d:Ru.Die)(b:Bk):Prop where
 hour:0<=b.hour/\b.hour<=1048575
 nc:b.cuts.length<=6
 ck:∀ c∈b.cuts,(Cu.checkS c.c).2=0
 nr:b.ran.length=d.blades.length
 rn:∀ r∈b.ran,0<=r/\r<=7000
 rw_:∀(i:Nat) (r:Int),b.ran[i]?=some r->0<r->Ru.worstS (Ru.bladeAt d i) r<=d.bound/\b.made≠[]
 nm:b.made.length<=12
 md:∀ x∈b.made,0<=x.cut/\x.cut<b.cuts.length/\1<=x.n/\x.n<=1000
 ft:(Le.zby b.t).2=4
 lk:∀ x∈b.t.looks,x.h<=b.hour
 ln:∀ x∈b.t.loans,x.a<=b.hour/\(x.b<=b.hour\/x.b=1048576)
 op:b.opn=true->∃ l x,b.t.loans=l++[x]/\x.b=1048576/\∀ y∈l,y.b<=b.hour
 cl:b.opn=false->∀ y∈b.t.loans,y.b<=b.hour
 ct:0<=b.cost
theorem ze7(d:Ru.Die)(k:Int):∀(l:List Int) (i:Nat) (far far':Int),farS d k i l far=.ok far'->far<=far'/\∀(j:Nat) (r:Int),l[j]?=some r->(Ru.offS d ((i+j:Nat):Int) (r+k)).2=0/\(Ru.offS d ((i+j:Nat):Int) (r+k)).1.2<=far'
|[],_,_,_,h=>by unfold farS at h;injection h with h;subst h;exact⟨Int.le_refl _,fun j r hr=>by simp at hr⟩
|x :: l,i,far,far',h=>by
  unfold farS at h
  split at h
  .cases h
  .rename_i hn
   obtain⟨h1,h2⟩:=ze7 d k l (i+1) _ far' h
   refine⟨by omega,fun j r hr=>?_⟩
   cases j with
  |zero=>
    rw[List.getElem?_cons_zero] at hr
    injection hr with hr
    subst hr
    rw[Nat.add_zero]
    exact⟨by simpa using hn,by omega⟩
  |succ j=>
    rw[List.getElem?_cons_succ] at hr
    have:=h2 j r hr
    rw[show i+(j+1)=i+1+j by omega]
    exact this
theorem zmy{d:Ru.Die}{k x:Int}(h:(Ru.offS d k x).2=0):Ru.dieS d=true/\(0<=k/\k<d.blades.length)/\(0<=x/\x<=7000)/\(Ru.offS d k x).1.2=Ru.worstS (Ru.bladeAt d k.toNat) x:=by
 unfold Ru.offS at h ⊢
 split at h
 .cases h
 .rename_i h1
  split at h
  .cases h
  .rename_i h2
   rw[if_neg h1,if_neg h2]
   simp only[Ru.inS,decide_eq_false_iff_not,not_or,Decidable.not_not] at h2
   exact⟨by simpa using h1,⟨h2.1.1,by omega⟩,h2.2,rfl⟩
theorem zgq{t:Le.Tl}(h:¬ fitE t≠0):(Le.zby t).2=4:=by
 unfold fitE at h
 split at h
 .exact absurd (by decide) h
 .split at h
  .assumption
  .rename_i h1 h2
   simp only[ne_eq,Decidable.not_not] at h
   exact absurd h h1
theorem znK{α:Type}(l:List α)(x y:α):(l++[x]).set ((l++[x]).length-1) y=l++[y]:=by
 rw[qD,List.length_singleton,Nat.add_sub_cancel,List.set_append_right _ _ (qQ _),Nat.sub_self,qK]
theorem BOk.later{d:Ru.Die}{b:Bk}(h:BOk d b){n:Int}(h1:b.hour<=n)(h2:n<=1048575):BOk d { b with hour:=n }:=
 ⟨⟨by have:=h.hour;show 0<=n;omega,h2⟩,h.nc,h.ck,h.nr,h.rn,h.rw_,h.nm,h.md,h.ft,fun x hx=>by have:=h.lk x hx;show x.h<=n;omega,
  fun x hx=>by have:=h.ln x hx;show x.a<=n/\(x.b<=n\/_);omega,
  fun ho=>by obtain⟨l,x,e1,e2,e3⟩:=h.op ho;exact⟨l,x,e1,e2,fun y hy=>by have:=e3 y hy;show y.b<=n;omega⟩,
  fun ho y hy=>by have:=h.cl ho y hy;show y.b<=n;omega,h.ct⟩
theorem zj8{d:Ru.Die}(hd:Ru.dieS d=true){b b':Bk}{v:Vb}{n:List Int}{t:Tx}(h:BOk d b)(hn:∀ x∈n,0<=x)(hr:doV d b v n=.ok (b',t)):BOk d b':=by
 have aa:∀ i,0<=n.getD i 0:=fun i=>by
  rw[qP]
  cases e:n[i]? with
 |none=>exact Int.le_refl _
 |some x=>exact hn x (List.mem_of_getElem? e)
 have ah:0<=d.stop/\0<=d.bend:=by
  unfold Ru.dieS Ru.inS at hd
  simp only[Bool.and_eq_true,qC] at hd
  omega
 cases v <;> unfold doV at hr <;> simp only[] at hr
 case hour=>cases hr
 case drop=>cases hr
 case cut=>
  split at hr
  .cases hr
  .split at hr
   .cases hr
   .rename_i h1 h2
    simp only[Except.ok.injEq,Prod.mk.injEq] at hr
    obtain⟨hr,-⟩:=hr
    subst hr
    refine⟨h.hour,by show(b.cuts++_).length<=6;rw[qD];simp only[List.length_singleton];omega,fun c hc=>?_,h.nr,h.rn,h.rw_,h.nm,fun x hx=>?_,h.ft,h.lk,h.ln,h.op,h.cl,h.ct⟩
    .rcases List.mem_append.1 hc with hc|hc
     .exact h.ck c hc
     .rw[List.mem_singleton.1 hc];simpa using h2
    .have:=h.md x hx
     show _/\x.cut<((b.cuts++_).length:Nat)/\_
     rw[qD];simp only[List.length_singleton];omega
 case join=>
  split at hr
  .cases hr
  .split at hr
   .cases hr
   .split at hr
    .cases hr
    .split at hr
     .cases hr
     .rename_i h1 h2 h3 h4
      simp only[Except.ok.injEq,Prod.mk.injEq] at hr
      obtain⟨hr,-⟩:=hr
      subst hr
      refine⟨h.hour,by show(b.cuts.set _ _).length<=6;rw[List.length_set];exact h.nc,fun c hc=>?_,h.nr,h.rn,h.rw_,h.nm,fun x hx=>?_,h.ft,h.lk,h.ln,h.op,h.cl,h.ct⟩
      .rcases List.mem_or_eq_of_mem_set hc with hc|hc
       .exact h.ck c hc
       .rw[hc];simpa using h4
      .have:=h.md x hx
       show _/\x.cut<((b.cuts.set _ _).length:Nat)/\_
       rw[List.length_set];exact this
 case lines=>
  split at hr
  .cases hr
  .split at hr
   .cases hr
   .simp only[Except.ok.injEq,Prod.mk.injEq] at hr
    obtain⟨hr,-⟩:=hr
    subst hr
    exact h
 case make=>
  split at hr
  .cases hr
  .split at hr
   .cases hr
   .split at hr
    .cases hr
    .split at hr
     .cases hr
     .rename_i h1 h2 h3 _ far hf
      split at hr
      .cases hr
      .rename_i h4
       simp only[Except.ok.injEq,Prod.mk.injEq] at hr
       obtain⟨hr,-⟩:=hr
       subst hr
       obtain⟨-,hs⟩:=ze7 _ _ _ _ _ _ hf
       have hk:1<=n.getD 1 0/\n.getD 1 0<=1000:=by simpa using h3
       have ha:=aa 0
       have ab:∀(i:Nat) (r:Int),(b.ran.map (·+n.getD 1 0))[i]?=some r->(0<=r/\r<=7000)/\Ru.worstS (Ru.bladeAt d i) r<=d.bound:=fun i r hi=>by
        rw[List.getElem?_map] at hi
        obtain⟨r0,af,e⟩:=Option.map_eq_some_iff.1 hi
        subst e
        obtain⟨g1,g2⟩:=hs i r0 af
        obtain⟨-,-,g3,g4⟩:=zmy g1
        rw[g4] at g2
        simp only[Nat.zero_add,Int.toNat_natCast] at g2
        exact⟨g3,by omega⟩
       refine⟨h.hour,h.nc,h.ck,by show(b.ran.map _).length=_;rw[List.length_map];exact h.nr,fun r hr=>?_,fun i r hi _=>⟨(ab i r hi).2,by simp⟩,by show(b.made++_).length<=12;rw[qD];simp only[List.length_singleton];omega,fun x hx=>?_,h.ft,h.lk,h.ln,h.op,h.cl,h.ct⟩
       .obtain⟨i,hi⟩:=List.getElem?_of_mem hr
        exact(ab i r hi).1
       .rcases List.mem_append.1 hx with hx|hx
        .exact h.md x hx
        .rw[List.mem_singleton.1 hx]
         exact⟨ha,by show n.getD 0 0<(b.cuts.length:Int);omega,hk⟩
 case bend=>
  split at hr
  .cases hr
  .rename_i h1
   simp only[Except.ok.injEq,Prod.mk.injEq] at hr
   obtain⟨hr,-⟩:=hr
   subst hr
   refine⟨h.hour,h.nc,h.ck,by show(b.ran.set _ _).length=_;rw[List.length_set];exact h.nr,fun r hr=>?_,fun i r hi hp=>?_,h.nm,h.md,h.ft,h.lk,h.ln,h.op,h.cl,by have:=h.ct;show 0<=b.cost+(d.stop+d.bend);omega⟩
   .rcases List.mem_or_eq_of_mem_set hr with hr|hr
    .exact h.rn r hr
    .rw[hr];omega
   .have hi:(b.ran.set (n.getD 0 0).toNat 0)[i]?=some r:=hi
    by_cases e:i=(n.getD 0 0).toNat
    .subst e
     rw[List.getElem?_set_self (by have:=aa 0;omega)] at hi
     injection hi with hi
     omega
    .rw[List.getElem?_set_ne (fun e'=>e e'.symm)] at hi
     exact h.rw_ i r hi hp
 case off=>
  split at hr
  .cases hr
  .split at hr
   .cases hr
   .simp only[Except.ok.injEq,Prod.mk.injEq] at hr
    obtain⟨hr,-⟩:=hr
    subst hr
    exact h
 case lend=>
  split at hr
  .cases hr
  .split at hr
   .cases hr
   .split at hr
    .cases hr
    .rename_i h1 h2 h3
     simp only[Except.ok.injEq,Prod.mk.injEq] at hr
     obtain⟨hr,-⟩:=hr
     subst hr
     have ag:b.opn=false:=by simpa using h2
     have ae:=h.cl ag
     refine⟨h.hour,h.nc,h.ck,h.nr,h.rn,h.rw_,h.nm,h.md,Le.zoe h.ft ⟨aa 0,by omega⟩ (by omega) h.hour ae h.lk,h.lk,fun x hx=>?_,fun _=>⟨_,_,rfl,rfl,ae⟩,(fun e=>by cases e),h.ct⟩
     rcases List.mem_append.1 hx with hx|hx
     .exact h.ln x hx
     .rw[List.mem_singleton.1 hx];exact⟨Int.le_refl _,.inr rfl⟩
 case back=>
  split at hr
  .cases hr
  .split at hr
   .cases hr
   .split at hr
    .cases hr
    .rename_i h1 h2 h3
     simp only[Except.ok.injEq,Prod.mk.injEq] at hr
     obtain⟨hr,-⟩:=hr
     subst hr
     obtain⟨l,x,e1,e2,e3⟩:=h.op (by simpa using h1)
     have hx:b.t.loans.getD (b.t.loans.length-1) ⟨0,0,0⟩=x:=by rw[e1];simp
     have hl:b.t.loans.set (b.t.loans.length-1) ⟨x.p,x.a,b.hour⟩=l++[⟨x.p,x.a,b.hour⟩]:=by rw[e1];exact znK _ _ _
     have ac:∀ y∈b.t.loans.set (b.t.loans.length-1) ⟨x.p,x.a,b.hour⟩,y.b<=b.hour:=fun y hy=>by
      rw[hl] at hy
      rcases List.mem_append.1 hy with hy|hy
      .exact e3 y hy
      .rw[List.mem_singleton.1 hy];exact Int.le_refl _
     rw[hx] at h2 h3 ⊢
     refine⟨h.hour,h.nc,h.ck,h.nr,h.rn,h.rw_,h.nm,h.md,zgq h3,h.lk,fun y hy=>⟨?_,.inl (ac y hy)⟩,(fun e=>by cases e),fun _=>ac,h.ct⟩
     have hy:y∈b.t.loans.set (b.t.loans.length-1) ⟨x.p,x.a,b.hour⟩:=hy
     rw[hl] at hy
     rcases List.mem_append.1 hy with hy|hy
     .exact(h.ln y (by rw[e1];exact List.mem_append_left _ hy)).1
     .rw[List.mem_singleton.1 hy];show x.a<=b.hour;omega
 case seen=>
  split at hr
  .cases hr
  .split at hr
   .cases hr
   .rename_i h1 h2
    simp only[Except.ok.injEq,Prod.mk.injEq] at hr
    obtain⟨hr,-⟩:=hr
    subst hr
    refine⟨h.hour,h.nc,h.ck,h.nr,h.rn,h.rw_,h.nm,h.md,zgq h2,fun x hx=>?_,h.ln,h.op,h.cl,h.ct⟩
    rcases List.mem_append.1 hx with hx|hx
    .exact h.lk x hx
    .rw[List.mem_singleton.1 hx];exact Int.le_refl _
 case admit=>
  split at hr
  .cases hr
  .split at hr
   .cases hr
   .split at hr
    .cases hr
    .rename_i h1 h2 h3
     simp only[Except.ok.injEq,Prod.mk.injEq] at hr
     obtain⟨hr,-⟩:=hr
     subst hr
     exact⟨h.hour,h.nc,h.ck,h.nr,h.rn,h.rw_,h.nm,h.md,zgq h3,h.lk,h.ln,h.op,h.cl,h.ct⟩
 case who=>
  split at hr
  .cases hr
  .simp only[Except.ok.injEq,Prod.mk.injEq] at hr
   obtain⟨hr,-⟩:=hr
   subst hr
   exact h
 case lost=>
  split at hr
  .cases hr
  .simp only[Except.ok.injEq,Prod.mk.injEq] at hr
   obtain⟨hr,-⟩:=hr
   subst hr
   exact h
theorem zez{d:Ru.Die}(hd:Ru.dieS d=true){b:Bk}{v:Vb}{n:List Int}{x:Bk×Tx}(h:doV d b v n=.ok x):x.1.cost<=b.cost+20000:=by
 have aa:d.stop<=10000/\d.bend<=10000:=by
  unfold Ru.dieS Ru.inS at hd
  simp only[Bool.and_eq_true,qC] at hd
  omega
 cases v <;> unfold doV at h <;> simp only[] at h <;> (repeat' split at h) <;> first|(cases h;done)|(injection h with h;subst h;show b.cost<=_;omega)|(injection h with h;subst h;show b.cost+(d.stop+d.bend)<=_;omega)
structure EnOk(e:En):Prop where
 cl:e.v.clock=false
 mn:zbF e.v e.n=true
 bd:∀ x∈e.n,0<=x/\x<10000000000000
theorem zfo{d:Ru.Die}(hd:Ru.dieS d=true){h:Int}(hh:h<=1048575):∀(l:List Pn) (b:Bk) (m k:Int),BOk d b->b.hour<=h->l.Pairwise (fun p q=>p.hour<=q.hour)->(∀ p∈l,b.hour<=p.hour/\EnOk p.e)->
  BOk d (runP d h l b m k).1/\(runP d h l b m k).1.hour<=h/\∃ pre,l=pre++(runP d h l b m k).2.1/\(∀ p∈(runP d h l b m k).2.1,h<p.hour)/\(runP d h l b m k).2.2.1=m+pre.length/\k<=(runP d h l b m k).2.2.2/\(runP d h l b m k).2.2.2<=k+pre.length/\(runP d h l b m k).1.cost<=b.cost+20000*pre.length
|[],b,m,k,hb,hle,_,_=>⟨hb,hle,[],rfl,(fun p hp=>by cases hp),by show m=m+(0:Nat);omega,Int.le_refl _,by show k<=k+(0:Nat);omega,by show b.cost<=b.cost+20000*(0:Nat);omega⟩
|p :: l,b,m,k,hb,hle,hs,ha=>by
  obtain⟨aa,ab⟩:=List.pairwise_cons.1 hs
  obtain⟨ae,af⟩:=ha p (qE ..)
  unfold runP
  by_cases h1:p.hour<=h
  .rw[if_pos h1]
   have ac:=hb.later ae (by omega)
   cases e:doV d { b with hour:=p.hour } p.e.v p.e.n with
  |error x=>
    dsimp only
    obtain⟨g1,g2,pre,g3,g4,g5,g6,g7,g8⟩:=zfo hd hh l { b with hour:=p.hour } (m+1) (k+1) ac h1 ab (fun q hq=>⟨aa q hq,(ha q (List.mem_cons_of_mem _ hq)).2⟩)
    exact⟨g1,g2,p :: pre,by rw[List.cons_append,<- g3],g4,by rw[g5,List.length_cons];omega,by omega,by rw[List.length_cons];omega,by rw[List.length_cons];have:({ b with hour:=p.hour }:Bk).cost=b.cost:=rfl;omega⟩
  |ok x=>
    dsimp only
    have hx:=zey e
    have hc:=zez hd e
    have ag:=zj8 hd (b':=x.1) (t:=x.2) ac (fun y hy=>(af.bd y hy).1) e
    obtain⟨g1,g2,pre,g3,g4,g5,g6,g7,g8⟩:=zfo hd hh l x.1 (m+1) k ag (by rw[hx];exact h1) ab (fun q hq=>⟨by rw[hx];exact aa q hq,(ha q (List.mem_cons_of_mem _ hq)).2⟩)
    have ah:({ b with hour:=p.hour }:Bk).cost=b.cost:=rfl
    exact⟨g1,g2,p :: pre,by rw[List.cons_append,<- g3],g4,by rw[g5,List.length_cons];omega,by omega,by rw[List.length_cons];omega,by rw[List.length_cons];omega⟩
  .rw[if_neg h1]
   refine⟨hb,hle,[],rfl,fun q hq=>?_,by show m=m+(0:Nat);omega,Int.le_refl _,by show k<=k+(0:Nat);omega,by show b.cost<=b.cost+20000*(0:Nat);omega⟩
   rcases List.mem_cons.1 hq with rfl|hq
   .omega
   .have:=aa q hq;omega
structure SOk(d:Ru.Die)(s:St)(N:Nat):Prop where
 b:BOk d s.b
 pl:PlOk s.plans s.planned
 n8:s.plans.length<=8
 pe:∀ p∈s.plans,s.b.hour<p.hour/\p.hour<=1048575/\EnOk p.e
 pn:0<=s.planned/\s.planned<=N
 cs:s.b.cost<=200000*N
theorem SOk.more{d:Ru.Die}{s:St}{N M:Nat}(h:SOk d s N)(hm:N<=M):SOk d s M:=⟨h.b,h.pl,h.n8,h.pe,by have:=h.pn;omega,by have:=h.cs;omega⟩
theorem zdQ{q:List Pn}(h:znv q):q.Pairwise (fun a b=>a.hour<=b.hour):=by
 refine List.Pairwise.imp (fun {a b} aa=>?_) h
 unfold Pn.lt at aa
 split at aa
 .rw[qC] at aa;omega
 .rename_i ab;simp only[ne_eq,Decidable.not_not] at ab;omega
def zpv:Cmd->Prop
|.do_ e=>zbF e.v e.n=true/\∀ x∈e.n,0<=x/\x<10000000000000
|.at_ n e=>(0<=n/\n<10000000000000)/\EnOk e
theorem zlj{t:Tx}{c:Cmd}(h:cmdS t=some c):zpv c:=by
 unfold cmdS at h
 unfold cmdW at h
 split at h
 .rename_i a hh b r _
  split at h
  .split at h
   .rename_i n e hn he
    split at h
    .cases h
    .rename_i hc
     injection h with h
     subst h
     have:=ze8 he
     exact⟨zj0 hn,by simpa using hc,this.1,this.2⟩
   .cases h
  .cases e:entS (a :: hh :: b :: r) with
  |none=>rw[e] at h;cases h
  |some x=>rw[e] at h;injection h with h;subst h;exact ze8 e
 .split at h
  .cases h
  .cases e:entS (Bo.zas 32 t) with
  |none=>rw[e] at h;cases h
  |some x=>rw[e] at h;injection h with h;subst h;exact ze8 e
theorem zqp{d:Ru.Die}(hd:Ru.dieS d=true){s s':St}{N:Nat}{c:Cmd}{r:Tx}(h:SOk d s N)(hc:zpv c)(hr:cmdV d s c=.ok (s',r)):SOk d s' (N+1):=by
 cases c with
|at_ n e=>
  unfold cmdV at hr
  simp only at hr
  split at hr
  .cases hr
  .split at hr
   .cases hr
   .rename_i h1 h2
    simp only[Except.ok.injEq,Prod.mk.injEq] at hr
    obtain⟨hr,-⟩:=hr
    subst hr
    refine⟨h.b,zmr h.pl h.pn.1 n e,by show(putP _ _).length<=8;rw[(zbV _ _).length_eq,List.length_cons];omega,fun p hp=>?_,by have:=h.pn;show 0<=s.planned+1/\s.planned+1<=((N+1:Nat):Int);omega,by have:=h.cs;show s.b.cost<=_;omega⟩
    rcases List.mem_cons.1 ((zbV _ _).mem_iff.1 hp) with hp|hp
    .rw[hp];exact⟨by show s.b.hour<n;omega,by show n<=1048575;omega,hc.2⟩
    .exact h.pe p hp
|do_ e=>
  unfold cmdV at hr
  simp only at hr
  by_cases e1:e.v=.hour
  .rw[if_pos e1] at hr
   split at hr
   .cases hr
   .rename_i h1
    simp only[Except.ok.injEq,Prod.mk.injEq] at hr
    obtain⟨hr,-⟩:=hr
    subst hr
    have h1:s.b.hour<=e.n.getD 0 0/\e.n.getD 0 0<=1048575:=by omega
    obtain⟨g1,g2,pre,g3,g4,g5,g6,g7,g8⟩:=zfo hd h1.2 s.plans s.b 0 0 h.b h1.1 (zdQ h.pl.so) (fun p hp=>by have:=h.pe p hp;exact⟨by omega,this.2.2⟩)
    have aa:(runP d (e.n.getD 0 0) s.plans s.b 0 0).2.1.Sublist s.plans:=by
     have h9:=List.sublist_append_right pre (runP d (e.n.getD 0 0) s.plans s.b 0 0).2.1
     rw[<- g3] at h9
     exact h9
    have h8:=h.n8
    have ab:pre.length<=8:=by rw[g3,qD] at h8;omega
    refine⟨g1.later g2 h1.2,h.pl.sub aa,Nat.le_trans aa.length_le h.n8,fun p hp=>?_,by have:=h.pn;show 0<=s.planned/\s.planned<=((N+1:Nat):Int);omega,?_⟩
    .have:=h.pe p (aa.subset hp)
     exact⟨g4 p hp,this.2⟩
    .have:=h.cs
     show(runP d (e.n.getD 0 0) s.plans s.b 0 0).1.cost<=_
     omega
  .rw[if_neg e1] at hr
   by_cases e2:e.v=.drop
   .rw[if_pos e2] at hr
    split at hr
    .cases hr
    .simp only[Except.ok.injEq,Prod.mk.injEq] at hr
     obtain⟨hr,-⟩:=hr
     subst hr
     have aa:=List.eraseIdx_sublist s.plans (zbx s.plans)
     exact⟨h.b,h.pl.sub aa,Nat.le_trans aa.length_le h.n8,fun p hp=>h.pe p (aa.subset hp),by have:=h.pn;show 0<=s.planned/\s.planned<=((N+1:Nat):Int);omega,by have:=h.cs;show s.b.cost<=_;omega⟩
   .rw[if_neg e2] at hr
    cases e3:doV d s.b e.v e.n with
   |error x=>rw[e3] at hr;cases hr
   |ok x=>
     rw[e3] at hr
     simp only[Except.ok.injEq,Prod.mk.injEq] at hr
     obtain⟨hr,-⟩:=hr
     subst hr
     have hx:=zey e3
     have ac:=zez hd e3
     exact⟨zj8 hd (b':=x.1) (t:=x.2) h.b (fun y hy=>(hc.2 y hy).1) e3,h.pl,h.n8,fun p hp=>by have:=h.pe p hp;exact⟨by show x.1.hour<_;rw[hx];exact this.1,this.2⟩,by have:=h.pn;show 0<=s.planned/\s.planned<=((N+1:Nat):Int);omega,by have:=h.cs;show x.1.cost<=_;omega⟩
theorem zjE{d:Ru.Die}(hd:Ru.dieS d=true){s:St}{N:Nat}(h:SOk d s N)(t:Tx):SOk d (lineS d s t).1 (N+1):=by
 unfold lineS
 cases e:zbZ d s t with
|error x=>exact h.more (by omega)
|ok x=>
  unfold zbZ at e
  split at e
  .cases e
  .cases e2:cmdS t with
  |none=>rw[e2] at e;cases e
  |some c=>
    rw[e2] at e
    exact zqp hd (s':=x.1) (r:=x.2) h (zlj e2) e
theorem zp2{d:Ru.Die}{pieces persons:Int}{s:St}(h:newS d pieces persons=some s):Ru.dieS d=true/\SOk d s 0:=by
 unfold newS at h
 split at h
 .rename_i hc
  obtain⟨hd,h1,h2⟩:=hc
  injection h with h
  subst h
  refine⟨hd,⟨⟨⟨Int.le_refl _,by show(0:Int)<=1048575;decide⟩,by simp,(fun c hc=>by cases hc),by simp,fun r hr=>?_,fun i r hi hp=>?_,by simp,(fun x hx=>by cases hx),?_,(fun x hx=>by cases hx),(fun x hx=>by cases hx),(fun e=>by cases e),(fun _ x hx=>by cases hx),Int.le_refl _⟩,.nil,by simp,(fun p hp=>by cases hp),by simp,by simp⟩⟩
  .rw[(List.mem_replicate.1 hr).2];omega
  .have:=(List.mem_replicate.1 (List.mem_of_getElem? hi)).2;omega
  .exact Le.zn0 h1 h2
 .cases h
end
namespace Cu
structure OkC(c:Cut):Prop where
 w:1<=c.wide/\c.wide<=12
 h:1<=c.high/\c.high<=12
 len:(c.piece.length:Int)=c.wide*c.high
 pc:∀ x∈c.piece,0<=x/\x<=39
theorem zck(c:Cut):cutS c=true↔OkC c:=by
 unfold cutS inS
 simp only[Bool.and_eq_true,qC,List.all_eq_true]
 exact⟨fun⟨h1,h2,h3,h4⟩=>⟨h1,h2,h3,h4⟩,fun h=>⟨h.w,h.h,h.len,h.pc⟩⟩
def colI(c:Cut)(i:Nat):Int:=(i:Int) % c.wide
def rowI(c:Cut)(i:Nat):Int:=(i:Int) / c.wide
def atI(c:Cut)(i:Nat):Int:=c.piece.getD i 0
theorem OkC.idx{c:Cut}(ok:OkC c){x y:Int}(h:isIn c x y=true):0<=y*c.wide+x/\y*c.wide+x<c.piece.length/\(y*c.wide+x) % c.wide=x/\(y*c.wide+x) / c.wide=y:=by
 unfold isIn inS at h
 simp only[Bool.and_eq_true,qC] at h
 obtain⟨⟨h1,h2⟩,h3,h4⟩:=h
 have hw:=ok.w
 have hm:0<=y*c.wide:=Int.mul_nonneg h3 (by omega)
 have aa:y*c.wide<=(c.high-1)*c.wide:=Int.mul_le_mul_of_nonneg_right h4 (by omega)
 have ab:(c.high-1)*c.wide=c.wide*c.high-c.wide:=by rw[Int.sub_mul,Int.one_mul,Int.mul_comm]
 have hl:=ok.len
 refine⟨by omega,by omega,?_,?_⟩
 .rw[Int.add_comm,Int.add_mul_emod_self_right]
  exact Int.emod_eq_of_lt h1 (by omega)
 .rw[Int.add_comm,Int.add_mul_ediv_right _ _ (by omega),Int.ediv_eq_zero_of_lt h1 (by omega),Int.zero_add]
theorem OkC.cell{c:Cut}(ok:OkC c){i:Nat}(hi:i<c.piece.length):isIn c (colI c i) (rowI c i)=true/\(rowI c i*c.wide+colI c i)=(i:Int)/\0<=colI c i/\colI c i<c.wide/\0<=rowI c i/\rowI c i<c.high:=by
 have hw:=ok.w
 have h1:=Int.emod_nonneg (i:Int) (b:=c.wide) (by omega)
 have h2:=Int.emod_lt_of_pos (i:Int) (b:=c.wide) (by omega)
 have h3:0<=(i:Int) / c.wide:=Int.ediv_nonneg (by omega) (by omega)
 have h4:(i:Int) / c.wide<c.high:=by
  rw[Int.ediv_lt_iff_lt_mul (by omega),Int.mul_comm]
  have:=ok.len
  omega
 have h5:=Int.ediv_mul_add_emod (i:Int) c.wide
 refine⟨?_,h5,h1,h2,h3,h4⟩
 unfold isIn inS colI rowI
 simp only[Bool.and_eq_true,qC]
 omega
theorem OkC.at_cell{c:Cut}(ok:OkC c){i:Nat}(hi:i<c.piece.length):at2 c (colI c i) (rowI c i)=atI c i:=by
 obtain⟨h1,h2,-⟩:=ok.cell hi
 unfold at2 atI
 rw[if_pos h1,h2]
 rfl
theorem OkC.at_bd{c:Cut}(ok:OkC c)(x y:Int):-1<=at2 c x y/\at2 c x y<=39/\(isIn c x y=true->0<=at2 c x y):=by
 unfold at2
 by_cases h:isIn c x y=true
 .rw[if_pos h]
  have h1:=ok.idx h
  have hm:c.piece.getD (y*c.wide+x).toNat 0∈c.piece:=by
   rw[qP,qN (by omega)]
   exact List.getElem_mem _
  have:=ok.pc _ hm
  exact⟨by omega,this.2,fun _=>this.1⟩
 .rw[if_neg h]
  exact⟨by omega,by omega,fun h'=>absurd h' h⟩
theorem zkH{x y x' y':Int}(h:(x',y')∈za0 x y):(x,y)∈za0 x' y':=by
 unfold za0 at *
 simp only[List.mem_cons,Prod.mk.injEq,List.not_mem_nil,or_false] at *
 omega
theorem Reach.trans{c:Cut}{p q r:Int×Int}(h:Reach c p q)(h':Reach c q r):Reach c p r:=by
 induction h' with
|refl=>exact h
|step _ h2 h3 ih=>exact .step ih h2 h3
theorem Reach.at_eq{c:Cut}{p q:Int×Int}(h:Reach c p q):at2 c q.1 q.2=at2 c p.1 p.2:=by
 induction h with
|refl=>rfl
|step _ _ h3 ih=>rw[h3,ih]
theorem Reach.one{c:Cut}{p q:Int×Int}(h:q∈za0 p.1 p.2)(e:at2 c q.1 q.2=at2 c p.1 p.2):Reach c p q:=.step (.refl p) h e
theorem Reach.symm{c:Cut}{p q:Int×Int}(h:Reach c p q):Reach c q p:=by
 induction h with
|refl=>exact .refl _
|step _ h2 h3 ih=>exact(Reach.one (zkH h2) h3.symm).trans ih
abbrev Pt:=Int×Int
def pcOf(c:Cut)(p:Pt):Int:=at2 c p.1 p.2
def inG(c:Cut)(p:Pt):Prop:=isIn c p.1 p.2=true
theorem zfw{c:Cut}(ok:OkC c)(p:Pt):inG c p↔0<=pcOf c p:=by
 constructor
 .exact(ok.at_bd p.1 p.2).2.2
 .intro h
  unfold inG
  cases hi:isIn c p.1 p.2 with
 |true=>rfl
 |false=>
   unfold pcOf at2 at h
   rw[hi] at h
   simp at h
theorem Reach.inG{c:Cut}(ok:OkC c){p q:Pt}(h:Reach c p q)(hp:inG c p):Go.Proofs.YtankkcbofgighaaGreatDoor.Cu.inG c q:=by
 rw[zfw ok] at hp ⊢
 rw[show pcOf c q=pcOf c p from h.at_eq];exact hp
def Closed(c:Cut)(R:Pt->Prop):Prop:=∀ p q,R p->q∈za0 p.1 p.2->pcOf c q=pcOf c p->R q
theorem Closed.reach{c:Cut}{R:Pt->Prop}(h:Closed c R){p q:Pt}(hr:Reach c p q)(hp:R p):R q:=by
 induction hr with
|refl=>exact hp
|step _ h2 h3 ih=>exact h _ _ ih h2 h3
structure Dfs(c:Cut)(p:Pt)(R R':Pt->Prop):Prop where
 old:∀ q,R q->R' q
 own:R' p
 new:∀ q,R' q->R q\/Reach c p q
 done:∀ q,R' q->¬ R q->∀ n,n∈za0 q.1 q.2->pcOf c n=pcOf c q->R' n
theorem Dfs.closed{c:Cut}{p:Pt}{R R':Pt->Prop}(h:Dfs c p R R')(hc:Closed c R):Closed c R':=by
 intro q n hq hn he
 by_cases hr:R q
 .exact h.old _ (hc q n hr hn he)
 .exact h.done q hq hr n hn he
structure DfsIn(c:Cut)(p:Pt)(R R':Pt->Prop)(l:List Pt):Prop where
 old:∀ q,R q->R' q
 own:R' p
 new:∀ q,R' q->R q\/Reach c p q
 done:∀ q,R' q->¬ R q->q≠p->∀ n,n∈za0 q.1 q.2->pcOf c n=pcOf c q->R' n
 here:∀ n,n∈l->pcOf c n=pcOf c p->R' n
theorem DfsIn.start{c:Cut}{p:Pt}{R:Pt->Prop}:DfsIn c p R (fun q=>R q\/q=p) []:=
 ⟨fun _ h=>.inl h,.inr rfl,fun q h=>h.imp id (fun e=>by subst e;exact .refl _),fun q h h1 h2=>absurd (h.resolve_left h1) h2,fun n h=>by simp at h⟩
theorem DfsIn.skip{c:Cut}{p n:Pt}{R R':Pt->Prop}{l:List Pt}(h:DfsIn c p R R' l)(hs:R' n\/pcOf c n≠pcOf c p):DfsIn c p R R' (l++[n]):=
 ⟨h.old,h.own,h.new,h.done,fun m hm he=>by
  rcases List.mem_append.1 hm with hm|hm
  .exact h.here m hm he
  .rw[List.mem_singleton] at hm
   subst hm
   exact hs.resolve_right (fun h=>h he)⟩
theorem DfsIn.go{c:Cut}{p n:Pt}{R R' R'':Pt->Prop}{l:List Pt}(h:DfsIn c p R R' l)(hn:n∈za0 p.1 p.2)(he:pcOf c n=pcOf c p)(h2:Dfs c n R' R''):DfsIn c p R R'' (l++[n]):=by
 have hr:Reach c p n:=.one hn he
 refine⟨fun q hq=>h2.old _ (h.old q hq),h2.old _ h.own,fun q hq=>?_,fun q hq ab ac m hm aa=>?_,fun m hm aa=>?_⟩
 .rcases h2.new q hq with h3|h3
  .exact h.new q h3
  .exact .inr (hr.trans h3)
 .by_cases h3:R' q
  .exact h2.old _ (h.done q h3 ab ac m hm aa)
  .exact h2.done q hq h3 m hm aa
 .rcases List.mem_append.1 hm with hm|hm
  .exact h2.old _ (h.here m hm aa)
  .rw[List.mem_singleton] at hm
   subst hm
   exact h2.own
theorem DfsIn.finish{c:Cut}{p:Pt}{R R':Pt->Prop}(h:DfsIn c p R R' (za0 p.1 p.2)):Dfs c p R R':=
 ⟨h.old,h.own,h.new,fun q hq aa n hn he=>by
  by_cases e:q=p
  .subst e
   exact h.here n hn he
  .exact h.done q hq aa e n hn he⟩
structure Starts(c:Cut)(R:Pt->Prop)(ls:List Pt):Prop where
 cl:Closed c R
 gr:∀ p,R p->inG c p
 from_:∀ r,R r->∃ s,s∈ls/\Reach c s r
 ins:∀ s,s∈ls->R s
 apart:ls.Pairwise (fun a b=>¬ Reach c a b)
theorem Starts.nil{c:Cut}:Starts c (fun _=>False) []:=⟨fun _ _ h=>h.elim,fun _ h=>h.elim,fun _ h=>h.elim,fun _ h=>by simp at h,.nil⟩
theorem Starts.next{c:Cut}(ok:OkC c){R R':Pt->Prop}{ls:List Pt}{p:Pt}(h:Starts c R ls)(hp:inG c p)(hn:¬ R p)(hd:Dfs c p R R'):Starts c R' (p :: ls):=by
 refine⟨hd.closed h.cl,fun q hq=>?_,fun r hr=>?_,fun s hs=>?_,.cons (fun s hs hr=>?_) h.apart⟩
 .rcases hd.new q hq with h1|h1
  .exact h.gr q h1
  .exact h1.inG ok hp
 .rcases hd.new r hr with h1|h1
  .obtain⟨s,hs,h2⟩:=h.from_ r h1
   exact⟨s,List.mem_cons_of_mem _ hs,h2⟩
  .exact⟨p,qE ..,h1⟩
 .rcases List.mem_cons.1 hs with rfl|hs
  .exact hd.own
  .exact hd.old _ (h.ins s hs)
 .exact hn (h.cl.reach hr.symm (h.ins s hs))
def zhV(c:Cut)(f:Int->Int):Prop:=∀ k,0<=f k/\(f k=0↔∀ p,inG c p->pcOf c p≠k)/\(1<f k↔¬ Whole c k)
def partsOf(c:Cut)(ls:List Pt)(k:Int):Int:=((ls.countP (fun s=>pcOf c s==k):Nat):Int)
theorem znT{c:Cut}{R:Pt->Prop}{ls:List Pt}(h:Starts c R ls)(ab:∀ p,inG c p->R p):zhV c (partsOf c ls):=by
 intro k
 unfold partsOf
 rw[List.countP_eq_length_filter]
 have aa:∀ s,s∈ls.filter (fun s=>pcOf c s==k)↔s∈ls/\pcOf c s=k:=fun s=>by simp
 have ac:(ls.filter (fun s=>pcOf c s==k)).Pairwise (fun a b=>¬ Reach c a b):=h.apart.filter _
 generalize ls.filter (fun s=>pcOf c s==k)=l at *
 refine⟨by omega,?_,?_⟩
 .constructor
  .intro h0 p hp e
   obtain⟨s,hs,hr⟩:=h.from_ p (ab p hp)
   have:s∈l:=(aa s).2 ⟨hs,by rw[<- show pcOf c p=pcOf c s from hr.at_eq];exact e⟩
   have:=List.length_pos_of_mem this
   omega
  .intro h0
   cases l with
  |nil=>rfl
  |cons s l=>
    obtain⟨h1,h2⟩:=(aa s).1 (qE ..)
    exact absurd h2 (h0 s (h.gr s (h.ins s h1)))
 .constructor
  .intro h1 hw
   match l,h1,ac,aa with
  |a :: b :: l,_,ac,aa=>
    obtain⟨ha,ea⟩:=(aa a).1 (qE ..)
    obtain⟨hb,eb⟩:=(aa b).1 (List.mem_cons_of_mem _ (qE ..))
    rw[List.pairwise_cons] at ac
    exact ac.1 b (qE ..) (hw a b (h.gr a (h.ins a ha)) (h.gr b (h.ins b hb)) ea eb)
  .intro hw
   refine Classical.byContradiction fun hlt=>hw fun p q hp hq ep eq=>?_
   obtain⟨s,hs,hr⟩:=h.from_ p (ab p hp)
   obtain⟨t,ht,ag⟩:=h.from_ q (ab q hq)
   have ae:s∈l:=(aa s).2 ⟨hs,by rw[<- show pcOf c p=pcOf c s from hr.at_eq];exact ep⟩
   have af:t∈l:=(aa t).2 ⟨ht,by rw[<- show pcOf c q=pcOf c t from ag.at_eq];exact eq⟩
   match l,hlt,ae,af with
  |[x],_,ae,af=>
    rw[List.mem_singleton] at ae af
    subst ae af
    exact hr.symm.trans ag
  |_ :: _ :: _,hlt,_,_=>exact absurd (by simp;omega) hlt
theorem za8{f g:Nat->Int}:∀{n:Nat},(∀ k,k<n->f k=g k)->zai f n=zai g n
|0,_=>rfl
|n+1,h=>by unfold zai;rw[za8 fun k hk=>h k (by omega),h n (by omega)]
theorem zcJ{f:Nat->Int}:∀{n:Nat},(∀ k,k<n->f k=0)->zai f n=0
|0,_=>rfl
|n+1,h=>by unfold zai;rw[zcJ fun k hk=>h k (by omega),h n (by omega)];rfl
end Cu
namespace Cu
open Go.RowKit
def Ret(v:Value)(w:World)(e:Ending)(w':World):Prop:=e=.returned v/\Below w.heap.size w w'
def RetQ(v:Value)(w:World)(e:Ending)(w':World):Prop:=e=.returned v/\w=w'
theorem zbM{a b:Bool}{w:World}(h:a=b):RetQ (.bool b) w (.returned (.bool a)) w:=⟨by rw[h],rfl⟩
theorem zaA{a b:Bool}{w w':World}(h:a=b)(hb:Below w.heap.size w w'):Ret (.bool b) w (.returned (.bool a)) w':=⟨by rw[h],hb⟩
def At{α:Type}(w:World)(B size:Nat)(cells:α->List Value)(A:Option Addr)(l:List α):Prop:=
 ∀ k x,l[k]?=some x->∃ b off,A=some ⟨b,off,none⟩/\b<B/\∀ j u,(cells x)[j]?=some u->w.cell? ⟨b,off+k*size+j,none⟩=some u
theorem At.keep{α:Type}{w w':World}{B size:Nat}{cells:α->List Value}{A:Option Addr}{l:List α}(h:At w B size cells A l)
  (hk:∀ b o,b<B->w'.cell? ⟨b,o,none⟩=w.cell? ⟨b,o,none⟩):At w' B size cells A l:=fun k x hx=>by
 obtain⟨b,off,e,hb,hc⟩:=h k x hx
 exact⟨b,off,e,hb,fun j u hu=>(hk b _ hb).trans (hc j u hu)⟩
theorem At.below{α:Type}{w w':World}{B size:Nat}{cells:α->List Value}{A:Option Addr}{l:List α}(h:At w B size cells A l)
  (hb:Below B w w'):At w' B size cells A l:=h.keep fun b o hk=>hb.cell (p:=⟨b,o,none⟩) hk
theorem At.more{α:Type}{w:World}{B B' size:Nat}{cells:α->List Value}{A:Option Addr}{l:List α}(h:At w B size cells A l)
  (hb:B<=B'):At w B' size cells A l:=fun k x hx=>by
 obtain⟨b,off,e,hk,hc⟩:=h k x hx
 exact⟨b,off,e,qM hk hb,hc⟩
theorem zbz{B:Nat}{a w:World}(h:Below B a w)(n:Nat):Below B a (w.drewN n):=⟨h.os,h.tape,h.output,h.size,h.block⟩
theorem zbj{a w:World}(h:Below a.heap.size a w)(row:Option Nat):a.grownBy w row:=⟨h.os,h.tape,h.output,h.size,fun i hi _=>h.block i hi⟩
theorem zbO{α:Type}{l:List α}{p:α->Bool}{k:Nat}(hk:k<l.length)(h:(l.take k).all p=true)(hp:p l[k]=true):(l.take (k+1)).all p=true:=by
 rw[List.take_succ_eq_append_getElem hk];simp only[List.all_append,h,List.all_cons,hp,List.all_nil,Bool.and_self]
theorem zbP{α:Type}{l:List α}{p:α->Bool}{k:Nat}(hk:¬ k<l.length)(h:(l.take k).all p=true):l.all p=true:=by
 rw[List.take_of_length_le (by omega)] at h;exact h
structure IBlk(w:World)(g n:Nat)(f:Nat->Int):Prop where
 lt:g<w.heap.size
 cell:∀ j,j<n->w.cell? ⟨g,j,none⟩=some (.int .i64 (f j))
 free:∀ j,w.frozen? ⟨g,j,none⟩=false
theorem IBlk.below{w w':World}{B g n:Nat}{f:Nat->Int}(h:IBlk w g n f)(hb:Below B w w')(hg:g<B):IBlk w' g n f:=
 ⟨qM h.lt hb.size,fun j hj=>(hb.cell (p:=⟨g,j,none⟩) hg).trans (h.cell j hj),fun j=>(hb.frozen (p:=⟨g,j,none⟩) hg).trans (h.free j)⟩
theorem IBlk.next{w w':World}{g n:Nat}{f:Nat->Int}(h:IBlk w g n f)(hb:Below w.heap.size w w'):IBlk w' g n f:=h.below hb h.lt
theorem IBlk.set_{w:World}{g n:Nat}{f f':Nat->Int}(h:IBlk w g n f){j:Nat}{x:Int}(hj:j<n)(hx:f' j=x)(ho:∀ i,i≠j->f' i=f i):IBlk (w.setCell ⟨g,j,none⟩ (.int .i64 x)) g n f':=by
 refine⟨by simpa [World.setCell] using h.lt,fun i hi=>?_,fun i=>by rw[World.frozen?_setCell];exact h.free i⟩
 by_cases e:i=j
 .subst e
  rw[hx]
  exact World.cell?_setCell_same' _ _ _ (by rw[h.cell i hi];rfl)
 .rw[qA _ _ _ _ (by intro e';injection e' with _ e2;exact e e2.symm),h.cell i hi,ho i e]
def zeros(n:Nat):Array Value:=madeCells #[.int .i64 0] n
theorem IBlk.zeros(w:World)(n:Nat)(t:TypeId):IBlk (w.alloc (.cells (zeros n) t)) w.heap.size n (fun _=>0):=by
 refine⟨by simp,fun j hj=>?_,fun j=>by simp[go_sem]⟩
 have h1:(Go.Proofs.YtankkcbofgighaaGreatDoor.Cu.zeros n).toList=List.replicate n (.int .i64 0):=toList_madeCells_one _ _
 have h2:(Go.Proofs.YtankkcbofgighaaGreatDoor.Cu.zeros n)[j]?=some (.int .i64 0):=by
  rw[<- Array.getElem?_toList,h1,List.getElem?_replicate,if_pos hj]
 rw[<- h2]
 exact cell_of_row _ _ _ _ t (0,0) (heap_alloc_new w _)
def zad(n:Int):List Value:=[.int .i64 n]
structure CutAt(w:World)(B:Nat)(c:Cut):Prop where
 pa:At w B 1 zad c.A c.piece
 l1:c.piece.length<=9223372036854775807
theorem CutAt.below{w w':World}{B:Nat}{c:Cut}(h:CutAt w B c)(hb:Below B w w'):CutAt w' B c:=⟨h.pa.below hb,h.l1⟩
theorem CutAt.more{w:World}{B B':Nat}{c:Cut}(h:CutAt w B c)(hb:B<=B'):CutAt w B' c:=⟨h.pa.more hb,h.l1⟩
theorem CutAt.next{w w':World}{c:Cut}(h:CutAt w w.heap.size c)(hb:Below w.heap.size w w'):CutAt w' w'.heap.size c:=(h.below hb).more hb.size
def cutL(c:Cut):List Value:=[.int .i64 c.wide,.int .i64 c.high,.slice c.A c.piece.length c.c]
theorem nxA(W:World)(o:Obj):Below W.heap.size W (W.alloc o):=(Below.refl _ _).alloc (qQ _) _
end Cu
section
open Go.RowKit
open Le (At Bx setCells zay zba za1 zaE zad zbE)
theorem zaO{α:Type}{cells:α->List Value}{size:Nat}(hs:∀ x,(cells x).length=size):∀(l:List α) (k:Nat) (x:α) (j:Nat) (u:Value),l[k]?=some x->(cells x)[j]?=some u->(l.flatMap cells)[k*size+j]?=some u
|[],k,x,j,u,h,_=>by simp at h
|y :: l,0,x,j,u,h,hu=>by
  rw[List.getElem?_cons_zero] at h
  injection h with h
  subst h
  have hj:=(qO.1 hu).1
  rw[List.flatMap_cons,Nat.zero_mul,Nat.zero_add,List.getElem?_append_left hj]
  exact hu
|y :: l,k+1,x,j,u,h,hu=>by
  rw[List.getElem?_cons_succ] at h
  rw[List.flatMap_cons,List.getElem?_append_right (by rw[hs y,Nat.add_mul];omega),hs y,show(k+1)*size+j-size=k*size+j by rw[Nat.add_mul];omega]
  exact zaO hs l k x j u h hu
theorem zgK{α:Type}{cells:α->List Value}{size:Nat}(hs:∀ x,(cells x).length=size)(h0:0<size){w:World}{base:Nat}{e:TypeId}{v:Value}{l:List α}(h:w.ownsRow base e size v l.length (l.flatMap cells)) :
  ∃ A c,v=.slice A l.length c/\At w w.heap.size size cells A l:=by
 obtain⟨A,c,rfl,hc⟩:=zbE h
 refine⟨A,c,rfl,fun k x hx=>?_⟩
 have ab:0<(cells x).length:=by rw[hs x];exact h0
 have g0:(cells x)[0]?=some ((cells x)[0]'ab):=qN ab
 obtain⟨b,e,-,hb,-⟩:=hc _ _ (zaO hs l k x 0 _ hx g0)
 refine⟨b,0,e,hb,fun j u hu=>?_⟩
 obtain⟨b',e',-,-,aa⟩:=hc _ _ (zaO hs l k x j u hx hu)
 rw[e] at e'
 injection e' with e'
 injection e' with e1
 subst e1
 rw[Nat.zero_add]
 exact aa
structure Keep(O:Nat->Prop)(w w':World):Prop where
 os:w'.os=w.os
 tape:w'.tape=w.tape
 output:w'.output=w.output
 size:w.heap.size<=w'.heap.size
 block:∀ b,b<w.heap.size->¬ O b->w'.heap[b]?=w.heap[b]?
theorem Keep.refl(O:Nat->Prop)(w:World):Keep O w w:=⟨rfl,rfl,rfl,qQ _,fun _ _ _=>rfl⟩
theorem Keep.trans{O O':Nat->Prop}{a b c:World}(h:Keep O a b)(k:Keep O' b c)(hO:∀ g,g<a.heap.size->O' g->O g):Keep O a c:=
 ⟨k.os.trans h.os,k.tape.trans h.tape,k.output.trans h.output,Nat.le_trans h.size k.size,fun i hi hn=>(k.block i (qM hi h.size) (fun ho=>hn (hO i hi ho))).trans (h.block i hi hn)⟩
theorem Keep.of_below{O:Nat->Prop}{w w':World}(h:Below w.heap.size w w'):Keep O w w':=⟨h.os,h.tape,h.output,h.size,fun b hb _=>h.block b hb⟩
theorem Keep.of_grown{O:Nat->Prop}{w w':World}{row:Option Nat}(h:w.grownBy w' row)(hr:∀ g,row=some g->O g):Keep O w w':=
 ⟨h.os,h.tape,h.output,h.size,fun b hb hn=>h.block b hb (fun e=>hn (hr b e.symm))⟩
theorem zaq(w:World)(g j:Nat)(u:Value):w.grownBy (w.setCell ⟨g,j,none⟩ u) (some g):=
 ⟨rfl,rfl,rfl,by rw[World.size_setCell];exact qQ _,fun k _ aa=>Below.heap_setCell _ _ _ k (by intro e;exact aa (by rw[e]))⟩
theorem Keep.set{O:Nat->Prop}(w:World){g:Nat}(hg:O g)(j:Nat)(u:Value):Keep O w (w.setCell ⟨g,j,none⟩ u):=
 .of_grown (zaq w g j u) (fun k e=>by injection e with e;subst e;exact hg)
theorem Keep.cell{O:Nat->Prop}{w w':World}(h:Keep O w w'){b o:Nat}(hb:b<w.heap.size)(hn:¬ O b):w'.cell? ⟨b,o,none⟩=w.cell? ⟨b,o,none⟩:=World.cell?_of_block (h.block b hb hn)
theorem Keep.frozen{O:Nat->Prop}{w w':World}(h:Keep O w w'){b o:Nat}(hb:b<w.heap.size)(hn:¬ O b):w'.frozen? ⟨b,o,none⟩=w.frozen? ⟨b,o,none⟩:=World.frozen?_of_block (h.block b hb hn)
theorem Keep.bx{O:Nat->Prop}{w w':World}(h:Keep O w w'){b:Nat}{vs:List Value}(hx:Bx w b vs)(hn:¬ O b):Bx w' b vs:=
 ⟨qM hx.lt h.size,fun j u hu=>(h.cell hx.lt hn).trans (hx.c j u hu),fun j=>(h.frozen hx.lt hn).trans (hx.fr j)⟩
def AtO{α:Type}(O:Nat->Prop)(w:World)(size:Nat)(cells:α->List Value)(A:Option Addr)(l:List α):Prop:=
 ∀ k x,l[k]?=some x->∃ b off,A=some ⟨b,off,none⟩/\b<w.heap.size/\¬ O b/\∀ j u,(cells x)[j]?=some u->w.cell? ⟨b,off+k*size+j,none⟩=some u
theorem AtO.at_{α:Type}{O:Nat->Prop}{w:World}{size:Nat}{cells:α->List Value}{A:Option Addr}{l:List α}(h:AtO O w size cells A l):At w w.heap.size size cells A l:=fun k x hx=>by
 obtain⟨b,off,e,hb,-,hc⟩:=h k x hx
 exact⟨b,off,e,hb,hc⟩
theorem AtO.keep{α:Type}{O O' P:Nat->Prop}{w w':World}{size:Nat}{cells:α->List Value}{A:Option Addr}{l:List α}(h:AtO O w size cells A l)(k:Keep P w w')(hP:∀ b,b<w.heap.size->P b->O b)(hO:∀ b,b<w.heap.size->O' b->O b):AtO O' w' size cells A l:=fun i x hx=>by
 obtain⟨b,off,e,hb,hn,hc⟩:=h i x hx
 exact⟨b,off,e,qM hb k.size,fun ho=>hn (hO b hb ho),fun j u hu=>(k.cell hb (fun ho=>hn (hP b hb ho))).trans (hc j u hu)⟩
theorem AtO.new{α:Type}{O:Nat->Prop}{w w':World}{size:Nat}{cells:α->List Value}{A:Option Addr}{l:List α}(h:At w' w'.heap.size size cells A l)(aa:∀ a,A=some a->w.heap.size<=a.block)(hO:∀ b,O b->b<w.heap.size):AtO O w' size cells A l:=fun k x hx=>by
 obtain⟨b,off,e,hb,hc⟩:=h k x hx
 exact⟨b,off,e,hb,fun ho=>by have:=hO b ho;have:=aa _ e;simp only at this;omega,hc⟩
structure Rw where
 e:TypeId
 size:Nat
 v:Value
 n:Nat
 xs:List Value
def blk:Value->Option Nat
|.slice (some a) _ (_+1)=>some a.block
|_=>none
def Rw.ok(r:Rw)(w:World):Prop:=r.xs.length=r.n*r.size/\
 ((∃ A,r.v=.slice A 0 0/\r.n=0)\/∃ g cap cur,r.v=.slice (some ⟨g,0,none⟩) r.n (cap+1)/\w.heap[g]?=some (.cells cur r.e (0,0))/\r.n<=cap+1/\cap+1<=maxLen/\cur.size=(cap+1)*r.size/\cur.toList.take (r.n*r.size)=r.xs)
theorem Rw.ok.of_own{w:World}{base:Nat}{e:TypeId}{size:Nat}{v:Value}{n:Nat}{xs:List Value}(h:w.ownsRow base e size v n xs):Rw.ok ⟨e,size,v,n,xs⟩ w:=by
 refine⟨h.1,?_⟩
 rcases h.2 with ⟨e1,e2⟩|⟨g,cap,cur,e1,hb,hg,hn,hc,hs,ht⟩
 .exact .inl ⟨none,e1,e2⟩
 .cases cap with
 |zero=>exact .inl ⟨_,by show v=_;rw[e1,show n=0 by omega],by show n=0;omega⟩
 |succ cap=>exact .inr ⟨g,cap,cur,e1,hg,hn,hc,hs,ht⟩
theorem zfD{w:World}{base:Nat}{e:TypeId}{size:Nat}{v:Value}{n:Nat}{xs:List Value}(h:w.ownsRow base e size v n xs){g:Nat}(hg:blk v=some g):v.ownBlock=some g/\base<=g:=by
 rcases h.2 with ⟨e1,e2⟩|⟨g',cap,cur,e1,hb,-⟩
 .rw[e1] at hg;cases hg
 .cases cap with
 |zero=>rw[e1] at hg;cases hg
 |succ cap=>
   rw[e1] at hg ⊢
   injection hg with hg
   subst hg
   exact⟨rfl,hb⟩
theorem Rw.ok.own{r:Rw}{w:World}(h:r.ok w):(∃ A,r.v=.slice A 0 0/\r.n=0/\r.xs=[])\/(w.ownsRow 0 r.e r.size r.v r.n r.xs/\r.v.ownBlock=blk r.v):=by
 obtain⟨hl,⟨A,e1,e2⟩|⟨g,cap,cur,e1,hg,hn,hc,hs,ht⟩⟩:=h
 .refine .inl ⟨A,e1,e2,?_⟩
  rw[e2,Nat.zero_mul] at hl
  exact List.length_eq_zero_iff.1 hl
 .exact .inr ⟨⟨hl,.inr ⟨g,cap+1,cur,e1,Nat.zero_le _,hg,hn,hc,hs,ht⟩⟩,by rw[e1];rfl⟩
theorem Rw.ok.lt{r:Rw}{w:World}(h:r.ok w){g:Nat}(e:blk r.v=some g):g<w.heap.size:=by
 rcases h.2 with ⟨A,e1,-⟩|⟨g',cap,cur,e1,hg,-⟩
 .rw[e1] at e;cases A <;> cases e
 .rw[e1] at e
  injection e with e
  subst e
  exact(qB.1 hg).1
structure Own(w:World)(f:Nat)(R:Nat->Rw):Prop where
 row:∀ k,k<7->(R k).ok w
 ap:∀ j k,j<7->k<7->j≠k->∀ g,blk (R j).v=some g->blk (R k).v≠some g
 far:∀ k,k<7->blk (R k).v≠some f
 lt:f<w.heap.size
def zao(f:Nat)(R:Nat->Rw)(b:Nat):Prop:=b=f\/∃ k,k<7/\blk (R k).v=some b
def upR(R:Nat->Rw)(k:Nat)(r:Rw):Nat->Rw:=fun j=>if j=k then r else R j
theorem zaU(R:Nat->Rw)(k:Nat)(r:Rw):upR R k r k=r:=if_pos rfl
theorem zaY(R:Nat->Rw){k j:Nat}(r:Rw)(h:j≠k):upR R k r j=R j:=if_neg h
theorem Own.is_lt{w:World}{f:Nat}{R:Nat->Rw}(h:Own w f R):∀ b,zao f R b->b<w.heap.size:=by
 rintro b (rfl|⟨k,hk,e⟩)
 .exact h.lt
 .exact(h.row k hk).lt e
theorem Rw.ok.keep{r:Rw}{w w':World}{O:Nat->Prop}(h:r.ok w)(k:Keep O w w')(hn:∀ g,blk r.v=some g->¬ O g):r.ok w':=by
 refine⟨h.1,?_⟩
 rcases h.2 with e|⟨g,cap,cur,e,hg,rest⟩
 .exact .inl e
 .refine .inr ⟨g,cap,cur,e,?_,rest⟩
  rw[k.block g (qB.1 hg).1 (hn g (by rw[e];rfl))]
  exact hg
theorem Rw.ok.grown{r:Rw}{w w':World}{row:Option Nat}(h:r.ok w)(k:w.grownBy w' row)(hn:∀ g,blk r.v=some g->row≠some g):r.ok w':=
 h.keep (.of_grown (O:=fun g=>row=some g) k (fun _ e=>e)) hn
theorem Own.keep{w w':World}{f:Nat}{R:Nat->Rw}{O:Nat->Prop}(h:Own w f R)(k:Keep O w w')(hn:∀ g,zao f R g->¬ O g):Own w' f R:=
 ⟨fun i hi=>Rw.ok.keep (h.row i hi) k (fun g e=>hn g (.inr ⟨i,hi,e⟩)),h.ap,h.far,qM h.lt k.size⟩
theorem Own.below{w w':World}{f:Nat}{R:Nat->Rw}(h:Own w f R)(k:Below w.heap.size w w'):Own w' f R:=
 h.keep (.of_below (O:=fun _=>False) k) (fun _ _ x=>x)
theorem Own.up{w w':World}{f:Nat}{R:Nat->Rw}(h:Own w f R){k:Nat}(hk:k<7){r:Rw}(hg:w.grownBy w' (blk (R k).v))(hr:r.ok w')(hv:blk r.v=blk (R k).v\/∀ g,blk r.v=some g->w.heap.size<=g):Own w' f (upR R k r):=by
 have aa:∀ j,j<7->j≠k->∀ g,blk (R j).v=some g->blk r.v≠some g:=fun j hj ab g e e2=>by
  rcases hv with hv|hv
  .exact h.ap j k hj hk ab g e (hv▸e2)
  .have:=hv g e2
   have:=(h.row j hj).lt e
   omega
 refine⟨fun j hj=>?_,fun i j hi hj ab g=>?_,fun j hj=>?_,qM h.lt hg.size⟩
 .by_cases e:j=k
  .rw[e,zaU];exact hr
  .rw[zaY _ _ e]
   exact(h.row j hj).grown hg (fun g e2 e3=>h.ap j k hj hk e g e2 e3)
 .by_cases ei:i=k
  .rw[ei,zaU,zaY _ _ (by omega)]
   intro e e2
   exact aa j hj (by omega) g e2 e
  .rw[zaY _ _ ei]
   by_cases ej:j=k
   .rw[ej,zaU];exact aa i hi ei g
   .rw[zaY _ _ ej];exact h.ap i j hi hj ab g
 .by_cases e:j=k
  .rw[e,zaU]
   intro e2
   rcases hv with hv|hv
   .exact h.far k hk (hv▸e2)
   .have:=hv f e2
    have:=h.lt
    omega
  .rw[zaY _ _ e];exact h.far j hj
theorem zqR{f:Nat}{R:Nat->Rw}{k:Nat}{r:Rw}{m:Nat}(hk:k<7)(hv:blk r.v=blk (R k).v\/∀ g,blk r.v=some g->m<=g):∀ b,b<m->zao f (upR R k r) b->zao f R b:=by
 rintro b hb (rfl|⟨j,hj,e⟩)
 .exact .inl rfl
 .by_cases ej:j=k
  .rw[ej,zaU] at e
   rcases hv with hv|hv
   .exact .inr ⟨k,hk,hv▸e⟩
   .have:=hv b e;omega
  .rw[zaY _ _ ej] at e
   exact .inr ⟨j,hj,e⟩
theorem Rw.ok.set{r:Rw}{w:World}(h:r.ok w){g:Nat}(hg:blk r.v=some g){j:Nat}(hj:j<r.xs.length)(u:Value):Rw.ok { r with xs:=r.xs.set j u } (w.setCell ⟨g,j,none⟩ u):=by
 refine⟨by rw[List.length_set];exact h.1,?_⟩
 rcases h.2 with ⟨A,e,_⟩|⟨g',cap,cur,e,hh,hn,hc,hs,ht⟩
 .rw[e] at hg;cases A <;> cases hg
 .have e2:g'=g:=by rw[e] at hg;injection hg
  subst e2
  have aa:j<cur.size:=by
   have h1:=h.1
   have:r.n*r.size<=cur.size:=by rw[hs];exact Nat.mul_le_mul_right _ hn
   omega
  refine .inr ⟨g',cap,cur.setIfInBounds j u,e,?_,hn,hc,by simpa using hs,?_⟩
  .have hlt:g'<w.heap.size:=(qB.1 hh).1
   unfold World.setCell
   simp only
   rw[Array.getElem?_modify,if_pos rfl,hh]
   simp
  .rw[<- ht]
   simp only[Array.toList_setIfInBounds]
   rw[List.take_set]
theorem Own.set{w:World}{f:Nat}{R:Nat->Rw}(h:Own w f R){k:Nat}(hk:k<7){g:Nat}(hg:blk (R k).v=some g){j:Nat}(hj:j<(R k).xs.length)(u:Value):Own (w.setCell ⟨g,j,none⟩ u) f (upR R k { R k with xs:=(R k).xs.set j u }):=
 h.up hk (by rw[hg];exact zaq w g j u) (Rw.ok.set (h.row k hk) hg hj u) (.inl rfl)
theorem Own.setF{w:World}{f:Nat}{R:Nat->Rw}(h:Own w f R)(j:Nat)(u:Value):Own (w.setCell ⟨f,j,none⟩ u) f R:=
 ⟨fun k hk=>(h.row k hk).grown (zaq w f j u) (fun g e e2=>by injection e2 with e2;subst e2;exact h.far k hk e),h.ap,h.far,by rw[World.size_setCell];exact h.lt⟩
theorem Rw.ok.cell{r:Rw}{w:World}(h:r.ok w){j:Nat}{u:Value}(hu:r.xs[j]?=some u):∃ g,blk r.v=some g/\(∃ cap,r.v=.slice (some ⟨g,0,none⟩) r.n (cap+1))/\w.cell? ⟨g,j,none⟩=some u/\w.frozen? ⟨g,j,none⟩=false:=by
 rcases h.2 with ⟨A,e,e2⟩|⟨g,cap,cur,e,hh,hn,hc,hs,ht⟩
 .have h1:=h.1
  rw[e2,Nat.zero_mul] at h1
  rw[List.length_eq_zero_iff.1 h1] at hu
  simp at hu
 .refine⟨g,by rw[e];rfl,⟨cap,e⟩,?_,by simp[World.frozen?,hh]⟩
  rw[<- ht,List.getElem?_take] at hu
  split at hu
  .simp only[World.cell?,hh]
   simpa using hu
  .cases hu
theorem Rw.ok.at_{α:Type}{cells:α->List Value}{r:Rw}{w:World}{l:List α}(hs:∀ x,(cells x).length=r.size)(h0:0<r.size)(h:r.ok w)(hn:r.n=l.length)(hx:r.xs=l.flatMap cells):∃ A c,r.v=.slice A l.length c/\At w w.heap.size r.size cells A l/\l.length<=c:=by
 rcases h.own with ⟨A,e1,e2,-⟩|⟨ho,-⟩
 .have:l=[]:=List.length_eq_zero_iff.1 (by omega)
  subst this
  exact⟨A,0,e1,At.nil,qQ _⟩
 .rw[hn,hx] at ho
  obtain⟨A,c,e,ha⟩:=zgK hs h0 ho
  refine⟨A,c,e,ha,?_⟩
  rcases ho.2 with ⟨e1,e2⟩|⟨g,cap,cur,e1,_,_,h3,_⟩
  .rw[e1] at e;injection e with _ e _;omega
  .rw[e1] at e;injection e with _ _ e;omega
theorem zhs{P:Program}{w:World}{r:Rw}(h:r.ok w)(t ty:TypeId)(i:TypeInfo)(z:Value)(bytes:Nat)(ht:P.underlying t=some (.slice r.e))(hi:P.info? r.e=some i)(hz:i.zero=some z)
  (ab:i.size=r.size) (ae:i.bytes=bytes) (af:z.cells.size=r.size) (ag:0<r.size)
  (a:Addr) (m c:Nat) (news:List Value) (hm:0<m) (hl:news.length=m*r.size) (ac:∀ j u,news[j]?=some u->w.cell? (a.add j)=some u) (h1:∀ u∈news,u.oneCell'=true)
  (ah:r.n+m<=maxLen) (aa:(r.n+m)*bytes<=140737488355328) :
  ∃ v' w',(Builtin.append_ #[t,t] ty #[r.v,.slice (some a) m c]).run P w=.ok v' w'/\Rw.ok ⟨r.e,r.size,v',r.n+m,r.xs++news⟩ w'/\w.grownBy w' (blk r.v)/\(blk v'=blk r.v\/∀ g,blk v'=some g->w.heap.size<=g):=by
 rcases h.own with ⟨A,e1,e2,e3⟩|⟨ho,hb⟩
 .have ai:blk r.v=none:=by rw[e1];cases A <;> rfl
  rw[ai]
  cases A with
 |none=>
   have ho:w.ownsRow 0 r.e r.size r.v r.n r.xs:=by rw[e1,e2,e3];exact World.ownsRow_nil _ _ _ _
   obtain⟨v',w',hr,h2,h3,-,h5⟩:=run_append_own_at (P:=P) w 0 t ty r.e i z r.size bytes ht hi hz ab ae af ag r.v r.n r.xs ho a m c news hl ac h1 ah aa (Nat.zero_le _)
   rw[show r.v.ownBlock=none by rw[e1];rfl] at h3 h5
   refine⟨v',w',hr,.of_own h2,h3,.inr fun g hg=>?_⟩
   have h6:=(zfD h2 hg).1
   rcases h5 with h5|h5
   .rw[h5] at h6;cases h6
   .rw[h5] at h6;injection h6 with h6;omega
 |some b=>
   obtain⟨v',w',hr,h2,h3⟩:=run_append_arg_grows (P:=P) w t ty r.e i z r.size bytes ht hi hz ab ae af ag b 0 0 [] (by simp) (fun j u hu=>by simp at hu) a m c news hl ac (by omega) (by omega) (by rw[e2] at aa;exact aa)
   rw[e1,e2,e3]
   exact⟨v',w',hr,.of_own h2,h3,.inr fun g hg=>(zfD h2 hg).2⟩
 .obtain⟨v',w',hr,h2,h3,-,h5⟩:=run_append_own_at (P:=P) w 0 t ty r.e i z r.size bytes ht hi hz ab ae af ag r.v r.n r.xs ho a m c news hl ac h1 ah aa (Nat.zero_le _)
  rw[hb] at h3 h5
  refine⟨v',w',hr,.of_own h2,h3,?_⟩
  cases hg:blk v' with
 |none=>exact .inr fun g e=>by cases e
 |some g=>
   have h6:=(zfD h2 hg).1
   rcases h5 with h5|h5
   .exact .inl (by rw[<- h5,h6])
   .right;intro g' e;injection e with e;rw[h5] at h6;injection h6 with h6;omega
section
variable {P:Program} {w:World} {ops:Array Oper} {o:Oper} {a:Act} {r:Rw}
theorem zaI{K:Act->World->Prop}{Q:Exit->Act->World->Prop}{E:Prop}(ae:o.guard=none)(s x:Operand)(t:TypeId)(ho:o.op=.call { callee:=.builtin .append,args:=#[s,x],argTypes:=#[t,t] })(h:r.ok w)
  (i:TypeInfo) (z:Value) (bytes:Nat) (ht:P.underlying t=some (.slice r.e)) (hi:P.info? r.e=some i) (hz:i.zero=some z) (ab:i.size=r.size) (af:i.bytes=bytes) (ag:z.cells.size=r.size) (ah:0<r.size)
  (hs:a.eval s=r.v) (ad:Addr) (m c:Nat) (news:List Value) (hx:a.eval x=.slice (some ad) m c) (hm:0<m) (hl:news.length=m*r.size) (ac:∀ j u,news[j]?=some u->w.cell? (ad.add j)=some u) (h1:∀ u∈news,u.oneCell'=true)
  (ai:r.n+m<=maxLen) (aa:(r.n+m)*bytes<=140737488355328)
  (hk:∀ v' w',Rw.ok ⟨r.e,r.size,v',r.n+m,r.xs++news⟩ w'->w.grownBy w' (blk r.v)->(blk v'=blk r.v\/∀ g,blk v'=some g->w.heap.size<=g)->K (a.put o.dst v') w') :
  if Region.wanted o (yielded ops a.tmps)=true then Oper.wp P o a w K Q else E:=by
 have hw:Region.wanted o (yielded ops a.tmps)=true:=by simp[Region.wanted,ae]
 rw[if_pos hw]
 obtain⟨v',w',hr,h2,h3,h4⟩:=zhs (P:=P) h t o.type i z bytes ht hi hz ab af ag ah ad m c news hm hl ac h1 ai aa
 unfold Oper.wp execOp
 simp only[ho,resolve,invoke,builtin,Sem.run_bind,Sem.run_pure,Result.andThen_ok,List.map_toArray,List.map_cons,List.map_nil,hs,hx,hr]
 exact hk v' w' h2 h3 h4
end
def putL(xs:List Value)(j:Nat):List Value->List Value
|[]=>xs
|u :: us=>putL (xs.set j u) (j+1) us
theorem zjf:∀(us xs:List Value) (j:Nat),(putL xs j us).length=xs.length
|[],_,_=>rfl
|_ :: us,_,_=>(zjf us _ _).trans (List.length_set ..)
theorem zdq:∀(us xs:List Value) (j i:Nat),j+us.length<=xs.length->(putL xs j us)[i]?=if j<=i/\i<j+us.length then us[i-j]? else xs[i]?
|[],xs,j,i,_=>by rw[if_neg (by simp only[List.length_nil];omega)];rfl
|u :: us,xs,j,i,h=>by
  have h':j+(us.length+1)<=xs.length:=h
  show(putL (xs.set j u) (j+1) us)[i]?=_
  rw[zdq us _ (j+1) i (by rw[List.length_set];omega)]
  by_cases e:i=j
  .subst e
   rw[if_neg (by omega),if_pos ⟨by omega,by simp⟩,List.getElem?_set_self (by omega),Nat.sub_self]
   rfl
  .by_cases h2:j+1<=i/\i<j+1+us.length
   .rw[if_pos h2,if_pos ⟨by omega,by simp;omega⟩,show i-j=(i-(j+1))+1 by omega,List.getElem?_cons_succ]
   .rw[if_neg h2,if_neg (by simp only[List.length_cons];omega),List.getElem?_set_ne (fun e'=>e e'.symm)]
theorem zbr{α:Type}{cells:α->List Value}{size:Nat}(hs:∀ x,(cells x).length=size):∀ l:List α,(l.flatMap cells).length=l.length*size
|[]=>by simp
|x :: l=>by rw[List.flatMap_cons,qD,hs,zbr hs l,List.length_cons,Nat.add_mul];omega
theorem zhJ{α:Type}{cells:α->List Value}{size:Nat}(hs:∀ x,(cells x).length=size)(l:List α){k j:Nat}(hj:j<size):(l.flatMap cells)[k*size+j]?=match l[k]? with
 |some x=>(cells x)[j]?
 |none=>none:=by
 cases h:l[k]? with
|none=>
  rw[List.getElem?_eq_none_iff] at h
  rw[List.getElem?_eq_none]
  rw[zbr hs]
  have:=Nat.mul_le_mul_right size h
  omega
|some x=>
  have hu:(cells x)[j]?=some ((cells x)[j]'(by rw[hs];exact hj)):=qN _
  rw[zaO hs l k x j _ h hu];exact hu.symm
theorem zeu{α:Type}{cells:α->List Value}{size:Nat}(hs:∀ x,(cells x).length=size)(h0:0<size)(l:List α){k:Nat}(hk:k<l.length)(x:α):putL (l.flatMap cells) (k*size) (cells x)=(l.set k x).flatMap cells:=by
 apply List.ext_getElem?
 intro i
 have hle:k*size+size<=l.length*size:=by rw[<- Nat.succ_mul];exact Nat.mul_le_mul_right _ hk
 rw[zdq _ _ _ _ (by rw[hs,zbr hs];exact hle),hs]
 have hi:i / size*size+i % size=i:=by rw[Nat.mul_comm];exact Nat.div_add_mod i size
 have hm:i % size<size:=Nat.mod_lt _ h0
 have h1:=zhJ hs (l.set k x) (k:=i / size) hm
 have h2:=zhJ hs l (k:=i / size) hm
 rw[hi] at h1 h2
 rw[h1,h2]
 by_cases e:i / size=k
 .rw[e,List.getElem?_set_self hk]
  subst e
  rw[if_pos (by omega),show i-i / size*size=i % size by omega]
 .rw[List.getElem?_set_ne (fun e'=>e e'.symm),if_neg]
  rintro⟨h3,h4⟩
  have h5:i / size=k:=by
   apply Nat.div_eq_of_lt_le
   .exact h3
   .rw[Nat.succ_mul];exact h4
  exact e h5
theorem Rw.ok.setAll:∀(us:List Value) {r:Rw} {w:World} (_:r.ok w) {g:Nat} (_:blk r.v=some g) {j:Nat} (_:j+us.length<=r.xs.length),Rw.ok { r with xs:=putL r.xs j us } (setCells w g j us)
|[],_,_,h,_,_,_,_=>h
|u :: us,r,w,h,g,hg,j,hj=>by
  have aa:j+(us.length+1)<=r.xs.length:=hj
  have h1:=h.set hg (show j<r.xs.length by omega) u
  exact Rw.ok.setAll us h1 hg (by show j+1+us.length<=(r.xs.set j u).length;rw[List.length_set];omega)
theorem zaM(g:Nat):∀(us:List Value) (j:Nat) (w:World),w.grownBy (setCells w g j us) (some g)
|[],_,w=>⟨rfl,rfl,rfl,qQ _,fun _ _ _=>rfl⟩
|u :: us,j,w=>by
  have h1:=zaq w g j u
  have h2:=zaM g us (j+1) (w.setCell ⟨g,j,none⟩ u)
  exact⟨h2.os.trans h1.os,h2.tape.trans h1.tape,h2.output.trans h1.output,Nat.le_trans h1.size h2.size,fun i hi aa=>(h2.block i (qM hi h1.size) aa).trans (h1.block i hi aa)⟩
theorem Own.setAll{w:World}{f:Nat}{R:Nat->Rw}(h:Own w f R){k:Nat}(hk:k<7){g:Nat}(hg:blk (R k).v=some g){j:Nat}(us:List Value)(hj:j+us.length<=(R k).xs.length):Own (setCells w g j us) f (upR R k { R k with xs:=putL (R k).xs j us }):=
 h.up hk (by rw[hg];exact zaM g us j w) (Rw.ok.setAll us (h.row k hk) hg hj) (.inl rfl)
def Ct.of(c:Cu.Cut):Ct:=⟨c.wide,c.high,c.piece⟩
def btL(x:Bt):List Value:=[.int .i64 x.cut,.int .i64 x.n]
def vbF:Vb->Nat
|.hour=>185
|.drop=>186
|.cut=>187
|.join=>188
|.lines=>189
|.make=>190
|.bend=>191
|.off=>192
|.lend=>193
|.back=>194
|.seen=>195
|.admit=>196
|.who=>197
|.lost=>198
def enL(e:En)(A:Option Addr)(c:Nat):List Value:=[.int .i64 e.n.length,.func (.func (vbF e.v)) #[] #[],.bool e.v.clock,.slice A e.n.length c]
structure Pq where
 p:Pn
 A:Option Addr
 c:Nat
def Pq.cells(x:Pq):List Value:=.int .i64 x.p.hour :: .int .i64 x.p.num :: enL x.p.e x.A x.c
structure RowsOk(R:Nat->Rw)(cs:List Cu.Cut)(ps:List Pq)(b:Bk):Prop where
 r0:(R 0).e=57/\(R 0).size=3/\(R 0).n=cs.length/\(R 0).xs=cs.flatMap Cu.cutL
 r1:(R 1).e=3/\(R 1).size=1/\(R 1).n=b.ran.length/\(R 1).xs=b.ran.flatMap zad
 r2:(R 2).e=65/\(R 2).size=2/\(R 2).n=b.made.length/\(R 2).xs=b.made.flatMap btL
 r3:(R 3).e=67/\(R 3).size=3/\(R 3).n=b.t.loans.length/\(R 3).xs=b.t.loans.flatMap Le.Loan.cells
 r4:(R 4).e=194/\(R 4).size=3/\(R 4).n=b.t.looks.length/\(R 4).xs=b.t.looks.flatMap Le.Look.cells
 r5:(R 5).e=3/\(R 5).size=1/\(R 5).n=b.t.admits.length/\(R 5).xs=b.t.admits.flatMap zad
 r6:(R 6).e=251/\(R 6).size=6/\(R 6).n=ps.length/\(R 6).xs=ps.flatMap Pq.cells
def bkL(R:Nat->Rw)(s:St):List Value:=[.int .i64 s.b.hour,(R 0).v,(R 1).v,(R 2).v,.int .i64 s.b.t.n,(R 3).v,(R 4).v,(R 5).v,.int .i64 s.b.cost,.int .i64 s.plans.length,.bool s.b.opn,(R 6).v,.int .i64 s.planned]
def flL(R:Nat->Rw)(d:Ru.Die)(s:St):List Value:=bkL R s++[.slice d.A d.blades.length d.c,.int .i64 d.bound,.int .i64 d.stop,.int .i64 d.bend,.bool true]
structure Holds(O:Nat->Prop)(w:World)(R:Nat->Rw)(cs:List Cu.Cut)(ps:List Pq)(s:St):Prop where
 ro:RowsOk R cs ps s.b
 ec:cs.map Ct.of=s.b.cuts
 ca:∀ c∈cs,AtO O w 1 zad c.A c.piece
 hp:HpOk Pq.p ps s.plans s.planned
 pa:∀ x∈ps,AtO O w 1 zad x.A x.p.e.n
 pc:∀ x∈ps,x.p.e.n.length<=x.c
structure FlAt(O:Nat->Prop)(w:World)(f:Nat)(R:Nat->Rw)(cs:List Cu.Cut)(ps:List Pq)(d:Ru.Die)(s:St):Prop where
 own:Own w f R
 sub:∀ b,zao f R b->O b
 lt:∀ b,O b->b<w.heap.size
 box:Bx w f (flL R d s)
 h:Holds O w R cs ps s
 die:AtO O w 4 Ru.Blade.cells d.A d.blades
def orO(O:Nat->Prop)(f:Nat)(R:Nat->Rw)(b:Nat):Prop:=O b\/zao f R b
structure Turn(w w':World)(f:Nat)(R R':Nat->Rw):Prop where
 k:Keep (zao f R) w w'
 n:∀ x,x<w.heap.size->zao f R' x->zao f R x
theorem Turn.trans{a b c:World}{f:Nat}{R R' R'':Nat->Rw}(h:Turn a b f R R')(k:Turn b c f R' R''):Turn a c f R R'':=
 ⟨h.k.trans k.k h.n,fun x hx ho=>h.n x hx (k.n x (qM hx h.k.size) ho)⟩
theorem Turn.of_below{w w':World}{f:Nat}{R:Nat->Rw}(h:Below w.heap.size w w'):Turn w w' f R R:=⟨.of_below h,fun _ _ h=>h⟩
theorem Holds.keep{O O' P:Nat->Prop}{w w':World}{R R':Nat->Rw}{cs:List Cu.Cut}{ps:List Pq}{s:St}(h:Holds O w R cs ps s)(k:Keep P w w')(hP:∀ b,b<w.heap.size->P b->O b)(hO:∀ b,b<w.heap.size->O' b->O b)(hR:RowsOk R' cs ps s.b):Holds O' w' R' cs ps s:=
 ⟨hR,h.ec,fun c hc=>(h.ca c hc).keep k hP hO,h.hp,fun x hx=>(h.pa x hx).keep k hP hO,h.pc⟩
theorem FlAt.below{O:Nat->Prop}{w w':World}{f:Nat}{R:Nat->Rw}{cs:List Cu.Cut}{ps:List Pq}{d:Ru.Die}{s:St}(h:FlAt O w f R cs ps d s)(k:Below w.heap.size w w'):FlAt O w' f R cs ps d s:=
 ⟨h.own.below k,h.sub,fun b hb=>qM (h.lt b hb) k.size,h.box.next k,h.h.keep (P:=fun _=>False) (.of_below k) (fun _ _ x=>x.elim) (fun _ _ x=>x) h.h.ro,h.die.keep (P:=fun _=>False) (.of_below k) (fun _ _ x=>x.elim) (fun _ _ x=>x)⟩
theorem FlAt.step{O:Nat->Prop}{w w':World}{f:Nat}{R R':Nat->Rw}{cs cs':List Cu.Cut}{ps ps':List Pq}{d:Ru.Die}{s s':St}(h:FlAt O w f R cs ps d s)(t:Turn w w' f R R')(ho:Own w' f R')(hb:Bx w' f (flL R' d s'))(hh:Holds (orO O f R') w' R' cs' ps' s'):FlAt (orO O f R') w' f R' cs' ps' d s':=
 ⟨ho,fun b x=>.inr x,fun b hb=>hb.elim (fun x=>qM (h.lt b x) t.k.size) (ho.is_lt b),hb,hh,
  h.die.keep t.k (fun b _ x=>h.sub b x) (fun b hb x=>x.elim (fun y=>y) (fun y=>h.sub b (t.n b hb y)))⟩
theorem FlAt.oldO{O:Nat->Prop}{w w':World}{f:Nat}{R R':Nat->Rw}{cs:List Cu.Cut}{ps:List Pq}{d:Ru.Die}{s:St}(h:FlAt O w f R cs ps d s)(t:Turn w w' f R R'):∀ b,b<w.heap.size->orO O f R' b->O b:=fun b hb x=>x.elim (fun y=>y) (fun y=>h.sub b (t.n b hb y))
def zaF(c:Int):List PanicEntry:=[{ v:=.iface 238 (.agg #[.int .i64 c]),recovered:=false }]
def dieL(d:Ru.Die):List Value:=[.slice d.A d.blades.length d.c,.int .i64 d.bound,.int .i64 d.stop,.int .i64 d.bend,.bool true]
def RetF(O:Nat->Prop)(w:World)(f:Nat)(R:Nat->Rw)(d:Ru.Die):Res->Ending->World->Prop
|.ok (s',t),e,w'=>e=.returned (.string ⟨t.toArray⟩)/\∃ R' cs' ps',FlAt (orO O f R') w' f R' cs' ps' d s'/\Turn w w' f R R'
|.error c,e,w'=>e=.panicked (zaF c)/\Keep (zao f R) w w'/\∃ vs:List Value,vs.length=13/\Bx w' f (vs++dieL d)
end
namespace Le
open Go.RowKit
theorem zjB{w:World}{b:Nat}{a0 a1:Value}(h:Bx w b [a0,a1]):(loadVar 61 ⟨b,0,none⟩).run Tryz.prog w=.ok (.agg #[a0,a1]) w:=by
 have c0:=h.c 0 _ rfl
 have c1:=h.c 1 _ rfl
 clear h
 go_simp
theorem zln{α:Type}(l:List α)(p q:α->Bool)(h:∀ x,q x=!p x):l.any q=!l.all p:=by
 rw[List.all_eq_not_any_not,Bool.not_not]
 congr 1;funext x;exact h x
theorem At.take{α:Type}{w:World}{B size:Nat}{cells:α->List Value}{A:Option Addr}{l:List α}(h:At w B size cells A l)(k:Nat):At w B size cells A (l.take k):=fun j x hx=>by
 by_cases hj:j<k
 .rw[List.getElem?_take_of_lt hj] at hx;exact h j x hx
 .rw[List.getElem?_eq_none (by rw[List.length_take];omega)] at hx;cases hx
def RIs(m:Mt)(n:Nat)(w0:World)(b bm:Nat)(i:Value)(w:World):Prop:=∃ k:Nat,k<=m.t.loans.length/\i=.int .i64 k/\Below w0.heap.size w0 w/\Bx w b m.cells/\Bx w bm [.int .i64 (powI n-1)]/\zbm m.t.admits.length [] m.t.loans=zbm m.t.admits.length (m.t.loans.take k) (m.t.loans.drop k)
theorem zet(m:Mt)(w:World)(hr:TaleAt w w.heap.size m):Calls Tryz.prog 84 #[.agg #[.int .i64 m.t.n,.slice m.A1 m.t.loans.length m.c1,.slice m.A2 m.t.looks.length m.c2,.slice m.A3 m.t.admits.length m.c3]] w (Ret (.bool (zaN m.t)) w):=by
 have HR:=qG hr
 have l1:=hr.l1
 have l3:=hr.l3
 have k1:=hr.k1
 clear hr
 have HD:=qG (show zaN m.t=(inS m.t.n 1 16&&(inS m.t.admits.length 1 6&&(decide ((m.t.loans.length:Int)<=12)&&(decide ((m.t.looks.length:Int)<=20)&&(zbm m.t.admits.length [] m.t.loans&&(m.t.looks.all (zcZ m.t.n.toNat)&&m.t.admits.all zfq)))))) from rfl)
 rcases zkg (inS m.t.n 1 16) (inS m.t.admits.length 1 6) (decide ((m.t.loans.length:Int)<=12)) (decide ((m.t.looks.length:Int)<=20)) with a1|⟨a1,a2⟩|⟨a1,a2,a3⟩|⟨a1,a2,a3,a4⟩|⟨a1,a2,a3,a4⟩
 rotate_right
 .have HA:=qG (And.intro a1 (And.intro a2 (And.intro a3 a4)))
  have az:=zb6.1 a1
  obtain⟨n,aq⟩:∃ n:Nat,m.t.n=n:=⟨m.t.n.toNat,by omega⟩
  have aA:n<=16:=by omega
  have HN:=qG (show m.t.n.toNat=n by omega)
  have aI:=qG aq
  have aJ:=zhx (n:=n) (by omega)
  have b3:decide ((12:Int)<(m.t.loans.length:Int))=false:=by simp at a3 ⊢;omega
  have b4:decide ((20:Int)<(m.t.looks.length:Int))=false:=by simp at a4 ⊢;omega
  have ay:Op.shift BinOp.shl IntKind.i64 1 IntKind.i64 m.t.n=pure (.int .i64 (powI n)):=by
   rw[shift_shl _ _ _ _ (by omega) (by show m.t.n<=64;omega),HN.o,Int.one_mul]
   have:((2:Int) ^ n)=powI n:=by unfold powI;push_cast;rfl
   rw[this,show IntKind.i64.wrap (powI n)=powI n from by rw[IntKind.wrap_i64];omega]
  clear az aq
  go_enter Tryz.func84,Tryz.ntmps84
  go_wp2_with (go_at_call 97;(with_reducible refine(zam _ _ _ _).mono ?_);rintro e w' ⟨rfl,rfl⟩)
  clear ay b3 b4 a1 a2 a3 a4
  have B0:=nxA w (.cells #[.int .i64 m.t.n,.slice m.A1 m.t.loans.length m.c1,.slice m.A2 m.t.looks.length m.c2,.slice m.A3 m.t.admits.length m.c3] 40)
  have X0:=Bx.new w #[.int .i64 m.t.n,.slice m.A1 m.t.loans.length m.c1,.slice m.A2 m.t.looks.length m.c2,.slice m.A3 m.t.admits.length m.c3] 40
  have B1:=nxA (w.alloc (.cells #[.int .i64 m.t.n,.slice m.A1 m.t.loans.length m.c1,.slice m.A2 m.t.looks.length m.c2,.slice m.A3 m.t.admits.length m.c3] 40)) (.cells #[.int .i64 (powI n-1)] 3)
  have X1:=Bx.new (w.alloc (.cells #[.int .i64 m.t.n,.slice m.A1 m.t.loans.length m.c1,.slice m.A2 m.t.looks.length m.c2,.slice m.A3 m.t.admits.length m.c3] 40)) #[.int .i64 (powI n-1)] 3
  rw[World.size_alloc] at X1
  have HB:=qG (B0.trans (B1.mono B0.size))
  have aB:=qG (X0.next B1)
  have ab:=qG X1
  clear B0 X0 B1 X1
  generalize(w.alloc (.cells #[.int .i64 m.t.n,.slice m.A1 m.t.loans.length m.c1,.slice m.A2 m.t.looks.length m.c2,.slice m.A3 m.t.admits.length m.c3] 40)).alloc (.cells #[.int .i64 (powI n-1)] 3)=V at *
  go_loopw [39] (fun i wr=>RIs m n w w.heap.size (w.heap.size+1) i wr) (fun i _=>m.t.loans.length-(intOf i).toNat)
  case atStart=>exact⟨0,by omega,rfl,HB.o,aB.o,ab.o,rfl⟩
  case round=>
   obtain⟨k,hk,rfl,hb,hx,aj,ak⟩:=hrel
   have hz:=hx.lt
   have aK:=aj.lt
   have c0:=hx.c 0 _ rfl
   have c1:=hx.c 1 _ rfl
   have c2:=hx.c 2 _ rfl
   have c3:=hx.c 3 _ rfl
   have HX:=qG hx
   have HY:=qG aj
   have af:=qG ak
   have ac:=qG hb
   have ar:=qG (HR.o.below hb)
   have ai:=qG (ar.o.more hb.size)
   clear hx aj ak
   by_cases hlt:k<m.t.loans.length
   .obtain⟨b,off,e,aC,h0,h1,h2⟩:=zkY ar.o.lo hlt
    have aD:=qG (ai.o.lo.take k)
    have aL:b<wr.heap.size:=qM aC hb.size
    have HS:=qG (zjo (m:=m.t.admits.length) hlt)
    clear hb
    generalize m.A1=A1 at *
    subst e
    generalize m.t.loans.getD k ⟨0,0,0⟩=s at *
    have Hk:=qG (show zcr m.t.admits.length s=(inS s.p 0 (m.t.admits.length-1)&&(inS s.a 0 1048575&&inS s.b (s.a+1) mxH)) from rfl)
    have HW:=qG (show inS s.a 0 1048575=true->IntKind.i64.wrap (s.a+1)=s.a+1 from fun h=>by rw[zb6] at h;exact qF _ (by omega))
    rcases znf (inS s.p 0 (m.t.admits.length-1)) (inS s.a 0 1048575) (inS s.b (s.a+1) mxH) with a1|⟨a1,a2⟩|⟨a1,a2,a3⟩|⟨a1,a2,a3⟩
    rotate_right
    .have au:=HW.o a2
     have ag:=qG (nxA wr (.cells #[.int .i64 s.p,.int .i64 s.a,.int .i64 s.b] 67))
     have aE:=qG (Bx.new wr #[.int .i64 s.p,.int .i64 s.a,.int .i64 s.b] 67)
     have am:=qG (show zcr m.t.admits.length s=true by rw[Hk.o,a1,a2,a3];rfl)
     have ah:(m.t.loans.take k).length=k:=by rw[List.length_take];omega
     have aF:=qG (fun(W:World) (h1:Below wr.heap.size wr W) (h2:Bx W wr.heap.size s.cells)=>by
      have:=zfI s wr.heap.size (some ⟨b,off,none⟩) m.c1 (m.t.loans.take k) W (aD.o.next h1) (by rw[ah];omega) h2
      rw[ah] at this
      exact this)
     clear ah
     go_wp2_with (first|(go_at_call 97;(with_reducible refine(zam _ _ _ _).mono ?_);rintro e w' ⟨rfl,rfl⟩)|fail)
     refine(aF.o _ ag.o aE.o).mono ?_
     rintro e w1 ⟨rfl,aa⟩
     have ae:=qG (ac.o.trans ((ag.o.trans (aa.mono ag.o.size)).mono ac.o.size))
     have ab:=qG ((HX.o.next ag.o).next aa)
     have an:=qG ((HY.o.next ag.o).next aa)
     obtain⟨q,hq⟩:∃ q,q=(m.t.loans.take k).any (zaG s):=⟨_,rfl⟩
     rw[<- hq]
     have HQ:=qG hq
     clear aa hq a1 a2 a3 c0 c1 c2 c3 h0 h1 h2 au
     cases q
     .go_wp2
      all_goals (first|(refine⟨?_,?_⟩;(unfold RIs;exact⟨k+1,by omega,by go_num,ae.o,ab.o,an.o,by rw[af.o,HS.o,am.o,<- HQ.o];rfl⟩);(simp[intOf];omega))|(go_roundw;(case rel=>(unfold RIs;exact⟨k+1,by omega,by go_num,ae.o,ab.o,an.o,by rw[af.o,HS.o,am.o,<- HQ.o];rfl⟩));(case measure=>(simp[intOf];omega)))|(go_round;(case rel=>(unfold RIs;exact⟨k+1,by omega,by go_num,ae.o,ab.o,an.o,by rw[af.o,HS.o,am.o,<- HQ.o];rfl⟩));(case measure=>(simp[intOf];omega))))
     .go_wp2
      go_ret
      refine zaA ?_ ae.o
      rw[HD.o,af.o,HS.o,<- HQ.o];simp
    all_goals
     try (have au:=HW.o a2)
     go_wp2_with (go_at_call 97;(with_reducible refine(zam _ _ _ _).mono ?_);rintro e w' ⟨rfl,rfl⟩)
     go_ret
     refine zaA ?_ (ac.o.trans ((nxA _ _).mono ac.o.size))
     rw[HD.o,af.o,HS.o,Hk.o];simp[*]
   .have HE:=qG (zkt (m:=m.t.admits.length) hlt)
    have HL:=qG (zln m.t.looks (zcZ n) (zbt n) fun _=>rfl)
    have aG:=qG (zln m.t.admits zfq zbT fun _=>rfl)
    go_wp2_with fail
    refine(zgt n (w.heap.size+1) _ _ _ _ ai.o.lk ai.o.l2 HY.o aA).mono ?_
    rintro e w1 ⟨rfl,aa⟩
    have ae:=qG (ac.o.trans (aa.mono ac.o.size))
    have ab:=qG (HX.o.next aa)
    have c3:=ab.o.c 3 _ rfl
    have aM:=ab.o.lt
    have aw:=qG (ai.o.next aa)
    have HQ:=qG HL.o
    rw[HL.o]
    have ao:=qG (show zaN m.t=(m.t.looks.all (zcZ n)&&m.t.admits.all zfq) from by rw[HD.o,HA.o.1,HA.o.2.1,HA.o.2.2.1,HA.o.2.2.2,af.o,HE.o,HN.o];simp)
    clear aa
    obtain⟨q,hq⟩:∃ q,q=m.t.looks.all (zcZ n):=⟨_,rfl⟩
    rw[<- hq] at ao ⊢
    clear HQ HL hq
    cases q
    .go_wp2
     go_ret
     exact zaA (by rw[ao.o];rfl) ae.o
    .go_wp2_with fail
     refine(zhb _ _ _ _ aw.o.ad aw.o.l3).mono ?_
     rintro e w2 ⟨rfl,ax⟩
     have aH:=qG (ae.o.trans (ax.mono ae.o.size))
     rw[aG.o]
     clear ax
     go_wp2
     go_ret
     exact zaA (by rw[ao.o];simp) aH.o
 all_goals
  have ac:=qG (nxA w (.cells #[.int .i64 m.t.n,.slice m.A1 m.t.loans.length m.c1,.slice m.A2 m.t.looks.length m.c2,.slice m.A3 m.t.admits.length m.c3] 40))
  have HF:=qG (show zaN m.t=false by rw[HD.o];simp[*])
  try (have b3:decide ((12:Int)<(m.t.loans.length:Int))=false:=by simp at a3 ⊢;omega)
  try (have b3:decide ((12:Int)<(m.t.loans.length:Int))=true:=by simp at a3 ⊢;omega)
  try (have b4:decide ((20:Int)<(m.t.looks.length:Int))=true:=by simp at a4 ⊢;omega)
  go_enter Tryz.func84,Tryz.ntmps84
  go_wp2_with (go_at_call 97;(with_reducible refine(zam _ _ _ _).mono ?_);rintro e w' ⟨rfl,rfl⟩)
  go_ret
  exact zaA HF.o.symm ac.o
theorem zhT{T p:Nat}(hT:T<9223372036854775808):bits BinOp.and IntKind.i64 ((T:Int) / 2 ^ p) 1=if has T p then 1 else 0:=by
 have h1:(T:Int) / 2 ^ p=((T / 2 ^ p:Nat):Int):=by rw[Int.natCast_ediv];push_cast;rfl
 have h2:T / 2 ^ p<=T:=Nat.div_le_self _ _
 rw[h1,show(1:Int)=((1:Nat):Int) from rfl,zdT _ _ (by omega) (by omega),Nat.and_one_is_mod]
 unfold has
 rw[Nat.testBit_eq_decide_div_mod_eq]
 by_cases h:T / 2 ^ p % 2=1
 .rw[decide_eq_true h,if_pos rfl,h]
 .rw[decide_eq_false h,if_neg (by decide)]
  have:T / 2 ^ p % 2=0:=by omega
  rw[this];rfl
def RWo(l:List Look)(p:Nat)(w0:World)(b:Nat)(i:Value)(w:World):Prop:=∃ k:Nat,k<=l.length/\i=.int .i64 k/\Below w0.heap.size w0 w/\Bx w b [.int .i64 0,.int .i64 0]/\Bx w (b+1) [.int .i64 (seenS (l.take k) p),.int .i64 (goneS (l.take k) p)]
theorem zqX{w:World}{b:Nat}{a0 a1:Value}(h:Bx w b [a0,a1]):(loadVar 171 ⟨b,0,none⟩).run Tryz.prog w=.ok (.agg #[a0,a1]) w:=by
 have c0:=h.c 0 _ rfl
 have c1:=h.c 1 _ rfl
 clear h
 go_simp
theorem zaH{fn:Func}{p:Tmp}{ty:TypeId}(h:fn.results=#[.cell p ty]){tmps:Array Value}{P:Program}{w:World}{a:Addr}{v:Value}(hp:tmps.getD p undef=.pointer (some a))(hv:(loadVar ty a).run P w=.ok v w) :
  (results fn tmps).run P w=.ok v w:=by
 have aa:tmps[p]?.getD undef=.pointer (some a):=by simpa using hp
 simp[results,h,aa,asAddr,hv]
theorem zgC{l:List Look}{p k b:Nat}{w0 W W':World}{sv gv:Int}{v:Value}(hk:k<l.length)(hv:v=.int .i64 ((k+1:Nat):Int))(hb:Below w0.heap.size w0 W)(hx:Bx W b [.int .i64 0,.int .i64 0])(hz:Bx W (b+1) [.int .i64 sv,.int .i64 gv])(hW:Below W.heap.size W W')(e1:seenS (l.take (k+1)) p=sv)(e2:goneS (l.take (k+1)) p=gv):RWo l p w0 b v W':=
 ⟨k+1,by omega,hv,zdg hW hb (qQ _),hx.next hW,by rw[e1,e2];exact hz.next hW⟩
theorem zmF(a b:Int):max a b=if a<b then b else a:=by split <;> omega
theorem zmE(a b:Int):min a b=if b<a then b else a:=by split <;> omega
theorem zeI(A:Option Addr)(c:Nat)(l:List Look)(n p:Nat)(w:World)(hr:At w w.heap.size 3 Look.cells A l)(hl:l.length<=9223372036854775807)(ok:∀ x∈l,(0<=x.there/\x.there<=powI n-1)/\(0<=x.gone/\x.gone<=powI n-1))(hn:n<=16)(hp:p<=62) :
  Calls Tryz.prog 85 #[.slice A l.length c,.int .i64 p] w (Ret (.agg #[.int .i64 (seenS l p),.int .i64 (goneS l p)]) w):=by
 have OK:=qG ok
 have ah:=zhx (n:=n) (by omega)
 have b0:=nxA w (.cells #[.int .i64 0,.int .i64 0] 171)
 have x0:=Bx.new w #[.int .i64 0,.int .i64 0] 171
 have b1:=nxA (w.alloc (.cells #[.int .i64 0,.int .i64 0] 171)) (.cells #[.int .i64 0,.int .i64 1048577] 171)
 have z0:=Bx.new (w.alloc (.cells #[.int .i64 0,.int .i64 0] 171)) #[.int .i64 0,.int .i64 1048577] 171
 rw[World.size_alloc] at z0
 have B0:=qG (b0.trans (b1.mono b0.size))
 have HX:=qG (x0.next b1)
 have HZ:=qG z0
 have HR:=qG hr
 clear hr ok b0 x0 b1 z0
 go_enter Tryz.func85,Tryz.ntmps85
 go_wp2
 generalize(w.alloc (.cells #[.int .i64 0,.int .i64 0] 171)).alloc (.cells #[.int .i64 0,.int .i64 1048577] 171)=V at *
 go_loopw [11] (fun i wr=>RWo l p w w.heap.size i wr) (fun i _=>l.length-(intOf i).toNat)
 case atStart=>exact⟨0,by omega,rfl,B0.o,HX.o,HZ.o⟩
 case round=>
  obtain⟨k,hk,rfl,hb,hx,hz⟩:=hrel
  have z0:=hz.c 0 _ rfl
  have z1:=hz.c 1 _ rfl
  have f0:=hz.fr 0
  have f1:=hz.fr 1
  have aj:=hz.lt
  have HB:=qG hb
  have aa:=qG hx
  have ab:=qG hz
  clear hx hz
  by_cases hlt:k<l.length
  .obtain⟨b,off,rfl,ai,h0,h1,h2⟩:=zkX (HR.o.below hb) hlt
   have ak:b<wr.heap.size:=qM ai hb.size
   have ac:=qG (zmo (k:=p) hlt)
   have ae:=qG (zm0 (k:=p) hlt)
   have HO:=OK.o _ (zdv (d:=⟨0,0,0⟩) hlt)
   generalize l.getD k ⟨0,0,0⟩=s at *
   obtain⟨T,hT⟩:∃ T:Nat,T=s.there.toNat:=⟨_,rfl⟩
   obtain⟨G,hG⟩:∃ G:Nat,G=s.gone.toNat:=⟨_,rfl⟩
   have af:s.there=(T:Int):=by omega
   have ag:s.gone=(G:Int):=by omega
   have aT:=zhT (T:=T) (p:=p) (by omega)
   have aG:=zhT (T:=G) (p:=p) (by omega)
   have e1:ibit s.there p=has T p:=by rw[hT];rfl
   have e2:ibit s.gone p=has G p:=by rw[hG];rfl
   rw[e1] at ac
   rw[e2] at ae
   rw[af] at h1
   rw[ag] at h2
   clear hb HO hT hG af ag e1 e2 ah
   generalize seenS (l.take k) p=sv at *
   generalize goneS (l.take k) p=gv at *
   have sB:∀(W:World) (j:Nat) (v:Value),Below w.heap.size w W->Below w.heap.size w (W.setCell ⟨w.heap.size+1,j,none⟩ v):=fun W j v h=>h.setCell (p:=⟨w.heap.size+1,j,none⟩) (by show w.heap.size<=w.heap.size+1;omega) v
   have SB:=qG sB
   clear sB
   cases b1:has T p <;> cases b2:has G p <;> rw[b1] at aT <;> rw[b2] at aG
   .simp only[Bool.false_eq_true,if_false] at aT aG
    go_wp2
    refine⟨zgC hlt (by go_num) HB.o aa.o ab.o (nxA _ _) (by rw[ac.o,b1];rfl) (by rw[ae.o,b2];rfl),?_⟩
    simp[intOf];omega
   .simp only[Bool.false_eq_true,if_false,if_true] at aT aG
    go_wp2
    refine⟨zgC hlt (by go_num) (SB.o _ _ _ HB.o) (aa.o.other (by omega) _ _) (ab.o.set (k:=1) (by simp) (.int .i64 (if s.h<gv then s.h else gv))) (nxA _ _) (by rw[ac.o,b1];rfl) (by rw[ae.o,b2,if_pos rfl,zmE]),?_⟩
    simp[intOf];omega
   .simp only[Bool.false_eq_true,if_false,if_true] at aT aG
    go_wp2
    refine⟨zgC hlt (by go_num) (SB.o _ _ _ HB.o) (aa.o.other (by omega) _ _) (ab.o.set (k:=0) (by simp) (.int .i64 (if sv<s.h then s.h else sv))) (nxA _ _) (by rw[ac.o,b1,if_pos rfl,zmF]) (by rw[ae.o,b2];rfl),?_⟩
    simp[intOf];omega
   .simp only[if_true] at aT aG
    go_wp2
    refine⟨zgC hlt (by go_num) (SB.o _ _ _ (SB.o _ _ _ HB.o)) ((aa.o.other (by omega) _ _).other (by omega) _ _) ((ab.o.set (k:=0) (by simp) (.int .i64 (if sv<s.h then s.h else sv))).set (k:=1) (by simp) (.int .i64 (if s.h<gv then s.h else gv))) (nxA _ _) (by rw[ac.o,b1,if_pos rfl,zmF]) (by rw[ae.o,b2,if_pos rfl,zmE]),?_⟩
    simp[intOf];omega
  .have e1:l.take k=l:=List.take_of_length_le (by omega)
   rw[e1] at ab z0 z1
   have c0:=aa.o.c 0 _ rfl
   have c1:=aa.o.c 1 _ rfl
   have g0:=aa.o.fr 0
   have g1:=aa.o.fr 1
   have am:=aa.o.lt
   go_wp2
   (try simp only[Exit.inBlock,Exit.then])
   refine bodyPost_ret (zaH rfl rfl (zqX (aa.o.setAll [.int .i64 (seenS l p),.int .i64 (goneS l p)] rfl))) rfl ?_
   exact⟨rfl,zac (b:=w.heap.size) (qQ _) [.int .i64 (seenS l p),.int .i64 (goneS l p)] 0 HB.o⟩
theorem zfQ(a b:Int)(w:World):Calls Tryz.prog 86 #[.agg #[.int .i64 a,.int .i64 b]] w (Ret (.bool (decide (b<=a))) w):=by
 go_enter Tryz.func86,Tryz.ntmps86
 go_wp2
 go_ret
 exact zaA rfl (nxA _ _)
theorem zlH{lo hi:Int}{l:List Loan}{k:Nat}(hk:k<l.length):zca lo hi (l.take (k+1))=if 0<ovl (l.getD k ⟨0,0,0⟩) lo hi then((zca lo hi (l.take k)).1 ||| 2 ^ (l.getD k ⟨0,0,0⟩).p.toNat,(zca lo hi (l.take k)).2+ovl (l.getD k ⟨0,0,0⟩) lo hi) else zca lo hi (l.take k):=by
 have hg:l.getD k ⟨0,0,0⟩=l[k]:=by rw[qP,qN hk];rfl
 unfold zca
 rw[hg,List.take_succ_eq_append_getElem hk,List.foldl_append];rfl
theorem znY:∀ s:Fin 64,∀ p:Fin 6,(s.val ||| 2 ^ p.val)<64/\(has s.val p.val=true->s.val ||| 2 ^ p.val=s.val)/\(has s.val p.val=false->s.val ||| 2 ^ p.val=s.val+2 ^ p.val):=by decide +kernel
theorem zqT:∀ s:Fin 64,s.val ||| 64=s.val+64/\s.val ||| 128=s.val+128/\s.val ||| 64 ||| 128=s.val+64+128/\s.val ||| 0=s.val/\s.val ||| 64 ||| 0=s.val+64/\s.val ||| 0 ||| 128=s.val+128:=by decide +kernel
structure SuI(lo hi:Int)(l:List Loan)(k S:Nat)(L:Int):Prop where
 e:zca lo hi (l.take k)=(S,L)
 s:S<64
 l0:0<=L
 l1:L<=1048576*k
def RSp(m:Mt)(p:Nat)(w0:World)(b g:Nat)(sv lv i:Value)(w:World):Prop:=∃(k S:Nat) (L:Int),k<=m.t.loans.length/\i=.int .i64 k/\sv=.int .i64 S/\lv=.int .i64 (min (goneS m.t.looks p) mxH-seenS m.t.looks p-L)/\Below w0.heap.size w0 w/\Bx w b m.cells/\Bx w g [.int .i64 (seenS m.t.looks p),.int .i64 (goneS m.t.looks p)]/\SuI (seenS m.t.looks p) (min (goneS m.t.looks p) mxH) m.t.loans k S L
def zfF(m:Mt)(p:Nat)(w:World)(e:Ending)(w':World):Prop:=
 if goneS m.t.looks p<=seenS m.t.looks p then e=.panicked [{ v:=.iface 274 (.agg #[]),recovered:=false }]/\Below w.heap.size w w' else Ret (.int .i64 (susp m.t.loans m.t.looks p)) w e w'
theorem ziW(m:Mt)(p:Nat)(w:World)(hr:TaleAt w w.heap.size m)(ok:OkT m.t)(hp:p<=62):Calls Tryz.prog 157 #[.agg #[.int .i64 m.t.n,.slice m.A1 m.t.loans.length m.c1,.slice m.A2 m.t.looks.length m.c2,.slice m.A3 m.t.admits.length m.c3],.int .i64 p] w (zfF m p w):=by
 have B0:=qG (nxA w (.cells #[.int .i64 m.t.n,.slice m.A1 m.t.loans.length m.c1,.slice m.A2 m.t.looks.length m.c2,.slice m.A3 m.t.admits.length m.c3] 40))
 have HX:=qG (Bx.new w #[.int .i64 m.t.n,.slice m.A1 m.t.loans.length m.c1,.slice m.A2 m.t.looks.length m.c2,.slice m.A3 m.t.admits.length m.c3] 40)
 have HR:=qG (hr.next B0.o)
 have OK:=qG ok
 have az:=qG hr
 have l1:=ok.lo
 have aG:=ok.n2
 have aH:=ok.n1
 have c0:=HX.o.c 0 _ rfl
 have c1:=HX.o.c 1 _ rfl
 have c2:=HX.o.c 2 _ rfl
 have c3:=HX.o.c 3 _ rfl
 clear hr ok
 have aI:=zeM m.t.looks p
 have aJ:=zi5 (l:=m.t.looks) (k:=p) fun x hx=>(OK.o.look x hx).1.2
 have aK:=zjK m.t.looks p
 have aL:=ze4 (l:=m.t.looks) (k:=p) fun x hx=>(OK.o.look x hx).1.1
 go_enter Tryz.func157,Tryz.ntmps157
 go_wp2_with fail
 generalize w.alloc (.cells #[.int .i64 m.t.n,.slice m.A1 m.t.loans.length m.c1,.slice m.A2 m.t.looks.length m.c2,.slice m.A3 m.t.admits.length m.c3] 40)=V at *
 refine(zeI m.A2 m.c2 m.t.looks m.t.n.toNat p _ HR.o.lk HR.o.l2 (fun x hx=>⟨(OK.o.look x hx).2.1,(OK.o.look x hx).2.2.1⟩) (by omega) hp).mono ?_
 rintro e w1 ⟨rfl,ac⟩
 have B1:=B0.o.trans (ac.mono B0.o.size)
 have X1:=HX.o.next ac
 have aM:=X1.lt
 have n3:=nxA w1 (.cells #[.int .i64 (seenS m.t.looks p),.int .i64 (goneS m.t.looks p)] 171)
 have y3:=Bx.new w1 #[.int .i64 (seenS m.t.looks p),.int .i64 (goneS m.t.looks p)] 171
 have B3:=qG (B1.trans (n3.mono B1.size))
 have X3:=qG (X1.next n3)
 have Y3:=qG y3
 clear ac B1 X1 n3 y3 c0 c1 c2 c3
 go_wp2_with fail
 generalize w1.alloc (.cells #[.int .i64 (seenS m.t.looks p),.int .i64 (goneS m.t.looks p)] 171)=V3 at *
 refine(zfQ _ _ _).mono ?_
 rintro e w4 ⟨rfl,aa⟩
 have B4:=qG (B3.o.trans (aa.mono B3.o.size))
 have X4:=qG (X3.o.next aa)
 have Y4:=qG (Y3.o.next aa)
 obtain⟨gw,ah⟩:∃ gw,gw=w1.heap.size:=⟨_,rfl⟩
 rw[<- ah] at Y4 ⊢
 clear aa ah HX B0 B3 X3 Y3
 by_cases h1:goneS m.t.looks p<=seenS m.t.looks p
 .rw[decide_eq_true h1]
  go_wp2
  exact⟨rfl,by unfold zfF;rw[if_pos (by omega)];exact⟨rfl,B4.o⟩⟩
 .rw[decide_eq_false h1]
  have HE:=qG (show zfF m p w=Ret (.int .i64 (susp m.t.loans m.t.looks p)) w from by funext e w';unfold zfF;rw[if_neg h1])
  have HD:=qG (show susp m.t.loans m.t.looks p=(zca (seenS m.t.looks p) (min (goneS m.t.looks p) mxH) m.t.loans).1 ||| (if(zca (seenS m.t.looks p) (min (goneS m.t.looks p) mxH) m.t.loans).2<min (goneS m.t.looks p) mxH-seenS m.t.looks p then 64 else 0) ||| (if goneS m.t.looks p=mxH+1 then 128 else 0) from by unfold susp;rw[if_neg h1])
  have ai:=qG (show ∀(sv lv i:Value) (W:World),RSp m p w w.heap.size gw sv lv i W->∃(k S:Nat) (L:Int),k<=m.t.loans.length/\i=.int .i64 k/\sv=.int .i64 S/\lv=.int .i64 (min (goneS m.t.looks p) mxH-seenS m.t.looks p-L)/\Below w.heap.size w W/\Bx W w.heap.size m.cells/\Bx W gw [.int .i64 (seenS m.t.looks p),.int .i64 (goneS m.t.looks p)]/\SuI (seenS m.t.looks p) (min (goneS m.t.looks p) mxH) m.t.loans k S L from fun _ _ _ _ h=>h)
  have ab:=qG (show ∀(k S:Nat) (L:Int) (sv lv i:Value) (W:World),k<=m.t.loans.length->i=.int .i64 k->sv=.int .i64 S->lv=.int .i64 (min (goneS m.t.looks p) mxH-seenS m.t.looks p-L)->Below w.heap.size w W->Bx W w.heap.size m.cells->Bx W gw [.int .i64 (seenS m.t.looks p),.int .i64 (goneS m.t.looks p)]->SuI (seenS m.t.looks p) (min (goneS m.t.looks p) mxH) m.t.loans k S L->RSp m p w w.heap.size gw sv lv i W from fun k S L _ _ _ _ h1 h2 h3 h4 h5 h6 h7 h8=>⟨k,S,L,h1,h2,h3,h4,h5,h6,h7,h8⟩)
  have y0:=Y4.o.c 0 _ rfl
  have y1:=Y4.o.c 1 _ rfl
  have c1:=X4.o.c 1 _ rfl
  have hz:=X4.o.lt
  have aj:=Y4.o.lt
  generalize seenS m.t.looks p=lo at *
  generalize goneS m.t.looks p=gv at *
  have hm:mxH=1048576:=rfl
  obtain⟨E,hE⟩:∃ E,E=min gv mxH:=⟨_,rfl⟩
  have w4:wrap64 (E-lo)=E-lo:=IntWalk.wrap64_in _ (by omega)
  have ak:E=(if 1048576<gv then 1048576 else gv):=by rw[hE,hm];split <;> omega
  rw[<- hE] at HD ai ab
  have aN:lo<=E/\E<=1048576:=by omega
  have aA:=qG hE
  clear hE
  go_upto_region 5 with fail
  rw[<- ak]
  clear ak w4
  go_wp2
  go_loopw [4,6,27] (fun sv lv i wr=>RSp m p w w.heap.size gw sv lv i wr) (fun _ _ i _=>m.t.loans.length-(intOf i).toNat)
  case atStart=>exact ab.o 0 0 0 _ _ _ _ (by omega) rfl rfl (by rw[Int.sub_zero]) B4.o X4.o Y4.o ⟨rfl,by omega,by omega,by omega⟩
  case round=>
   obtain⟨k,S,L,hk,rfl,rfl,rfl,hb,hx,hy,hI⟩:=ai.o _ _ _ _ hrel
   clear hrel y0 y1 c1 hz aj
   have hz:=hx.lt
   have aj:=hy.lt
   have y0:=hy.c 0 _ rfl
   have y1:=hy.c 1 _ rfl
   have HB:=qG hb
   have HX:=qG hx
   have HY:=qG hy
   have HI:=qG hI
   have hS:=hI.s
   have aO:=hI.l0
   have aP:=hI.l1
   clear hx hy hI
   by_cases hlt:k<m.t.loans.length
   .obtain⟨b,off,e,aB,g0,g1,g2⟩:=zkY (az.o.lo.below hb) hlt
    have aC:b<wr.heap.size:=qM aB hb.size
    have HG:=OK.o.lent.good _ (zdv (d:=⟨0,0,0⟩) hlt)
    have ae:=qG (zlH (lo:=lo) (hi:=E) hlt)
    generalize m.t.loans.getD k ⟨0,0,0⟩=x at *
    clear hb
    generalize m.A1=A1 at *
    subst e
    go_upto_region 9 with (go_quiet (fail))
    have n5:=nxA wr (.cells #[.int .i64 x.p,.int .i64 x.a,.int .i64 x.b] 67)
    have am:=qG (HB.o.trans (n5.mono HB.o.size))
    have an:=qG (HX.o.next n5)
    have ao:=qG (HY.o.next n5)
    have x5:=Bx.new wr #[.int .i64 x.p,.int .i64 x.a,.int .i64 x.b] 67
    generalize wr.alloc (.cells #[.int .i64 x.p,.int .i64 x.a,.int .i64 x.b] 67)=W2 at *
    have aQ:=x5.lt
    have q0:=x5.c 0 _ rfl
    have hm:mxH=1048576:=rfl
    obtain⟨mn,af⟩:∃ mn,mn=(if gv<x.b then gv else x.b):=⟨_,rfl⟩
    obtain⟨mx,ag⟩:∃ mx,mx=(if x.a<lo then lo else x.a):=⟨_,rfl⟩
    rw[<- af,<- ag]
    have e1:mn=min x.b E:=by have:=aA.o;have hm:mxH=1048576:=rfl;rw[af];split <;> omega
    have e2:mx=max x.a lo:=by rw[ag];split <;> omega
    have aq:ovl x lo E=mn-mx:=by unfold ovl;rw[e1,e2]
    have ar:wrap64 (mn-mx)=mn-mx:=IntWalk.wrap64_in _ (by omega)
    rw[ar]
    obtain⟨P,hP⟩:∃ P:Nat,x.p=P:=⟨x.p.toNat,by omega⟩
    have aD:P<6:=by omega
    have au:x.p.toNat=P:=by omega
    rw[aq,au,HI.o.e] at ae
    rw[hP] at q0 ⊢
    have aR:-1048576<=mn-mx/\mn-mx<=1048576:=by omega
    obtain⟨o1,o2,o3⟩:=znY ⟨S,hS⟩ ⟨P,aD⟩
    dsimp only at o1 o2 o3
    have aw:2 ^ P<=32:=Nat.pow_le_pow_right (by decide) (show P<=5 by omega)
    have aE:=qG (show bits BinOp.or IntKind.i64 (S:Int) (wrap64 (2 ^ P))=((S ||| 2 ^ P:Nat):Int) from by
     obtain⟨T,hT⟩:∃ T:Nat,T=2 ^ P:=⟨_,rfl⟩
     have aF:T<=32:=by rw[hT];exact aw
     rw[show((2:Int) ^ P)=(T:Int) by rw[hT];push_cast;rfl,<- hT,IntWalk.wrap64_in _ (by omega)]
     exact zcm _ _ (by omega) (by omega))
    have HO:=qG o1
    clear af ag e1 e2 aq ar HG hP au o1 o2 o3 g0 g1 g2 aC x5 n5 aw
    generalize mn-mx=nn at *
    by_cases hn:0<nn
    .have ax:=qG (ae.o.trans (if_pos hn))
     go_wp2
     refine⟨ab.o (k+1) (S ||| 2 ^ P) (L+nn) _ _ _ _ (by omega) (by go_num) (by rw[aE.o]) (by rw[show E-lo-L-nn=E-lo-(L+nn) by omega]) am.o an.o ao.o ⟨ax.o,HO.o,by omega,by push_cast;omega⟩,by simp[intOf];omega⟩
    .have ay:=qG (ae.o.trans (if_neg hn))
     go_wp2
     refine⟨ab.o (k+1) S L _ _ _ _ (by omega) (by go_num) rfl rfl am.o an.o ao.o ⟨ay.o,hS,by omega,by push_cast;omega⟩,by simp[intOf];omega⟩
   .have e1:m.t.loans.take k=m.t.loans:=List.take_of_length_le (by omega)
    have hle:=HI.o.e
    rw[e1] at hle
    rw[hle] at HD
    dsimp only at HD
    obtain⟨o1,o2,o3,o4,o5,o6⟩:=zqT ⟨S,hS⟩
    dsimp only at o1 o2 o3 o4 o5 o6
    have HO:=qG (And.intro o1 (And.intro o2 (And.intro o3 (And.intro o4 (And.intro o5 o6)))))
    have b1:=qG (show bits BinOp.or IntKind.i64 (S:Int) 64=((S ||| 64:Nat):Int) from zcm S 64 (by omega) (by omega))
    have b2:=qG (show bits BinOp.or IntKind.i64 (S:Int) 128=((S ||| 128:Nat):Int) from zcm S 128 (by omega) (by omega))
    have b3:=qG (show bits BinOp.or IntKind.i64 ((S ||| 64:Nat):Int) 128=((S ||| 64 ||| 128:Nat):Int) from zcm (S ||| 64) 128 (by omega) (by omega))
    have hm:mxH=1048576:=rfl
    rw[hm] at HD
    clear hle e1 o1 o2 o3 o4 o5 o6
    by_cases hA:0<E-lo-L <;> by_cases hB:gv=1048577
    .have HF:=qG (show susp m.t.loans m.t.looks p=S ||| 64 ||| 128 from by rw[HD.o,if_pos (by omega),if_pos (by omega)])
     go_wp2
     go_ret
     rw[HE.o]
     exact zdY (by rw[b1.o,b3.o,HF.o]) HB.o
    .have HF:=qG (show susp m.t.loans m.t.looks p=S ||| 64 from by rw[HD.o,if_pos (by omega),if_neg (by omega)];exact Nat.or_zero _)
     go_wp2
     go_ret
     rw[HE.o]
     exact zdY (by rw[b1.o,HF.o]) HB.o
    .have HF:=qG (show susp m.t.loans m.t.looks p=S ||| 128 from by rw[HD.o,if_neg (by omega),if_pos (by omega),Nat.or_zero])
     go_wp2
     go_ret
     rw[HE.o]
     exact zdY (by rw[b2.o,HF.o]) HB.o
    .have HF:=qG (show susp m.t.loans m.t.looks p=S from by rw[HD.o,if_neg (by omega),if_neg (by omega),Nat.or_zero];exact Nat.or_zero _)
     go_wp2
     go_ret
     rw[HE.o]
     exact zdY (by rw[HF.o]) HB.o
end Le
end Go.Proofs.YtankkcbofgighaaGreatDoor
