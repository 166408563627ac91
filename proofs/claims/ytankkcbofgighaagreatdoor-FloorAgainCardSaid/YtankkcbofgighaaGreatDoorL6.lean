import Derived.Test.YtankkcbofgighaaGreatDoorL3
import Derived.Deep.AppendLies
import Derived.Deep.RegionHeld3
import Derived.Handy
import Derived.Deep.DeepCutAuto
import Derived.OrdersHeld
import Derived.DeepKeys3
import Derived.Maps.RangeWalk
import Derived.WideKeyEntry
import Derived.RangeFuncNested
import Derived.RangeFuncBound
import Derived.RangeFuncCalls
import Derived.RangeFuncLeaves
import Derived.OrdersIn
import Derived.WalkKit
import Derived.OwnWalkIn
import Derived.TacticsInMore
import Derived.LoopNIn
import Derived.LoopIn
set_option linter.all false
set_option maxRecDepth 100000
set_option maxHeartbeats 40000000
namespace Go.Proofs.YtankkcbofgighaaGreatDoor
namespace Ru
open Go.RowKit
structure Bx(W:World)(b:Nat)(vs:List Value):Prop where
 lt:b<W.heap.size
 c:∀ j u,vs[j]?=some u->W.cell? ⟨b,j,none⟩=some u
 fr:∀ j,W.frozen? ⟨b,j,none⟩=false
theorem Bx.new(w:World)(vs:Array Value)(t:TypeId):Bx (w.alloc (.cells vs t)) w.heap.size vs.toList:=by
 refine⟨by simp,fun j u hu=>?_,fun j=>by simp[go_sem]⟩
 rw[cell_of_row _ _ _ _ t (0,0) (heap_alloc_new w _)]
 simpa using hu
theorem Bx.below{W W':World}{b B:Nat}{vs:List Value}(h:Bx W b vs)(hb:Below B W W')(hB:b<B):Bx W' b vs:=
 ⟨qM h.lt hb.size,fun j u hu=>(hb.cell (p:=⟨b,j,none⟩) hB).trans (h.c j u hu),fun j=>(hb.frozen (p:=⟨b,j,none⟩) hB).trans (h.fr j)⟩
theorem Bx.next{W W':World}{b:Nat}{vs:List Value}(h:Bx W b vs)(hb:Below W.heap.size W W'):Bx W' b vs:=h.below hb h.lt
theorem nxA(W:World)(o:Obj):Below W.heap.size W (W.alloc o):=(Below.refl _ _).alloc (qQ _) _
theorem DieAt.at{W:World}{B:Nat}{d:Die}(h:DieAt W B d){k:Nat}(hk:k<d.blades.length):∃ b off,d.A=some ⟨b,off,none⟩/\b<B/\W.cell? ⟨b,off+k*4,none⟩=some (.int .i64 (bladeAt d k).fl)/\W.cell? ⟨b,off+k*4+1,none⟩=some (.int .i64 (bladeAt d k).fh)/\W.cell? ⟨b,off+k*4+2,none⟩=some (.int .i64 (bladeAt d k).wl)/\W.cell? ⟨b,off+k*4+3,none⟩=some (.int .i64 (bladeAt d k).wh):=by
 obtain⟨b,off,e,hb,hc⟩:=h.bl k _ (zkF hk)
 exact⟨b,off,e,hb,hc 0 _ rfl,hc 1 _ rfl,hc 2 _ rfl,hc 3 _ rfl⟩
def setCells(W:World)(b:Nat):Nat->List Value->World
|_,[]=>W
|j,v :: vs=>setCells (W.setCell ⟨b,j,none⟩ v) b (j+1) vs
theorem zay(b:Nat):∀(vs:List Value) (j:Nat) (W:World),(setCells W b j vs).heap.size=W.heap.size
|[],_,_=>rfl
|_ :: vs,j,_=>(zay b vs (j+1) _).trans (World.size_setCell _ _ _)
theorem zba(b:Nat):∀(vs:List Value) (j:Nat) (W:World) (i:Nat),(∀ k,k<vs.length->(W.cell? ⟨b,j+k,none⟩).isSome=true)->(setCells W b j vs).cell? ⟨b,i,none⟩=if j<=i/\i<j+vs.length then vs[i-j]? else W.cell? ⟨b,i,none⟩
|[],j,W,i,_=>by rw[if_neg (by simp only[List.length_nil];omega)];rfl
|v :: vs,j,W,i,h=>by
  have ih:=zba b vs (j+1) (W.setCell ⟨b,j,none⟩ v) i (fun k hk=>by
   rw[qA _ _ _ _ (by intro e;injection e with _ e2;omega)]
   have:=h (k+1) (by simpa using hk)
   rw[show j+(k+1)=j+1+k by omega] at this;exact this)
  show(setCells (W.setCell ⟨b,j,none⟩ v) b (j+1) vs).cell? ⟨b,i,none⟩=_
  rw[ih]
  by_cases e:i=j
  .subst e
   rw[if_neg (by omega),if_pos (by simp),Nat.sub_self]
   exact World.cell?_setCell_same' _ _ _ (h 0 (by simp))
  .rw[qA _ _ _ _ (by intro e';injection e' with _ e2;exact e e2.symm)]
   by_cases h1:j<=i/\i<j+(v :: vs).length
   .have h2:j+1<=i/\i<j+1+vs.length:=by simp at h1;omega
    rw[if_pos h1,if_pos h2,show i-j=(i-(j+1))+1 by omega];rfl
   .have h2:¬(j+1<=i/\i<j+1+vs.length):=by simp at h1;omega
    rw[if_neg h1,if_neg h2]
theorem za1(b:Nat):∀(vs:List Value) (j:Nat) (W:World) (g i:Nat),g≠b->(setCells W b j vs).cell? ⟨g,i,none⟩=W.cell? ⟨g,i,none⟩
|[],_,_,_,_,_=>rfl
|_ :: vs,j,_,g,i,h=>(za1 b vs (j+1) _ g i h).trans (qA _ _ _ _ (by intro e;injection e with e;exact h e.symm))
theorem zaE(b:Nat):∀(vs:List Value) (j:Nat) (W:World) (g i:Nat),(setCells W b j vs).frozen? ⟨g,i,none⟩=W.frozen? ⟨g,i,none⟩
|[],_,_,_,_=>rfl
|_ :: vs,j,_,g,i=>(zaE b vs (j+1) _ g i).trans (World.frozen?_setCell _ _ _ _)
theorem zac{B:Nat}{V:World}{b:Nat}(hb:B<=b):∀(vs:List Value) (j:Nat) {W:World},Below B V W->Below B V (setCells W b j vs)
|[],_,_,h=>h
|v :: vs,j,_,h=>zac hb vs (j+1) (h.setCell (p:=⟨b,j,none⟩) hb v)
theorem Bx.setAll{W:World}{b:Nat}{vs:List Value}(h:Bx W b vs)(ws:List Value)(hl:ws.length=vs.length):Bx (setCells W b 0 ws) b ws:=by
 refine⟨by rw[zay];exact h.lt,fun j u hu=>?_,fun j=>(zaE b ws 0 W b j).trans (h.fr j)⟩
 have hj:j<ws.length:=(qO.1 hu).1
 rw[zba b ws 0 W j (fun k hk=>by
  have aa:k<vs.length:=by omega
  rw[Nat.zero_add,h.c k _ (qN aa)];rfl),if_pos (by omega)]
 exact hu
theorem Bx.setOther{W:World}{b g:Nat}{vs:List Value}(h:Bx W b vs)(hg:b≠g)(ws:List Value)(j:Nat):Bx (setCells W g j ws) b vs:=
 ⟨by rw[zay];exact h.lt,fun i u hu=>(za1 g ws j W b i hg).trans (h.c i u hu),fun i=>(zaE g ws j W b i).trans (h.fr i)⟩
theorem zah{fn:Func}{p t:Tmp}{ty:TypeId}(h:fn.results=#[.cell p ty,.tmp t]){tmps:Array Value}{P:Program}{w:World}{a:Addr}{v:Value}(hp:tmps.getD p undef=.pointer (some a))(hv:(loadVar ty a).run P w=.ok v w) :
  (results fn tmps).run P w=.ok (.tuple #[v,tmps.getD t undef]) w:=by
 have aa:tmps[p]?.getD undef=.pointer (some a):=by simpa using hp
 simp[results,h,aa,asAddr,hv,Result.andThen]
theorem zbB{fn:Func}{p q:Tmp}{ty ty':TypeId}(h:fn.results=#[.cell p ty,.cell q ty']){tmps:Array Value}{P:Program}{w:World}{a b:Addr}{v u:Value}(hp:tmps.getD p undef=.pointer (some a))(hq:tmps.getD q undef=.pointer (some b))(hv:(loadVar ty a).run P w=.ok v w)(hu:(loadVar ty' b).run P w=.ok u w) :
  (results fn tmps).run P w=.ok (.tuple #[v,u]) w:=by
 have aa:tmps[p]?.getD undef=.pointer (some a):=by simpa using hp
 have ab:tmps[q]?.getD undef=.pointer (some b):=by simpa using hq
 simp[results,h,aa,ab,asAddr,hv,hu,Result.andThen]
section
variable {P:Program} {md:Region.Mode} {ops:Array Oper} {Q:Exit->Act->World->Prop} {S:World->Prop}
theorem zaf{i:Nat}{oi:Oper}{v:Value}{fuel:Nat}{listed:Array Bool}{a:Act}{w:World}(hi:ops.toList[i]?=some oi)
  (hs:Region.noSelect ops=true) (hf:Region.free md ops listed i=true) (hr:(Region.ready md ops listed).contains i=true)
  (hQ:∀ c a w,Q (.panic c) (a.put oi.dst v) w->Q (.panic c) a w) (hy:YieldsIf P ops S oi v a) (hS:S w)
  (h:wpAnyH P md ops Q S fuel (listed.setIfInBounds i true) (a.put oi.dst v) w):wpAnyH P md ops Q S (fuel+1) listed a w:=
 wpAnyH_take (by simpa using hi) hs hf hr hQ hy hS h
theorem ht{v:Value}{oi:Oper}{fuel:Nat}{listed:Array Bool}{a a':Act}{w:World}(i:Nat)(hi:ops.toList[i]?=some oi:=by rfl)
  (hs:Region.noSelect ops=true:=by kernel_rfl) (hf:Region.free md ops listed i=true:=by kernel_rfl) (hr:(Region.ready md ops listed).contains i=true:=by kernel_rfl)
  (hw:Region.wanted oi (yielded ops a.tmps)=true:=by rfl)
  (hy:∀ w,S w->(execOp a.eval oi).run P w=.ok (.value v) w:=by(intro w aa;(try dsimp only at aa);go_simp;try (with_reducible rfl)))
  (ha:a.put oi.dst v=a':=by((try simp only[qW]);rfl))
  (hS:S w:=by assumption) (h:wpAnyH P md ops Q S fuel (listed.setIfInBounds i true) a' w)
  (hQ:∀ c a w,Q (.panic c) (a.put oi.dst v) w->Q (.panic c) a w:=by exact fun _ _ _ h=>h):wpAnyH P md ops Q S (fuel+1) listed a w:=
 zaf hi hs hf hr hQ (.inl ⟨hw,hy⟩) hS (by rw[ha];exact h)
theorem zab{fuel:Nat}{listed:Array Bool}{a:Act}{w:World}{i:Nat}{o:Oper}{rs:List Nat}(ho:ops.toList[i]?=some o)
  (h:∀ K':Act->World->Prop,Shut (∀ a w,S w->(S w->wpAnyH P md ops Q S fuel (listed.setIfInBounds i true) a w)->K' a w)->if Region.wanted o (yielded ops a.tmps)=true then Oper.wp P o a w K' Q else K' (a.put o.dst undef) w)
  (hs:AllReadyH P md ops Q S fuel listed a w rs):AllReadyH P md ops Q S fuel listed a w (i :: rs):=AllReadyH.cons (by simpa using ho) h hs
theorem r1{fuel:Nat}{listed:Array Bool}{a:Act}{w:World}{i:Nat}{o:Oper}(hr:Region.ready md ops listed=[i])(ho:ops.toList[i]?=some o)(h:∀ K':Act->World->Prop,Shut (∀ a w,S w->(S w->wpAnyH P md ops Q S fuel (listed.setIfInBounds i true) a w)->K' a w)->if Region.wanted o (yielded ops a.tmps)=true then Oper.wp P o a w K' Q else K' (a.put o.dst undef) w):wpAnyH P md ops Q S (fuel+1) listed a w:=wpAnyH_ready hr (by simp) (zab ho h .nil)
end
def zdZ(x:(Int×Int)×Int):Value:=.tuple #[.agg #[.int .i64 x.1.1,.int .i64 x.1.2],.int .i64 x.2]
def zbI(b:Blade):Bool:=!Blade.ok b
def zeb(b:Bool)(w:World)(e:Ending)(w':World):Prop:=∃ r:Int,e=.returned (.int .i64 r)/\decide (0<=r)=b/\Below w.heap.size w w'
theorem zcH{α:Type}{l:List α}{p:α->Bool}(h:l.all (fun x=>!p x)=true):l.any p=false:=by
 rw[List.any_eq_false]
 intro x hx e
 have:=List.all_eq_true.1 h x hx
 simp[e] at this
theorem zam(a b c:Int)(w:World):Calls Tryz.prog 81 #[.int .i64 a,.int .i64 b,.int .i64 c] w (RetQ (.bool (inS a b c)) w):=by
 go_enter Tryz.func81,Tryz.ntmps81
 go_wp2
 all_goals (go_ret;refine zbM ?_;unfold inS;rw[Bool.eq_iff_iff];simp;try omega)
theorem zlK(l h a b:Int)(w:World) :
  Calls Tryz.prog 146 #[.agg #[.int .i64 l,.int .i64 h],.int .i64 a,.int .i64 b] w (Ret (.bool (zc7 l h a b)) w):=by
 go_enter Tryz.func146,Tryz.ntmps146
 go_wp2
 all_goals (go_ret;refine zaA ?_ ((Below.refl _ _).alloc (qQ _) _);unfold zc7;rw[Bool.eq_iff_iff];simp;try omega)
theorem zkj(x:Blade)(w:World):Calls Tryz.prog 145 #[.agg #[.int .i64 x.fl,.int .i64 x.fh,.int .i64 x.wl,.int .i64 x.wh]] w (Ret (.bool (zbI x)) w):=by
 have Hk:=qG (show Blade.ok x=(zc7 x.fl x.fh 0 10000&&zc7 x.wl x.wh 0 10000) from rfl)
 have aa:=(Below.refl w.heap.size w).alloc (qQ _) (.cells #[.int .i64 x.fl,.int .i64 x.fh,.int .i64 x.wl,.int .i64 x.wh] 114)
 go_enter Tryz.func145,Tryz.ntmps145
 rcases zng (zc7 x.fl x.fh 0 10000) (zc7 x.wl x.wh 0 10000) with a1|⟨a1,a2⟩|⟨a1,a2⟩
 all_goals
  go_wp2_with (go_at_call 146;(with_reducible refine(zlK _ _ _ _ _).mono ?_);rintro e w1 ⟨rfl,ab⟩;obtain⟨ac,ae⟩:=zhi ab;have af:=ab.size;replace aa:=aa.trans (ab.mono (by first|simp|(have:=aa.size;simp at *;omega))))
  go_ret
  exact zaA (by unfold zbI;rw[Hk.o];simp[*]) aa
def zhm(l:List Blade)(p:Blade->Bool)(w0:World)(i:Value)(w:World):Prop:=∃ k:Nat,k<=l.length/\i=.int .i64 k/\Below w0.heap.size w0 w/\(l.take k).all (fun x=>!p x)=true
theorem zhE(A:Option Addr)(c:Nat)(l:List Blade)(w:World)(h:At w w.heap.size 4 Blade.cells A l)(hl:l.length<=9223372036854775807) :
  Calls Tryz.prog 211 #[.slice A l.length c,.func (.func 145) #[] #[]] w (zeb (l.any zbI) w):=by
 go_enter Tryz.func211,Tryz.ntmps211
 go_wp2
 go_loopw [8] (fun i wr=>zhm l zbI w i wr) (fun i _=>l.length-(intOf i).toNat)
 case atStart=>exact⟨0,by omega,rfl,Below.refl _ _,rfl⟩
 case round=>
  obtain⟨k,hk,rfl,hb,ab⟩:=hrel
  by_cases hlt:k<l.length
  .obtain⟨b,off,rfl,af,aa⟩:=h.below hb k l[k] (qN hlt)
   have h0:=aa 0 _ rfl
   have h1:=aa 1 _ rfl
   have h2:=aa 2 _ rfl
   have h3:=aa 3 _ rfl
   simp only[Nat.add_zero] at h0
   have ag:Below wr.heap.size wr wr:=Below.refl _ _
   have Hb:=qG hb
   have Ha:=qG (zbO (p:=fun x=>!zbI x) hlt ab)
   have Hf:=qG (show zbI l[k]=true->l.any zbI=true from fun e=>List.any_eq_true.2 ⟨_,List.getElem_mem hlt,e⟩)
   generalize l[k]=x at *
   clear ab h aa hb
   go_wp2_with fail
   refine(zkj x wr).mono ?_
   rintro e w1 ⟨rfl,ae⟩
   have ac:=qG (Hb.o.trans (ae.mono Hb.o.size))
   generalize hq:zbI x=q
   rw[hq] at Ha Hf
   clear ae
   cases q
   .go_wp2
    all_goals (first|(refine⟨?_,?_⟩;(unfold zhm;exact⟨k+1,by omega,by go_num,ac.o,Ha.o (by simp)⟩);(simp[intOf];omega))|(go_roundw;(case rel=>(unfold zhm;exact⟨k+1,by omega,by go_num,ac.o,Ha.o (by simp)⟩));(case measure=>(simp[intOf];omega)))|(go_round;(case rel=>(unfold zhm;exact⟨k+1,by omega,by go_num,ac.o,Ha.o (by simp)⟩));(case measure=>(simp[intOf];omega))))
   .go_wp2
    go_ret
    exact⟨_,rfl,by rw[Hf.o (by simp)];simp,ac.o⟩
  .have e:=zbP hlt ab
   go_wp2
   go_ret
   refine⟨_,rfl,?_,hb⟩
   rw[show l.any zbI=false from zcH e]
   simp
theorem zfJ(A:Option Addr)(c:Nat)(l:List Blade)(w:World)(h:At w w.heap.size 4 Blade.cells A l)(hl:l.length<=9223372036854775807) :
  Calls Tryz.prog 147 #[.slice A l.length c,.func (.func 145) #[] #[]] w (Ret (.bool (l.any zbI)) w):=by
 go_enter Tryz.func147,Tryz.ntmps147
 go_wp2_with fail
 refine(zhE  _ _ _ _ h hl).mono ?_
 rintro e w1 ⟨r,rfl,hr,aa⟩
 have Hb:=qG aa
 have Hr:=qG hr
 clear aa hr
 by_cases h0:0<=r
 .go_wp2
  go_ret
  exact zaA (by rw[<- Hr.o];first|done|simp[h0]) Hb.o
 .go_wp2
  go_ret
  exact zaA (by rw[<- Hr.o];first|done|simp[h0]) Hb.o
theorem zkm(l:List Blade):l.any zbI=!l.all Blade.ok:=by
 rw[List.all_eq_not_any_not,Bool.not_not];rfl
theorem zic(d:Die)(w:World)(hr:DieAt w w.heap.size d):Calls Tryz.prog 80 #[.agg #[.slice d.A d.blades.length d.c,.int .i64 d.bound,.int .i64 d.stop,.int .i64 d.bend]] w (Ret (.bool (dieS d)) w):=by
 have HD:=qG (show dieS d=(d.blades.all Blade.ok&&(inS d.blades.length 1 5&&(inS d.bound 0 100000&&(inS d.stop 0 10000&&inS d.bend 0 10000)))) from rfl)
 have Hb:=qG (nxA w (.cells #[.slice d.A d.blades.length d.c,.int .i64 d.bound,.int .i64 d.stop,.int .i64 d.bend] 24))
 have Hr:=qG (hr.next Hb.o)
 clear hr
 go_enter Tryz.func80,Tryz.ntmps80
 rcases zkg (inS d.stop 0 10000) (inS d.bend 0 10000) (inS d.blades.length 1 5) (inS d.bound 0 100000) with a1|⟨a1,a2⟩|⟨a1,a2,a3⟩|⟨a1,a2,a3,a4⟩|⟨a1,a2,a3,a4⟩
 rotate_right
 .have A:=qG (show dieS d=d.blades.all Blade.ok by rw[HD.o,a1,a2,a3,a4];simp)
  go_wp2_with (first|(go_at_call 81;(with_reducible refine(zam _ _ _ _).mono ?_);rintro e w' ⟨rfl,rfl⟩)|fail)
  refine(zfJ _ _ _ _ Hr.o.bl Hr.o.l1).mono ?_
  rintro e w1 ⟨rfl,aa⟩
  have HB:=qG (Hb.o.trans (aa.mono (by simp)))
  clear aa
  go_wp2
  go_ret
  exact zaA (by rw[A.o,zkm,Bool.not_not]) HB.o
 all_goals
  go_wp2_with (go_at_call 81;(with_reducible refine(zam _ _ _ _).mono ?_);rintro e w' ⟨rfl,rfl⟩)
  go_ret
  exact zaA (by rw[HD.o];simp[*]) Hb.o
theorem zep{w:World}{b:Nat}{a0 a1:Value}(h:Bx w b [a0,a1]):(loadVar 61 ⟨b,0,none⟩).run Tryz.prog w=.ok (.agg #[a0,a1]) w:=by
 have c0:=h.c 0 _ rfl
 have c1:=h.c 1 _ rfl
 clear h
 go_simp
def zec:List Value:=[.int .i64 0,.int .i64 0]
end Ru
namespace Cu
open Go.RowKit
structure Bx(W:World)(b:Nat)(vs:List Value):Prop where
 lt:b<W.heap.size
 c:∀ j u,vs[j]?=some u->W.cell? ⟨b,j,none⟩=some u
 fr:∀ j,W.frozen? ⟨b,j,none⟩=false
theorem Bx.new(w:World)(vs:Array Value)(t:TypeId):Bx (w.alloc (.cells vs t)) w.heap.size vs.toList:=by
 refine⟨by simp,fun j u hu=>?_,fun j=>by simp[go_sem]⟩
 rw[cell_of_row _ _ _ _ t (0,0) (heap_alloc_new w _)]
 simpa using hu
theorem Bx.below{W W':World}{b B:Nat}{vs:List Value}(h:Bx W b vs)(hb:Below B W W')(hB:b<B):Bx W' b vs:=
 ⟨qM h.lt hb.size,fun j u hu=>(hb.cell (p:=⟨b,j,none⟩) hB).trans (h.c j u hu),fun j=>(hb.frozen (p:=⟨b,j,none⟩) hB).trans (h.fr j)⟩
theorem Bx.next{W W':World}{b:Nat}{vs:List Value}(h:Bx W b vs)(hb:Below W.heap.size W W'):Bx W' b vs:=h.below hb h.lt
theorem Bx.drew{W:World}{b:Nat}{vs:List Value}(h:Bx W b vs):Bx W.drew b vs:=⟨h.lt,h.c,h.fr⟩
theorem zb4{W:World}{B:Nat}{A:Option Addr}{l:List Int}(h:At W B 1 zad A l){k:Nat}(hk:k<l.length):∃ b off,A=some ⟨b,off,none⟩/\b<B/\W.cell? ⟨b,off+k,none⟩=some (.int .i64 (l.getD k 0)):=by
 obtain⟨b,off,e,hb,hc⟩:=h k (l.getD k 0) (by rw[qP,qN hk];rfl)
 refine⟨b,off,e,hb,?_⟩
 have:=hc 0 _ rfl
 rw[Nat.mul_one] at this
 exact this
def setCells(W:World)(b:Nat):Nat->List Value->World
|_,[]=>W
|j,v :: vs=>setCells (W.setCell ⟨b,j,none⟩ v) b (j+1) vs
theorem zay(b:Nat):∀(vs:List Value) (j:Nat) (W:World),(setCells W b j vs).heap.size=W.heap.size
|[],_,_=>rfl
|_ :: vs,j,_=>(zay b vs (j+1) _).trans (World.size_setCell _ _ _)
theorem zba(b:Nat):∀(vs:List Value) (j:Nat) (W:World) (i:Nat),(∀ k,k<vs.length->(W.cell? ⟨b,j+k,none⟩).isSome=true)->(setCells W b j vs).cell? ⟨b,i,none⟩=if j<=i/\i<j+vs.length then vs[i-j]? else W.cell? ⟨b,i,none⟩
|[],j,W,i,_=>by rw[if_neg (by simp only[List.length_nil];omega)];rfl
|v :: vs,j,W,i,h=>by
  have ih:=zba b vs (j+1) (W.setCell ⟨b,j,none⟩ v) i (fun k hk=>by
   rw[qA _ _ _ _ (by intro e;injection e with _ e2;omega)]
   have:=h (k+1) (by simpa using hk)
   rw[show j+(k+1)=j+1+k by omega] at this;exact this)
  show(setCells (W.setCell ⟨b,j,none⟩ v) b (j+1) vs).cell? ⟨b,i,none⟩=_
  rw[ih]
  by_cases e:i=j
  .subst e
   rw[if_neg (by omega),if_pos (by simp),Nat.sub_self]
   exact World.cell?_setCell_same' _ _ _ (h 0 (by simp))
  .rw[qA _ _ _ _ (by intro e';injection e' with _ e2;exact e e2.symm)]
   by_cases h1:j<=i/\i<j+(v :: vs).length
   .have h2:j+1<=i/\i<j+1+vs.length:=by simp at h1;omega
    rw[if_pos h1,if_pos h2,show i-j=(i-(j+1))+1 by omega];rfl
   .have h2:¬(j+1<=i/\i<j+1+vs.length):=by simp at h1;omega
    rw[if_neg h1,if_neg h2]
theorem zaE(b:Nat):∀(vs:List Value) (j:Nat) (W:World) (g i:Nat),(setCells W b j vs).frozen? ⟨g,i,none⟩=W.frozen? ⟨g,i,none⟩
|[],_,_,_,_=>rfl
|_ :: vs,j,_,g,i=>(zaE b vs (j+1) _ g i).trans (World.frozen?_setCell _ _ _ _)
theorem zac{B:Nat}{V:World}{b:Nat}(hb:B<=b):∀(vs:List Value) (j:Nat) {W:World},Below B V W->Below B V (setCells W b j vs)
|[],_,_,h=>h
|v :: vs,j,_,h=>zac hb vs (j+1) (h.setCell (p:=⟨b,j,none⟩) hb v)
theorem Bx.setAll{W:World}{b:Nat}{vs:List Value}(h:Bx W b vs)(ws:List Value)(hl:ws.length=vs.length):Bx (setCells W b 0 ws) b ws:=by
 refine⟨by rw[zay];exact h.lt,fun j u hu=>?_,fun j=>(zaE b ws 0 W b j).trans (h.fr j)⟩
 have hj:j<ws.length:=(qO.1 hu).1
 rw[zba b ws 0 W j (fun k hk=>by
  have aa:k<vs.length:=by omega
  rw[Nat.zero_add,h.c k _ (qN aa)];rfl),if_pos (by omega)]
 exact hu
theorem Bx.set{W:World}{b:Nat}{vs:List Value}(h:Bx W b vs){k:Nat}(hk:k<vs.length)(v:Value):Bx (W.setCell ⟨b,k,none⟩ v) b (vs.set k v):=by
 refine⟨by rw[World.size_setCell];exact h.lt,fun j u hu=>?_,fun j=>by rw[World.frozen?_setCell];exact h.fr j⟩
 by_cases e:j=k
 .subst e
  rw[List.getElem?_set_self hk] at hu
  injection hu with hu
  subst hu
  exact World.cell?_setCell_same' _ _ _ (by rw[h.c _ _ (qN hk)];rfl)
 .rw[List.getElem?_set_ne (Ne.symm e)] at hu
  rw[qA _ _ _ _ (by intro e';injection e' with _ e2;exact e e2.symm)]
  exact h.c j u hu
theorem Bx.other{W:World}{b g:Nat}{vs:List Value}(h:Bx W b vs)(hg:b≠g)(j:Nat)(v:Value):Bx (W.setCell ⟨g,j,none⟩ v) b vs:=
 ⟨by rw[World.size_setCell];exact h.lt,fun i u hu=>(qA _ _ _ _ (by intro e;injection e with e;exact hg e.symm)).trans (h.c i u hu),fun i=>by rw[World.frozen?_setCell];exact h.fr i⟩
theorem zah{fn:Func}{p t:Tmp}{ty:TypeId}(h:fn.results=#[.cell p ty,.tmp t]){tmps:Array Value}{P:Program}{w:World}{a:Addr}{v:Value}(hp:tmps.getD p undef=.pointer (some a))(hv:(loadVar ty a).run P w=.ok v w) :
  (results fn tmps).run P w=.ok (.tuple #[v,tmps.getD t undef]) w:=by
 have aa:tmps[p]?.getD undef=.pointer (some a):=by simpa using hp
 simp[results,h,aa,asAddr,hv,Result.andThen]
theorem At.nil{α:Type}{w:World}{B size:Nat}{cells:α->List Value}{A:Option Addr}:At w B size cells A ([]:List α):=fun k x h=>by simp at h
theorem zdg{B:Nat}{a w w':World}(h':Below w.heap.size w w')(h:Below B a w)(hB:B<=a.heap.size):Below B a w':=h.trans (h'.mono (Nat.le_trans hB h.size))
section
variable {P:Program} {md:Region.Mode} {ops:Array Oper} {Q:Exit->Act->World->Prop} {S:World->Prop}
theorem zaf{i:Nat}{oi:Oper}{v:Value}{fuel:Nat}{listed:Array Bool}{a:Act}{w:World}(hi:ops.toList[i]?=some oi)
  (hs:Region.noSelect ops=true) (hf:Region.free md ops listed i=true) (hr:(Region.ready md ops listed).contains i=true)
  (hQ:∀ c a w,Q (.panic c) (a.put oi.dst v) w->Q (.panic c) a w) (hy:YieldsIf P ops S oi v a) (hS:S w)
  (h:wpAnyH P md ops Q S fuel (listed.setIfInBounds i true) (a.put oi.dst v) w):wpAnyH P md ops Q S (fuel+1) listed a w:=
 wpAnyH_take (by simpa using hi) hs hf hr hQ hy hS h
theorem ht{v:Value}{oi:Oper}{fuel:Nat}{listed:Array Bool}{a a':Act}{w:World}(i:Nat)(hi:ops.toList[i]?=some oi:=by rfl)
  (hs:Region.noSelect ops=true:=by kernel_rfl) (hf:Region.free md ops listed i=true:=by kernel_rfl) (hr:(Region.ready md ops listed).contains i=true:=by kernel_rfl)
  (hw:Region.wanted oi (yielded ops a.tmps)=true:=by rfl)
  (hy:∀ w,S w->(execOp a.eval oi).run P w=.ok (.value v) w:=by(intro w aa;(try dsimp only at aa);go_simp;try (with_reducible rfl)))
  (ha:a.put oi.dst v=a':=by((try simp only[qW]);rfl))
  (hS:S w:=by assumption) (h:wpAnyH P md ops Q S fuel (listed.setIfInBounds i true) a' w)
  (hQ:∀ c a w,Q (.panic c) (a.put oi.dst v) w->Q (.panic c) a w:=by exact fun _ _ _ h=>h):wpAnyH P md ops Q S (fuel+1) listed a w:=
 zaf hi hs hf hr hQ (.inl ⟨hw,hy⟩) hS (by rw[ha];exact h)
theorem zab{fuel:Nat}{listed:Array Bool}{a:Act}{w:World}{i:Nat}{o:Oper}{rs:List Nat}(ho:ops.toList[i]?=some o)
  (h:∀ K':Act->World->Prop,Shut (∀ a w,S w->(S w->wpAnyH P md ops Q S fuel (listed.setIfInBounds i true) a w)->K' a w)->if Region.wanted o (yielded ops a.tmps)=true then Oper.wp P o a w K' Q else K' (a.put o.dst undef) w)
  (hs:AllReadyH P md ops Q S fuel listed a w rs):AllReadyH P md ops Q S fuel listed a w (i :: rs):=AllReadyH.cons (by simpa using ho) h hs
theorem r1{fuel:Nat}{listed:Array Bool}{a:Act}{w:World}{i:Nat}{o:Oper}(hr:Region.ready md ops listed=[i])(ho:ops.toList[i]?=some o)(h:∀ K':Act->World->Prop,Shut (∀ a w,S w->(S w->wpAnyH P md ops Q S fuel (listed.setIfInBounds i true) a w)->K' a w)->if Region.wanted o (yielded ops a.tmps)=true then Oper.wp P o a w K' Q else K' (a.put o.dst undef) w):wpAnyH P md ops Q S (fuel+1) listed a w:=wpAnyH_ready hr (by simp) (zab ho h .nil)
end
theorem zch:(Tryz.prog.info? 3).map (fun i=>(i.zero,i.size,i.bytes))=some (some (.int .i64 0),1,8):=by kernel_rfl
def mixF:List (Option Nat)->(Nat->Value)->List Value->List Value
|[],_,l=>l
|_ :: _,_,[]=>[]
|some d :: m,f,_ :: l=>f d :: mixF m f l
|none :: m,f,x :: l=>x :: mixF m f l
def mixL:List (Option Nat)->List Value->List Value->List Value
|[],l,_=>l
|_ :: _,[],_=>[]
|_ :: _,x :: l,[]=>x :: l
|some _ :: m,_ :: l,y :: l'=>y :: mixL m l l'
|none :: m,x :: l,_ :: l'=>x :: mixL m l l'
def zcN:Nat->List (Option Nat)->Bool
|_,[]=>true
|i,some d :: m=>Nat.beq d i&&zcN (i+1) m
|i,none :: m=>zcN (i+1) m
def zar(a:Act)(n:Nat):Value:=a.tmps.getD n undef
theorem zdG:∀(m:List (Option Nat)) (l:List Value),mixL m l l=l
|[],l=>by cases l <;> rfl
|o :: m,[]=>by cases o <;> rfl
|some d :: m,x :: l=>by unfold mixL;rw[zdG m l]
|none :: m,x :: l=>by unfold mixL;rw[zdG m l]
theorem zfs:∀(m:List (Option Nat)) (i:Nat) (g:Nat->Value) (l0 l:List Value),zcN i m=true->mixL m l0 l=l->(∀ j x,l[j]?=some x->g (i+j)=x)->mixF m g l0=l
|[],i,g,l0,l,_,h,_=>by unfold mixF;unfold mixL at h;exact h
|o :: m,i,g,[],l,_,h,_=>by
  have h1:mixL (o :: m) [] l=[]:=by cases o <;> rfl
  rw[h1] at h;subst h
  cases o <;> rfl
|o :: m,i,g,x :: l0,[],_,h,_=>by
  have h1:mixL (o :: m) (x :: l0) []=x :: l0:=by cases o <;> rfl
  rw[h1] at h;cases h
|some d :: m,i,g,x :: l0,y :: l,hg,h,hs=>by
  unfold zcN at hg
  rw[Bool.and_eq_true] at hg
  have hd:d=i:=Nat.eq_of_beq_eq_true hg.1
  unfold mixL at h
  unfold mixF
  injection h with h1 h2
  rw[zfs m (i+1) g l0 l hg.2 h2 (fun j z hj=>by have:=hs (j+1) z (by simpa using hj);rw[<- this];congr 1;omega),hd]
  have:=hs 0 y (by simp)
  rw[Nat.add_zero] at this
  rw[this]
|none :: m,i,g,x :: l0,y :: l,hg,h,hs=>by
  unfold zcN at hg
  unfold mixL at h
  unfold mixF
  injection h with h1 h2
  rw[zfs m (i+1) g l0 l hg h2 (fun j z hj=>by have:=hs (j+1) z (by simpa using hj);rw[<- this];congr 1;omega),h1]
theorem zae{l:List Value}{df:List Deferred}{n:Nat}{v:Value}(h:l[n]?=some v):zar ⟨l.toArray,df⟩ n=v:=by
 unfold zar
 show l.toArray.getD n undef=v
 rw[Array.getD_eq_getD_getElem?,List.getElem?_toArray,h];rfl
section
variable {P:Program} {c:Code} {Q:Exit->Act->World->Prop} {mask:List (Option Nat)} {Rel:(Nat->Value)->World->Prop} {mu:(Nat->Value)->World->Nat} {l0:List Value} {df:List Deferred}
def InvM(mask:List (Option Nat))(Rel:(Nat->Value)->World->Prop)(l0:List Value)(df:List Deferred)(a:Act)(w:World):Prop:=Rel (zar a) w/\a=⟨(mixF mask (zar a) l0).toArray,df⟩
def EndM(mask:List (Option Nat))(Rel:(Nat->Value)->World->Prop)(mu:(Nat->Value)->World->Nat)(l0:List Value)(df:List Deferred)(f:Nat->Value)(w:World)(a:Act)(w':World):Prop:=InvM mask Rel l0 df a w'/\mu (zar a) w'<mu f w
theorem invM{l:List Value}{w:World}(hg:zcN 0 mask=true)(hl:mixL mask l0 l=l)(hR:Rel (zar ⟨l.toArray,df⟩) w):InvM mask Rel l0 df ⟨l.toArray,df⟩ w:=by
 refine⟨hR,?_⟩
 rw[zfs mask 0 (zar ⟨l.toArray,df⟩) l0 l hg hl (fun j x hj=>zae (by rw[Nat.zero_add];exact hj))]
theorem endM{l:List Value}{f:Nat->Value}{w w':World}(hg:zcN 0 mask=true)(hl:mixL mask l0 l=l)(hR:Rel (zar ⟨l.toArray,df⟩) w')(hm:mu (zar ⟨l.toArray,df⟩) w'<mu f w):EndM mask Rel mu l0 df f w ⟨l.toArray,df⟩ w':=
 ⟨invM hg hl hR,hm⟩
theorem zfV(mask:List (Option Nat))(Rel:(Nat->Value)->World->Prop)(mu:(Nat->Value)->World->Nat){w:World}(hg:zcN 0 mask=true)(h0:Rel (zar ⟨l0.toArray,df⟩) w)
  (hs:∀(f:Nat->Value) (w':World),Rel f w'->c.wp P (Exit.then (fun a' w''=>EndM mask Rel mu l0 df f w' a' w'') Q) ⟨(mixF mask f l0).toArray,df⟩ w'):(Code.loop c).wp P Q ⟨l0.toArray,df⟩ w:=by
 refine wp_loop (InvM mask Rel l0 df) (fun a w=>mu (zar a) w) (invM hg (zdG mask l0) h0) ?_
 rintro a w1 ⟨hR,ha⟩
 have:=hs (zar a) w1 hR
 rw[<- ha] at this
 exact this
end
theorem IBlk.congr{W:World}{g n:Nat}{f f':Nat->Int}(h:IBlk W g n f)(e:∀ k,f' k=f k):IBlk W g n f':=⟨h.lt,fun j hj=>by rw[e j];exact h.cell j hj,h.free⟩
theorem zdx{α:Type}{cells:α->List Value}{size:Nat}(hs:∀ x,(cells x).length=size):∀(l:List α) (j:Nat) (u:Value),(l.flatMap cells)[j]?=some u->∃ k x r,l[k]?=some x/\(cells x)[r]?=some u/\j=k*size+r
|[],j,u,h=>by simp at h
|y :: l,j,u,h=>by
  rw[List.flatMap_cons] at h
  by_cases hj:j<size
  .rw[List.getElem?_append_left (by rw[hs];exact hj)] at h
   exact⟨0,y,j,rfl,h,by omega⟩
  .rw[List.getElem?_append_right (by rw[hs];omega),hs] at h
   obtain⟨k,x,r,h1,h2,h3⟩:=zdx hs l _ u h
   exact⟨k+1,x,r,by rw[List.getElem?_cons_succ];exact h1,h2,by rw[Nat.add_mul];omega⟩
theorem At.news{α:Type}{w:World}{B size b off:Nat}{cells:α->List Value}{l:List α}(hs:∀ x,(cells x).length=size)(h:At w B size cells (some ⟨b,off,none⟩) l):∀ j u,(l.flatMap cells)[j]?=some u->w.cell? ((⟨b,off,none⟩:Addr).add j)=some u:=fun j u hu=>by
 obtain⟨k,x,r,h1,h2,rfl⟩:=zdx hs l j u hu
 obtain⟨b',off',e,hb,hc⟩:=h _ _ h1
 injection e with e
 injection e with e1 e2
 subst e1 e2
 have:=hc r u h2
 have aa:(⟨b,off,none⟩:Addr).add (k*size+r)=⟨b,off+(k*size+r),none⟩:=by unfold Addr.add;split <;> simp_all
 rw[aa,<- Nat.add_assoc]
 exact this
theorem bxOf{B:Nat}{V W:World}(_:Below B V W)(vs:Array Value)(t:TypeId):Bx (W.alloc (.cells vs t)) W.heap.size vs.toList:=Bx.new W vs t
theorem Bx.far{W:World}{b g k:Nat}{vs:List Value}(h:Bx W b vs)(aa:g≠b)(v:Value):Bx (W.setCell ⟨g,k,none⟩ v) b vs:=
 ⟨by rw[World.size_setCell];exact h.lt,fun j u hu=>by rw[qA _ _ _ _ (by intro e;injection e with e;exact aa e)];exact h.c j u hu,fun j=>by rw[World.frozen?_setCell];exact h.fr j⟩
def firstI(p:Int->Bool)(l:List Int):Int:=match l.findIdx? p with
|some k=>(k:Int)
|none=>-1
theorem zew{p:Int->Bool}{l:List Int}{k:Nat}(hk:k<l.length)(hp:p l[k]=true)(h:(l.take k).all (fun x=>!p x)=true):firstI p l=k:=by
 unfold firstI
 rw[List.findIdx?_eq_some_iff_getElem.2 ⟨hk,hp,fun j hj=>by
  have:=List.all_eq_true.1 h l[j] (by rw[List.mem_take_iff_getElem];exact⟨j,by omega,rfl⟩)
  simpa using this⟩]
theorem zdU{p:Int->Bool}{l:List Int}(h:l.all (fun x=>!p x)=true):firstI p l=-1:=by
 unfold firstI
 rw[List.findIdx?_eq_none_iff.2 fun x hx=>by simpa using List.all_eq_true.1 h x hx]
theorem zm2{p:Int->Bool}{l:List Int}:decide (0<=firstI p l)=l.any p:=by
 unfold firstI
 cases h:l.findIdx? p with
|none=>
  rw[List.findIdx?_eq_none_iff] at h
  have:l.any p=false:=by rw[List.any_eq_false];intro x hx;simp[h x hx]
  rw[this];rfl
|some k=>
  obtain⟨hk,hp,-⟩:=List.findIdx?_eq_some_iff_getElem.1 h
  have:l.any p=true:=List.any_eq_true.2 ⟨_,List.getElem_mem hk,hp⟩
  rw[this]
  simp
theorem zam(a b c:Int)(w:World):Calls Tryz.prog 140 #[.int .i64 a,.int .i64 b,.int .i64 c] w (RetQ (.bool (inS a b c)) w):=by
 go_enter Tryz.func140,Tryz.ntmps140
 go_wp2
 all_goals (go_ret;refine zbM ?_;unfold inS;rw[Bool.eq_iff_iff];simp;try omega)
def badPc(x:Int):Bool:=!inS x 0 39
def manyPc(x:Int):Bool:=decide (1<x)
theorem znr(x:Int)(w:World):Calls Tryz.prog 139 #[.int .i64 x] w (RetQ (.bool (badPc x)) w):=by
 go_enter Tryz.func139,Tryz.ntmps139
 go_wp2_with (go_at_call 140;(with_reducible refine(zam _ _ _ _).mono ?_);rintro e w' ⟨rfl,rfl⟩)
 go_ret
 exact⟨rfl,rfl⟩
theorem zlD(x:Int)(w:World):Calls Tryz.prog 79 #[.int .i64 x] w (RetQ (.bool (manyPc x)) w):=by
 go_enter Tryz.func79,Tryz.ntmps79
 go_wp2
 go_ret
 exact⟨rfl,rfl⟩
def RI(l:List Int)(p:Int->Bool)(w0:World)(i:Value)(w:World):Prop:=∃ k:Nat,k<=l.length/\i=.int .i64 k/\w=w0/\(l.take k).all (fun x=>!p x)=true
theorem za4{α:Type}{l:List α}{k:Nat}(h:k<l.length)(d:α):l.getD k d=l[k]:=by
 rw[qP,qN h];rfl
theorem zjH(A:Option Addr)(c:Nat)(l:List Int)(w:World)(h:At w w.heap.size 1 zad A l)(hl:l.length<=9223372036854775807) :
  Calls Tryz.prog 78 #[.slice A l.length c,.func (.func 139) #[] #[]] w (RetQ (.int .i64 (firstI badPc l)) w):=by
 go_enter Tryz.func78,Tryz.ntmps78
 go_wp2
 go_loopw [8] (fun i wr=>RI l badPc w i wr) (fun i _=>l.length-(intOf i).toNat)
 case atStart=>exact⟨0,by omega,rfl,rfl,rfl⟩
 case round=>
  obtain⟨k,hk,rfl,rfl,aa⟩:=hrel
  by_cases hlt:k<l.length
  .obtain⟨b,off,rfl,ab,h0⟩:=zb4 h hlt
   rw[za4 hlt] at h0
   have Ha:=qG (zbO (p:=fun x=>!badPc x) hlt aa)
   have Hf:=qG (fun e=>zew (p:=badPc) hlt e aa)
   have Hw:=qG (znr l[k] wr)
   generalize l[k]=x at *
   clear aa h
   go_wp2_with fail
   refine Hw.o.mono ?_
   rintro e w1 ⟨rfl,rfl⟩
   clear Hw
   generalize badPc x=q at *
   cases q
   .go_wp2
    all_goals (first|(refine⟨?_,?_⟩;(unfold RI;exact⟨k+1,by omega,by go_num,rfl,Ha.o (by simp)⟩);(simp[intOf];omega))|(go_roundw;(case rel=>(unfold RI;exact⟨k+1,by omega,by go_num,rfl,Ha.o (by simp)⟩));(case measure=>(simp[intOf];omega)))|(go_round;(case rel=>(unfold RI;exact⟨k+1,by omega,by go_num,rfl,Ha.o (by simp)⟩));(case measure=>(simp[intOf];omega))))
   .go_wp2
    go_ret
    exact⟨by rw[Hf.o (by simp)];rfl,rfl⟩
  .have e:=zbP hlt aa
   go_wp2
   go_ret
   exact⟨by rw[zdU e];rfl,rfl⟩
theorem ziw(A:Option Addr)(c:Nat)(l:List Int)(w:World)(h:At w w.heap.size 1 zad A l)(hl:l.length<=9223372036854775807) :
  Calls Tryz.prog 78 #[.slice A l.length c,.func (.func 79) #[] #[]] w (RetQ (.int .i64 (firstI manyPc l)) w):=by
 go_enter Tryz.func78,Tryz.ntmps78
 go_wp2
 go_loopw [8] (fun i wr=>RI l manyPc w i wr) (fun i _=>l.length-(intOf i).toNat)
 case atStart=>exact⟨0,by omega,rfl,rfl,rfl⟩
 case round=>
  obtain⟨k,hk,rfl,rfl,aa⟩:=hrel
  by_cases hlt:k<l.length
  .obtain⟨b,off,rfl,ab,h0⟩:=zb4 h hlt
   rw[za4 hlt] at h0
   have Ha:=qG (zbO (p:=fun x=>!manyPc x) hlt aa)
   have Hf:=qG (fun e=>zew (p:=manyPc) hlt e aa)
   have Hw:=qG (zlD l[k] wr)
   generalize l[k]=x at *
   clear aa h
   go_wp2_with fail
   refine Hw.o.mono ?_
   rintro e w1 ⟨rfl,rfl⟩
   clear Hw
   generalize manyPc x=q at *
   cases q
   .go_wp2
    all_goals (first|(refine⟨?_,?_⟩;(unfold RI;exact⟨k+1,by omega,by go_num,rfl,Ha.o (by simp)⟩);(simp[intOf];omega))|(go_roundw;(case rel=>(unfold RI;exact⟨k+1,by omega,by go_num,rfl,Ha.o (by simp)⟩));(case measure=>(simp[intOf];omega)))|(go_round;(case rel=>(unfold RI;exact⟨k+1,by omega,by go_num,rfl,Ha.o (by simp)⟩));(case measure=>(simp[intOf];omega))))
   .go_wp2
    go_ret
    exact⟨by rw[Hf.o (by simp)];rfl,rfl⟩
  .have e:=zbP hlt aa
   go_wp2
   go_ret
   exact⟨by rw[zdU e];rfl,rfl⟩
theorem zha(A:Option Addr)(c:Nat)(l:List Int)(w:World)(h:At w w.heap.size 1 zad A l)(hl:l.length<=9223372036854775807) :
  Calls Tryz.prog 141 #[.slice A l.length c,.func (.func 139) #[] #[]] w (RetQ (.bool (l.any badPc)) w):=by
 have H1:=qG (zjH A c l w h hl)
 have H2:=qG (zm2 (p:=badPc) (l:=l))
 clear h hl
 go_enter Tryz.func141,Tryz.ntmps141
 go_wp2_with fail
 refine H1.o.mono ?_
 rintro e w1 ⟨rfl,rfl⟩
 go_wp2
 go_ret
 exact⟨by rw[<- H2.o];rfl,rfl⟩
def eqPc(v x:Int):Bool:=decide (v=x)
theorem zfR(v:Int)(A:Option Addr)(c:Nat)(l:List Int)(w:World)(h:At w w.heap.size 1 zad A l)(hl:l.length<=9223372036854775807) :
  Calls Tryz.prog 77 #[.slice A l.length c,.int .i64 v] w (RetQ (.int .i64 (firstI (eqPc v) l)) w):=by
 go_enter Tryz.func77,Tryz.ntmps77
 go_wp2
 go_loopw [8] (fun i wr=>RI l (eqPc v) w i wr) (fun i _=>l.length-(intOf i).toNat)
 case atStart=>exact⟨0,by omega,rfl,rfl,rfl⟩
 case round=>
  obtain⟨k,hk,rfl,rfl,aa⟩:=hrel
  by_cases hlt:k<l.length
  .obtain⟨b,off,rfl,ab,h0⟩:=zb4 h hlt
   rw[za4 hlt] at h0
   have Ha:=qG (zbO (p:=fun x=>!eqPc v x) hlt aa)
   have Hf:=qG (fun e=>zew (p:=eqPc v) hlt e aa)
   generalize l[k]=x at *
   clear aa h
   by_cases hx:v=x
   .have e1:(v==x)=true:=by simp[hx]
    have e2:=qG (show eqPc v x=true by simp[eqPc,hx])
    clear hx
    go_wp2
    go_ret
    exact⟨by rw[Hf.o e2.o];rfl,rfl⟩
   .have e1:(v==x)=false:=by simp[hx]
    have e2:=qG (show(!eqPc v x)=true by simp[eqPc,hx])
    clear hx
    go_wp2
    all_goals (first|(refine⟨?_,?_⟩;(unfold RI;exact⟨k+1,by omega,by go_num,rfl,Ha.o e2.o⟩);(simp[intOf];omega))|(go_roundw;(case rel=>(unfold RI;exact⟨k+1,by omega,by go_num,rfl,Ha.o e2.o⟩));(case measure=>(simp[intOf];omega)))|(go_round;(case rel=>(unfold RI;exact⟨k+1,by omega,by go_num,rfl,Ha.o e2.o⟩));(case measure=>(simp[intOf];omega))))
  .have e:=zbP hlt aa
   go_wp2
   go_ret
   exact⟨by rw[zdU e];rfl,rfl⟩
def maxTo(l:List Int)(k:Nat):Int:=(l.take k).foldl max (l.getD 0 0)
def RM(l:List Int)(w0:World)(m i:Value)(w:World):Prop:=∃ k:Nat,1<=k/\k<=l.length/\i=.int .i64 k/\m=.int .i64 (maxTo l k)/\w=w0
theorem zlC{l:List Int}{k:Nat}(h:k<l.length):maxTo l (k+1)=max (maxTo l k) (l.getD k 0):=by
 unfold maxTo
 rw[List.take_succ_eq_append_getElem h,List.foldl_append,za4 h];rfl
theorem zqx(A:Option Addr)(c:Nat)(l:List Int)(w:World)(h:At w w.heap.size 1 zad A l)(hl:l.length<=9223372036854775807)(h0:0<l.length) :
  Calls Tryz.prog 76 #[.slice A l.length c] w (RetQ (.int .i64 (maxTo l l.length)) w):=by
 have hn:decide ((l.length:Int)<1)=false:=by simp;omega
 have ab:¬((l.length:Int)<1):=by omega
 obtain⟨b,off,rfl,ac,g0⟩:=zb4 h h0
 rw[Nat.add_zero] at g0
 have aa:=qG (show maxTo l 1=l.getD 0 0 from by
  unfold maxTo
  obtain⟨x,l',rfl⟩:∃ x l',l=x :: l':=by
   cases l with
  |nil=>simp at h0
  |cons x l'=>exact⟨x,l',rfl⟩
  simp)
 go_enter Tryz.func76,Tryz.ntmps76
 go_wp2
 clear g0
 go_loopw [3,4] (fun m i wr=>RM l w m i wr) (fun _ i _=>l.length-(intOf i).toNat)
 case atStart=>exact⟨1,by omega,by omega,rfl,by rw[aa.o];first|rfl|rw[za4 h0],rfl⟩
 case round=>
  obtain⟨k,ae,hk,rfl,rfl,rfl⟩:=hrel
  by_cases hlt:k<l.length
  .obtain⟨b',off',e,-,g0⟩:=zb4 h hlt
   injection e with e
   injection e with e1 e2
   subst e1 e2
   have Hs:=qG (zlC hlt)
   generalize l.getD k 0=x at *
   generalize maxTo l k=m at *
   clear h
   go_wp2_with (go_quiet (fail))
   all_goals (first|(refine⟨?_,?_⟩;(unfold RM;exact⟨k+1,by omega,by omega,by go_num,by rw[Hs.o];simp[Int.max_def];split <;> split <;> omega,rfl⟩);(simp[intOf];omega))|(go_roundw;(case rel=>(unfold RM;exact⟨k+1,by omega,by omega,by go_num,by rw[Hs.o];simp[Int.max_def];split <;> split <;> omega,rfl⟩));(case measure=>(simp[intOf];omega)))|(go_round;(case rel=>(unfold RM;exact⟨k+1,by omega,by omega,by go_num,by rw[Hs.o];simp[Int.max_def];split <;> split <;> omega,rfl⟩));(case measure=>(simp[intOf];omega))))
  .obtain rfl:k=l.length:=by omega
   go_wp2
   go_ret
   exact⟨rfl,rfl⟩
theorem zmG{c:Cut}(ok:OkC c):maxTo c.piece c.piece.length=zag c:=by
 unfold maxTo zag
 rw[List.take_of_length_le (qQ _)]
 have ac:∀(l:List Int) (n:Int),l.foldl max n=max n (l.foldl max n):=by
  intro l
  induction l with
 |nil=>intro n;simp
 |cons x l ih=>intro n;rw[List.foldl_cons];have:=ih (max n x);omega
 have aa:∀(l:List Int) (x n:Int),x∈l->l.foldl max n=l.foldl max (max n x):=by
  intro l
  induction l with
 |nil=>intro x n h;simp at h
 |cons y l ih=>
   intro x n h
   rcases List.mem_cons.1 h with rfl|h
   .rw[List.foldl_cons,List.foldl_cons]
    congr 1
    omega
   .rw[List.foldl_cons,List.foldl_cons,ih x _ h]
    congr 1
    omega
 have hl:=ok.len
 have hw:=ok.w
 have hh:=ok.h
 have ab:0<c.piece.length:=by
  have:1*1<=c.wide*c.high:=Int.mul_le_mul hw.1 hh.1 (by omega) (by omega)
  omega
 have h0:c.piece.getD 0 0∈c.piece:=by rw[za4 ab];exact List.getElem_mem _
 have hb:=ok.pc _ h0
 rw[aa c.piece _ 0 h0]
 congr 1
 omega
section
variable {P:Program} {md:Region.Mode} {ops:Array Oper} {Q:Exit->Act->World->Prop} {S0:World->Prop}
def zrc(P:Program)(r:Result Next)(u:Value)(W:World):Prop:=match r with
|.ok (.value v) W'=>v=u/\Below W.heap.size W W'
|.ok (.enter f args) W'=>Calls P f args W' (fun e W''=>e=.returned u/\Below W.heap.size W W'')
|_=>False
def MakesIf(P:Program)(ops:Array Oper)(S0:World->Prop)(o:Oper)(u:Value)(a:Act):Prop:=
 (Region.wanted o (yielded ops a.tmps)=true/\∀ W,S0 W->zrc P ((execOp a.eval o).run P W) u W)\/(Region.wanted o (yielded ops a.tmps)=false/\u=undef)
def AllocIf(P:Program)(ops:Array Oper)(S0:World->Prop)(o:Oper)(vs:Array Value)(t:TypeId)(a:Act):Prop:=
 Region.wanted o (yielded ops a.tmps)=true/\∀ W,S0 W->(execOp a.eval o).run P W=.ok (.value (.pointer (some ⟨W.heap.size,0,none⟩))) (W.alloc (.cells vs t))
theorem MakesIf.wpOp{i:Nat}{o:Oper}{u:Value}{a:Act}(hi:ops[i]?=some o)(hy:MakesIf P ops S0 o u a){K:Act->World->Prop}{W:World}(hS:S0 W)
  (h:∀ W',Below W.heap.size W W'->K (a.put o.dst u) W'):Go.wpOp P ops Q i K a W:=by
 unfold Go.wpOp
 simp only[hi]
 rcases hy with ⟨hw,hv⟩|⟨hw,rfl⟩
 .simp only[hw,if_true]
  left
  unfold Oper.wp
  have h1:=hv W hS
  generalize(execOp a.eval o).run P W=r at *
  cases r with
 |ok n W'=>
   cases n with
  |value v=>
    obtain⟨rfl,h2⟩:v=u/\Below W.heap.size W W':=h1
    exact h W' h2
  |enter f args=>
    have h2:Calls P f args W' (fun e W''=>e=.returned u/\Below W.heap.size W W''):=h1
    exact h2.mono fun e W'' he=>by
     obtain⟨rfl,hb⟩:=he
     exact h W'' hb
  |_=>exact h1.elim
 |halt x W'=>exact h1.elim
 .simp only[hw,Bool.false_eq_true,if_false]
  exact h W (Below.refl _ _)
theorem AllocIf.wpOp{i:Nat}{o:Oper}{vs:Array Value}{t:TypeId}{a:Act}(hi:ops[i]?=some o)(hy:AllocIf P ops S0 o vs t a){K:Act->World->Prop}{W:World}(hS:S0 W)
  (h:K (a.put o.dst (.pointer (some ⟨W.heap.size,0,none⟩))) (W.alloc (.cells vs t))):Go.wpOp P ops Q i K a W:=by
 unfold Go.wpOp
 simp only[hi]
 simp only[hy.1,if_true,Oper.wp,hy.2 W hS,Oper.upon]
 exact .inl h
theorem MakesIf.same{o:Oper}{u:Value}{a a':Act}(hy:MakesIf P ops S0 o u a)(he:execOp a'.eval o=execOp a.eval o)(hw:Region.wanted o (yielded ops a'.tmps)=Region.wanted o (yielded ops a.tmps)):MakesIf P ops S0 o u a':=by
 unfold MakesIf at *
 rw[he,hw]
 exact hy
theorem AllocIf.same{o:Oper}{vs:Array Value}{t:TypeId}{a a':Act}(hy:AllocIf P ops S0 o vs t a)(he:execOp a'.eval o=execOp a.eval o)(hw:Region.wanted o (yielded ops a'.tmps)=Region.wanted o (yielded ops a.tmps)):AllocIf P ops S0 o vs t a':=by
 unfold AllocIf at *
 rw[he,hw]
 exact hy
def Late(md:Region.Mode)(ops:Array Oper)(listed:Array Bool):Prop:=∀ j∈Region.ready md ops listed,∀ i,listed.getD i false=true->∃ oj,ops[j]?=some oj/\∃ e∈oj.after,Region.binds md e=true/\e.on=i
def GG(P:Program)(md:Region.Mode)(ops:Array Oper)(Q:Exit->Act->World->Prop)(S0:World->Prop):Nat->(World->Prop)->Array Bool->Act->Prop
|0,T,listed,a=>Region.ready md ops listed=[]/\∀ W,T W->Q .normal a W
|fuel+1,T,listed,a=>(Late md ops listed/\∀ W,T W->wpAnyH P md ops Q (fun _=>True) (fuel+1) listed a W)\/
  (Region.ready md ops listed≠[]/\∀ j∈Region.ready md ops listed,∃ oj,ops[j]?=some oj/\
   ((∃ u,MakesIf P ops S0 oj u a/\GG P md ops Q S0 fuel T (listed.setIfInBounds j true) (a.put oj.dst u))\/
    (∃ vs t,AllocIf P ops S0 oj vs t a/\∀ g,(∃ W0,T W0/\W0.heap.size=g)->GG P md ops Q S0 fuel (fun W=>T W/\Bx W g vs.toList) (listed.setIfInBounds j true) (a.put oj.dst (.pointer (some ⟨g,0,none⟩))))))
theorem GG.sound:∀(fuel:Nat) (T:World->Prop) (listed:Array Bool) (a:Act),(∀ W W',T W->Below W.heap.size W W'->T W')->(∀ W,T W->S0 W)->GG P md ops Q S0 fuel T listed a->∀ W,T W->wpAnyH P md ops Q (fun _=>True) fuel listed a W
|0,T,listed,a,_,_,h,W,hT=>⟨h.1,h.2 W hT⟩
|fuel+1,T,listed,a,hst,hS,h,W,hT=>by
  rcases h with ⟨-,h⟩|⟨ab,h⟩
  .exact h W hT
  .refine⟨fun h0=>absurd h0 ab,fun j hj=>?_⟩
   obtain⟨oj,aa,⟨u,hy,hg⟩|⟨vs,t,hy,hg⟩⟩:=h j hj
   .exact hy.wpOp aa (hS W hT) fun W' hb=>⟨trivial,GG.sound fuel T _ _ hst hS hg W' (hst W W' hT hb)⟩
   .refine hy.wpOp aa (hS W hT) ⟨trivial,?_⟩
    exact GG.sound fuel (fun W'=>T W'/\Bx W' W.heap.size vs.toList) _ _ (fun W1 W2 h1 hb=>⟨hst W1 W2 h1.1 hb,h1.2.next hb⟩) (fun W1 h1=>hS W1 h1.1) (hg W.heap.size ⟨W,hT,rfl⟩) _ ⟨hst W _ hT (nxA _ _),Bx.new _ _ _⟩
theorem GG.take_{i:Nat}{oi:Oper}{v:Value}(hi:ops[i]?=some oi)(ag:∀(j:Nat) (o:Oper) cs b,ops[j]?=some o->o.op≠.select cs b) :
  ∀(fuel:Nat) (T:World->Prop) (listed:Array Bool) (a:Act),
   (∀ j oj,ops[j]?=some oj->j≠i->listed.getD j true=false->(∀ e∈oj.after,Region.binds md e=true->e.on≠i)->oi.apart ops oj=true)->
   i∈Region.ready md ops listed->MakesIf P ops S0 oi v a->
   GG P md ops Q S0 fuel T (listed.setIfInBounds i true) (a.put oi.dst v)->GG P md ops Q S0 (fuel+1) T listed a:=by
 intro fuel
 induction fuel with
|zero=>
  intro T listed a _ hr hy H
  refine .inr ⟨fun h=>(by rw[h] at hr;cases hr),fun j hj=>?_⟩
  by_cases ab:j=i
  .subst ab;exact⟨oi,hi,.inl ⟨v,hy,H⟩⟩
  .have:=ready_mono hj ab
   rw[H.1] at this
   cases this
|succ fuel ih=>
  intro T listed a af hr hy H
  refine .inr ⟨fun h=>(by rw[h] at hr;cases hr),fun j hj=>?_⟩
  by_cases ab:j=i
  .subst ab;exact⟨oi,hi,.inl ⟨v,hy,H⟩⟩
  .obtain⟨ah,oj,ac,ao⟩:=mem_ready.1 hj
   have ai:∀ e∈oj.after,Region.binds md e=true->e.on≠i:=fun e he hb aq=>by
    have h1:=ao e he hb
    have h0:=(mem_ready.1 hr).1
    rw[aq] at h1
    rcases Nat.lt_or_ge i listed.size with h'|h'
    .simp[h'] at h0 h1;rw[h0] at h1;cases h1
    .simp[Array.getElem?_eq_none h'] at h1
   have ar:=af j oj ac ab ah ai
   obtain⟨a1,a2,a3⟩:=Oper.apart_spec ar
   have au:=fun cs b=>ag i oi cs b hi
   have ak:=fun cs b=>ag j oj cs b ac
   have ae:∀ k ok,ops[k]?=some ok->k≠i->(listed.setIfInBounds j true).getD k true=false->
     (∀ e∈ok.after,Region.binds md e=true->e.on≠i)->oi.apart ops ok=true:=fun k ok hk aw am ax=>by
    refine af k ok hk aw ?_ ax
    by_cases an:j=k
    .subst an;exact ah
    .rw[getD_set_ne true an] at am;exact am
   have keep:∀ u,MakesIf P ops S0 oi v (a.put oj.dst u):=fun u=>hy.same (execOp_put oi au a oj.dst u a3) (wanted_put oi a oj.dst u a3)
   rcases H with ⟨hl,-⟩|⟨-,H⟩
   .obtain⟨oj',aa,e,he,hb,ay⟩:=hl j (ready_mono hj ab) i (by
     have h0:=(mem_ready.1 hr).1
     rcases Nat.lt_or_ge i listed.size with h'|h'
     .simp[h']
     .simp[Array.getElem?_eq_none h'] at h0)
    rw[ac] at aa
    injection aa with aa
    subst aa
    exact absurd ay (ai e he hb)
   .obtain⟨oj',aa,aj⟩:=H j (ready_mono hj ab)
    rw[ac] at aa
    injection aa with aa
    subst aa
    refine⟨oj,ac,?_⟩
    rcases aj with ⟨u,hu,hg⟩|⟨vs,t,hu,hg⟩
    .refine .inl ⟨u,hu.same (execOp_put oj ak a oi.dst v a1).symm (wanted_put oj a oi.dst v a1).symm,ih T _ _ ae (ready_mono hr (Ne.symm ab)) (keep u) ?_⟩
     rw[Array.setIfInBounds_comm _ _ ab,<- Act.put_comm a v u a2]
     exact hg
    .refine .inr ⟨vs,t,hu.same (execOp_put oj ak a oi.dst v a1).symm (wanted_put oj a oi.dst v a1).symm,fun g h0=>ih _ _ _ ae (ready_mono hr (Ne.symm ab)) (keep _) ?_⟩
     rw[Array.setIfInBounds_comm _ _ ab,<- Act.put_comm a v _ a2]
     exact hg g h0
theorem zaj{i:Nat}{oi:Oper}{v:Value}{fuel:Nat}{T:World->Prop}{listed:Array Bool}{a:Act}(hi:ops.toList[i]?=some oi)
  (hs:Region.noSelect ops=true) (hf:Region.free md ops listed i=true) (hr:(Region.ready md ops listed).contains i=true) (hy:MakesIf P ops S0 oi v a)
  (h:GG P md ops Q S0 fuel T (listed.setIfInBounds i true) (a.put oi.dst v)):GG P md ops Q S0 (fuel+1) T listed a:=
 GG.take_ (by simpa using hi) (Region.noSelect_spec hs) fuel T listed a (Region.free_spec (by simpa using hi) hf) (by simpa using hr) hy h
theorem gt{v:Value}{oi:Oper}{fuel:Nat}{T:World->Prop}{listed:Array Bool}{a a':Act}(i:Nat)(hi:ops.toList[i]?=some oi:=by rfl)
  (hs:Region.noSelect ops=true:=by kernel_rfl) (hf:Region.free md ops listed i=true:=by kernel_rfl) (hr:(Region.ready md ops listed).contains i=true:=by kernel_rfl)
  (hw:Region.wanted oi (yielded ops a.tmps)=true:=by rfl)
  (hy:∀ w,S0 w->(execOp a.eval oi).run P w=.ok (.value v) w:=by(intro w aa;(try dsimp only at aa);go_simp;try (with_reducible rfl)))
  (ha:a.put oi.dst v=a':=by((try simp only[qW]);rfl))
  (h:GG P md ops Q S0 fuel T (listed.setIfInBounds i true) a'):GG P md ops Q S0 (fuel+1) T listed a:=
 zaj hi hs hf hr (.inl ⟨hw,fun W hS=>by rw[hy W hS];exact⟨rfl,Below.refl _ _⟩⟩) (by rw[ha];exact h)
theorem MakesIf.yields{o:Oper}{u:Value}{a:Act}(h:YieldsIf P ops S0 o u a):MakesIf P ops S0 o u a:=
 h.imp (fun⟨hw,hv⟩=>⟨hw,fun W hS=>by rw[hv W hS];exact⟨rfl,Below.refl _ _⟩⟩) id
theorem ziQ{T:World->Prop}{listed:Array Bool}{a:Act}(hr:Region.ready md ops listed=[])(h:∀ W,T W->Q .normal a W):GG P md ops Q S0 0 T listed a:=⟨hr,h⟩
end
theorem za9(b:Bool):0<=b2i b/\b2i b<=1:=by cases b <;> exact⟨by decide,by decide⟩
theorem zcW(c:Cut)(x y a b:Int):0<=zb1 c x y a b/\zb1 c x y a b<=4:=by
 unfold zb1
 split
 .have h1:=za9 (at2 c (x-1) y==b)
  have h2:=za9 (at2 c (x+1) y==b)
  have h3:=za9 (at2 c x (y-1)==b)
  have h4:=za9 (at2 c x (y+1)==b)
  omega
 .omega
theorem zaK{f:Nat->Int}{B:Int}(h:∀ k,0<=f k/\f k<=B):∀ n:Nat,0<=zai f n/\zai f n<=B*n
|0=>⟨Int.le_refl _,by simp[zai]⟩
|n+1=>by
  have ih:=zaK h n
  have hn:=h n
  unfold zai
  have:B*((n+1:Nat):Int)=B*n+B:=by rw[Int.natCast_add,Int.mul_add];simp
  omega
end Cu
namespace Cu
open Go.RowKit
open Go.Maps (Keyed)
theorem zk3{l:List MapEntry}(h:l.Pairwise (fun x y=>x.key≠y.key)){i j:Nat}{x y:MapEntry}(hi:l[i]?=some x)(hj:l[j]?=some y)(e:x.key=y.key):i=j:=by
 obtain⟨l1,b1⟩:=qO.1 hi
 obtain⟨l2,b2⟩:=qO.1 hj
 rw[List.pairwise_iff_getElem] at h
 rcases Nat.lt_trichotomy i j with h1|h1|h1
 .exact absurd (by rw[b1,b2,e]) (h i j l1 l2 h1)
 .exact h1
 .exact absurd (by rw[b1,b2,e]) (h j i l2 l1 h1)
set_option linter.unusedSectionVars false
section
variable {α β:Type} [DecidableEq α] {P:Program} {k:TypeId} {kv:α->Value} {vv:β->Value}
structure Holds(P:Program)(k:TypeId)(kv:α->Value)(vv:β->Value)(f:α->Option β)(es:Array MapEntry)(clock:Nat):Prop where
 st:MapKept.Stamped es clock
 en:∀ x∈es.toList,∃ p v l,keyOf P k (kv p)=some l/\x.key=kv p/\x.val=vv v/\f p=some v
 al:∀ p v,f p=some v->∃ x∈es.toList,x.key=kv p
def MapIs(P:Program)(k:TypeId)(kv:α->Value)(vv:β->Value)(b:Nat)(f:α->Option β)(W:World):Prop:=∃ es clock,W.heap[b]?=some (.map es clock)/\Holds P k kv vv f es clock
def setO(f:α->Option β)(p:α)(v:β):α->Option β:=fun q=>if q=p then some v else f q
theorem MapIs.lt{b:Nat}{f:α->Option β}{W:World}(h:MapIs P k kv vv b f W):b<W.heap.size:=by
 obtain⟨es,clock,h,-⟩:=h
 exact(qB.1 h).1
theorem MapIs.of{b:Nat}{f:α->Option β}{W W':World}(h:MapIs P k kv vv b f W)(e:W'.heap[b]?=W.heap[b]?):MapIs P k kv vv b f W':=by
 obtain⟨es,clock,h1,h2⟩:=h
 exact⟨es,clock,e.trans h1,h2⟩
theorem MapIs.next{b:Nat}{f:α->Option β}{W W':World}(h:MapIs P k kv vv b f W)(hb:Below W.heap.size W W'):MapIs P k kv vv b f W':=h.of (hb.block b h.lt)
theorem MapIs.grown{b:Nat}{f:α->Option β}{W W':World}{row:Option Nat}(h:MapIs P k kv vv b f W)(hg:W.grownBy W' row)(hr:some b≠row):MapIs P k kv vv b f W':=h.of (hg.block b h.lt hr)
theorem MapIs.made(P:Program)(k:TypeId)(kv:α->Value)(vv:β->Value)(W:World):MapIs P k kv vv W.heap.size (fun _=>none) (W.alloc (.map #[] 0)):=
 ⟨#[],0,heap_alloc_new _ _,⟨MapKept.stamped_empty 0,by simp,fun _ _ h=>by cases h⟩⟩
theorem MapIs.eq{b:Nat}{f g:α->Option β}{W:World}(h:MapIs P k kv vv b f W)(e:∀ p,f p=g p):MapIs P k kv vv b g W:=by
 obtain rfl:f=g:=funext e
 exact h
theorem Holds.keys{f:α->Option β}{es:Array MapEntry}{clock:Nat}(h:Holds P k kv vv f es clock):∀ x∈es.toList,∃ l,keyOf P k x.key=some l:=fun x hx=>by
 obtain⟨p,v,l,h1,h2,-⟩:=h.en x hx
 exact⟨l,by rw[h2];exact h1⟩
theorem Holds.find{f:α->Option β}{es:Array MapEntry}{clock:Nat}(h:Holds P k kv vv f es clock)(K:Keyed P k)(hi:∀ p q,kv p=kv q->p=q){p:α}{l:Lit}(aa:keyOf P k (kv p)=some l) :
  (f p=none/\(∀ w:World,(Instr.findKey k (kv p) es.toList).run P w=.ok none w)/\∀ x∈es.toList,x.key≠kv p)\/
  ∃ j e0 v,f p=some v/\(∀ w:World,(Instr.findKey k (kv p) es.toList).run P w=.ok (some (j,e0.val)) w)/\es.toList[j]?=some e0/\e0.key=kv p/\e0.val=vv v:=by
 cases hf:f p with
|none=>
  have hn:∀ x∈es.toList,x.key≠kv p:=fun x hx e=>by
   obtain⟨q,v,l',-,h2,-,h4⟩:=h.en x hx
   rw[h2] at e
   rw[hi _ _ e,hf] at h4
   cases h4
  refine .inl ⟨rfl,fun w=>?_,hn⟩
  rcases K.find w aa es.toList h.keys with ⟨h1,-⟩|⟨j,e0,h1,h2,h3⟩
  .exact h1
  .exact absurd h3 (hn e0 (List.mem_of_getElem? h2))
|some v=>
  obtain⟨x,hx,ac⟩:=h.al p v hf
  rcases K.find default aa es.toList h.keys with ⟨-,h2⟩|⟨j,e0,h1,h2,h3⟩
  .exact absurd ac (h2 x hx)
  .obtain⟨q,v',l',-,g2,g3,g4⟩:=h.en e0 (List.mem_of_getElem? h2)
   rw[g2] at h3
   have hq:=hi _ _ h3
   subst hq
   rw[hf] at g4
   injection g4 with g4
   subst g4
   refine .inr ⟨j,e0,v,rfl,fun w=>?_,h2,g2,g3⟩
   rcases K.find w aa es.toList h.keys with ⟨-,ab⟩|⟨j',e1,ae,ab,af⟩
   .exact absurd ac (ab x hx)
   .rw[ae]
    have hst:=(MapKept.stamped_iff es clock).1 h.st
    have ag:e1=e0:=entry_eq_of_key hst.2.2 (List.mem_of_getElem? ab) (List.mem_of_getElem? h2) (af.trans g2.symm)
    subst ag
    have ah:j'=j:=zk3 hst.2.2 ab h2 rfl
    rw[ah]
theorem MapIs.look{b:Nat}{f:α->Option β}{W:World}(h:MapIs P k kv vv b f W)(K:Keyed P k)(hi:∀ p q,kv p=kv q->p=q){t e:TypeId}(ht:P.underlying t=some (.map k e)){z:Value}(hz:∀ u:World,(zeroValue e).run P u=.ok z u){p:α}{l:Lit}(aa:keyOf P k (kv p)=some l) :
  (Instr.lookup t (.map (some b)) (kv p) false).run P W=.ok ((f p).elim z vv) W/\(Instr.lookup t (.map (some b)) (kv p) true).run P W=.ok (.tuple #[(f p).elim z vv,.bool (f p).isSome]) W:=by
 obtain⟨es,clock,hb,hh⟩:=h
 rcases hh.find K hi aa with ⟨hf,h1,-⟩|⟨j,e0,v,hf,h1,-,-,h3⟩
 .rw[hf]
  constructor <;> simp[Instr.lookup,run_underlying ht,MapKept.run_getObj_map hb,K.check W _ aa,h1,hz,Result.andThen]
 .rw[hf]
  constructor <;> simp[Instr.lookup,run_underlying ht,MapKept.run_getObj_map hb,K.check W _ aa,h1,h3,Result.andThen]
theorem zcF{W:World}{b:Nat}{es:Array MapEntry}{clock:Nat}(hb:W.heap[b]?=some (.map es clock))(ob:Obj):W.grownBy (ChangeMaps.setBlock W b ob) (some b)/\(ChangeMaps.setBlock W b ob).heap.size=W.heap.size/\(ChangeMaps.setBlock W b ob).heap[b]?=some ob:=
 ⟨⟨rfl,rfl,rfl,by simp[ChangeMaps.setBlock],fun i _ hi=>ChangeMaps.heap_setBlock_other hb _ (fun e=>hi (by rw[e]))⟩,by simp[ChangeMaps.setBlock],ChangeMaps.heap_setBlock_same hb _⟩
theorem Holds.push{f:α->Option β}{es:Array MapEntry}{clock:Nat}(h:Holds P k kv vv f es clock){p:α}{l:Lit}(aa:keyOf P k (kv p)=some l)(hn:∀ x∈es.toList,x.key≠kv p)(v:β):Holds P k kv vv (setO f p v) (es.push ⟨kv p,vv v,clock⟩) (clock+1):=by
 refine⟨MapKept.stamped_push h.st hn,fun x hx=>?_,fun q u hq=>?_⟩
 .simp only[Array.toList_push,List.mem_append,List.mem_singleton] at hx
  rcases hx with hx|rfl
  .obtain⟨q,v',l',h1,h2,h3,h4⟩:=h.en x hx
   refine⟨q,v',l',h1,h2,h3,?_⟩
   unfold setO
   rw[if_neg (fun e=>hn x hx (by rw[h2,e])),h4]
  .exact⟨p,v,l,aa,rfl,rfl,by unfold setO;rw[if_pos rfl]⟩
 .unfold setO at hq
  by_cases e:q=p
  .exact⟨⟨kv p,vv v,clock⟩,by simp,by rw[e]⟩
  .rw[if_neg e] at hq
   obtain⟨x,hx,h2⟩:=h.al q u hq
   exact⟨x,by simp[hx],h2⟩
theorem Holds.turn{f:α->Option β}{es:Array MapEntry}{clock:Nat}(h:Holds P k kv vv f es clock)(hi:∀ p q,kv p=kv q->p=q){p:α}{l:Lit}(ae:keyOf P k (kv p)=some l){j:Nat}{e0:MapEntry}(hj:es.toList[j]?=some e0)(he:e0.key=kv p)(v:β):Holds P k kv vv (setO f p v) (es.modify j (fun e'=>{ e' with key:=kv p,val:=vv v })) clock:=by
 have hst:=(MapKept.stamped_iff es clock).1 h.st
 refine⟨MapKept.stamped_modify h.st j _ (fun _ _=>rfl) (fun e _ h1=>by
  rw[<- Array.getElem?_toList,hj] at h1
  injection h1 with h1
  rw[<- h1,he]),fun x hx=>?_,fun q u hq=>?_⟩
 .rw[Array.toList_modify] at hx
  obtain⟨i,ab,ex⟩:=List.getElem_of_mem hx
  rw[List.getElem_modify] at ex
  split at ex
  .subst ex
   exact⟨p,v,l,ae,rfl,rfl,by unfold setO;rw[if_pos rfl]⟩
  .rename_i af
   rw[List.length_modify] at ab
   have hm:x∈es.toList:=by rw[<- ex];exact List.getElem_mem _
   obtain⟨q,v',l',h1,h2,h3,h4⟩:=h.en x hm
   refine⟨q,v',l',h1,h2,h3,?_⟩
   unfold setO
   rw[if_neg (fun e=>af ?_),h4]
   exact zk3 hst.2.2 hj (qO.2 ⟨ab,ex⟩) (by rw[h2,e,he])
 .have ac:(es.modify j (fun e'=>{ e' with key:=kv p,val:=vv v })).toList=es.toList.modify j (fun e'=>{ e' with key:=kv p,val:=vv v }):=Array.toList_modify ..
  obtain⟨l2,b2⟩:=qO.1 hj
  have ag:(⟨kv p,vv v,e0.born⟩:MapEntry)∈es.toList.modify j (fun e'=>{ e' with key:=kv p,val:=vv v }):=by
   rw[List.mem_iff_getElem?]
   exact⟨j,by rw[List.getElem?_modify,hj];simp⟩
  unfold setO at hq
  by_cases e:q=p
  .exact⟨⟨kv p,vv v,e0.born⟩,by rw[ac];exact ag,by rw[e]⟩
  .rw[if_neg e] at hq
   obtain⟨x,hx,h2⟩:=h.al q u hq
   refine⟨x,?_,h2⟩
   rw[ac,List.mem_iff_getElem?]
   obtain⟨i,aa⟩:=List.mem_iff_getElem?.1 hx
   refine⟨i,?_⟩
   have e3:j≠i:=fun e3=>by
    subst e3
    rw[hj] at aa
    injection aa with aa
    subst aa
    exact e (hi _ _ (h2.symm.trans he))
   rw[List.getElem?_modify,aa];simp[e3]
theorem MapIs.upd{b:Nat}{f:α->Option β}{W:World}(h:MapIs P k kv vv b f W)(K:Keyed P k)(hi:∀ p q,kv p=kv q->p=q){t e:TypeId}(ht:P.underlying t=some (.map k e)){p:α}{l:Lit}(aa:keyOf P k (kv p)=some l)(v:β) :
  ∃ W',(Instr.mapUpdate t (.map (some b)) (kv p) (vv v)).run P W=.ok () W'/\MapIs P k kv vv b (setO f p v) W'/\W.grownBy W' (some b)/\W'.heap.size=W.heap.size:=by
 obtain⟨es,clock,hb,hh⟩:=h
 rcases hh.find K hi aa with ⟨hf,h1,h2⟩|⟨j,e0,v0,hf,h1,h2,h3,h4⟩
 .obtain⟨g1,g2,g3⟩:=zcF hb (.map (es.push ⟨kv p,vv v,clock⟩) (clock+1))
  refine⟨_,?_,⟨_,_,g3,hh.push aa h2 v⟩,g1,g2⟩
  simp[Instr.mapUpdate,run_underlying ht,MapKept.run_getObj_map hb,K.check W false aa,h1,MapKept.run_setObj_map _ hb,Result.andThen,ChangeMaps.setBlock]
 .obtain⟨g1,g2,g3⟩:=zcF hb (.map (es.modify j (fun e'=>{ e' with key:=kv p,val:=vv v })) clock)
  have hj:es[j]?=some e0:=by simpa using h2
  refine⟨_,?_,⟨_,_,g3,hh.turn hi aa h2 h3 v⟩,g1,g2⟩
  simp[Instr.mapUpdate,run_underlying ht,MapKept.run_getObj_map hb,K.check W false aa,h1,hj,h3,K.stays W aa,MapKept.run_setObj_map _ hb,Result.andThen,ChangeMaps.setBlock]
theorem MapIs.entry{b:Nat}{f:α->Option β}{W:World}(h:MapIs P k kv vv b f W)(K:Keyed P k)(hi:∀ p q,kv p=kv q->p=q){t e:TypeId}(ht:P.underlying t=some (.map k e))(z:β)(hz:∀ u:World,(zeroValue e).run P u=.ok (vv z) u){p:α}{l:Lit}(aa:keyOf P k (kv p)=some l)(v:β) :
  ∃ W' x st W2,(Instr.mapEntry t (.map (some b)) (kv p)).run P W=.ok (.tuple #[x,st]) W'/\MapIs P k kv vv b (fun q=>if q=p then some ((f p).getD z) else f q) W'/\W.grownBy W' (some b)/\W'.heap.size=W.heap.size/\
   (Instr.entryStore t (.map (some b)) st (vv v)).run P W'=.ok () W2/\MapIs P k kv vv b (setO f p v) W2/\W'.grownBy W2 (some b)/\W2.heap.size=W'.heap.size:=by
 obtain⟨es,clock,hb,hh⟩:=h
 have hst:=hh.st
 obtain⟨s1,s2,-⟩:=hh.st
 rcases hh.find K hi aa with ⟨hf,h1,h2⟩|⟨j,e0,v0,hf,h1,h2,h3,h4⟩
 .obtain⟨g1,g2,g3⟩:=zcF hb (.map (es.push ⟨kv p,vv z,clock⟩) (clock+1))
  have e1:(Instr.mapEntry t (.map (some b)) (kv p)).run P W=.ok (.tuple #[vv z,goInt clock]) (ChangeMaps.setBlock W b (.map (es.push ⟨kv p,vv z,clock⟩) (clock+1))):=by
   simp[Instr.mapEntry,run_underlying ht,MapKept.run_getObj_map hb,K.check W false aa,h1,hz,MapKept.run_setObj_map _ hb,Result.andThen,ChangeMaps.setBlock]
  generalize ChangeMaps.setBlock W b (.map (es.push ⟨kv p,vv z,clock⟩) (clock+1))=W1 at *
  obtain⟨q1,q2,q3⟩:=zcF g3 (.map (es.push ⟨kv p,vv v,clock⟩) (clock+1))
  have hp:=hh.push aa h2 z
  refine⟨W1,vv z,goInt clock,_,e1,⟨_,_,g3,?_⟩,g1,g2,?_,⟨_,_,q3,hh.push aa h2 v⟩,q1,q2⟩
  .have ae:(fun q=>if q=p then some ((f p).getD z) else f q)=setO f p z:=by
    funext q
    rw[hf];rfl
   rw[ae]
   exact hp
  .have ab:(es.push ⟨kv p,vv z,clock⟩).findIdx? (fun e=>((e.born:Nat):Int)==((clock:Nat):Int))=some es.size:=by
    rw[WideElems.findIdx_arr]
    have:=WideElems.findIdx_born (l:=(es.push ⟨kv p,vv z,clock⟩).toList) (j:=es.size) (e0:=⟨kv p,vv z,clock⟩) hp.st.2.1 (by simp)
    exact this
   have ac:(es.push ⟨kv p,vv z,clock⟩).modify es.size (fun e=>{ e with val:=vv v })=es.push ⟨kv p,vv v,clock⟩:=by
    apply Array.ext'
    rw[Array.toList_modify,Array.toList_push,Array.toList_push,<- Array.length_toList,WideElems.modify_last]
   simp[Instr.entryStore,MapKept.run_getObj_map g3,asInt,asIntOf,goInt,ab,ac,MapKept.run_setObj_map _ g3,Result.andThen,ChangeMaps.setBlock]
 .have hj:es[j]?=some e0:=by simpa using h2
  have af:es.modify j (fun e=>{ e with key:=kv p })=es:=by
   apply Array.ext'
   rw[Array.toList_modify,ChangeMaps.modify_eq_set _ _ _ _ h2]
   have:({ e0 with key:=kv p }:MapEntry)=e0:=by rw[<- h3]
   rw[this]
   exact WideElems.set_self _ _ _ h2
  obtain⟨g1,g2,g3⟩:=zcF hb (.map es clock)
  have e1:(Instr.mapEntry t (.map (some b)) (kv p)).run P W=.ok (.tuple #[vv v0,goInt e0.born]) (ChangeMaps.setBlock W b (.map es clock)):=by
   simp[Instr.mapEntry,run_underlying ht,MapKept.run_getObj_map hb,K.check W false aa,h1,hj,h3,h4,K.stays W aa,af,MapKept.run_setObj_map _ hb,Result.andThen,ChangeMaps.setBlock]
  generalize ChangeMaps.setBlock W b (.map es clock)=W1 at *
  obtain⟨q1,q2,q3⟩:=zcF g3 (.map (es.modify j (fun e'=>{ e' with key:=kv p,val:=vv v })) clock)
  refine⟨W1,vv v0,goInt e0.born,_,e1,⟨_,_,g3,?_⟩,g1,g2,?_,⟨_,_,q3,hh.turn hi aa h2 h3 v⟩,q1,q2⟩
  .have ae:(fun q=>if q=p then some ((f p).getD z) else f q)=f:=by
    funext q
    by_cases e:q=p
    .rw[if_pos e,e,hf];rfl
    .rw[if_neg e]
   rw[ae]
   exact hh
  .have ab:es.findIdx? (fun e=>((e.born:Nat):Int)==((e0.born:Nat):Int))=some j:=by
    rw[WideElems.findIdx_arr]
    exact WideElems.findIdx_born s2 h2
   have ac:es.modify j (fun e=>{ e with val:=vv v })=es.modify j (fun e'=>{ e' with key:=kv p,val:=vv v }):=by
    apply Array.ext'
    rw[Array.toList_modify,Array.toList_modify,ChangeMaps.modify_eq_set _ _ _ _ h2,ChangeMaps.modify_eq_set _ _ _ _ h2,<- h3]
   simp[Instr.entryStore,MapKept.run_getObj_map g3,asInt,asIntOf,goInt,ab,ac,MapKept.run_setObj_map _ g3,Result.andThen,ChangeMaps.setBlock]
def RangeIs(P:Program)(k:TypeId)(kv:α->Value)(vv:β->Value)(b r:Nat)(f:α->Option β)(done:α->Bool)(cnt:Nat)(W:World):Prop:=
 ∃ es clock since seen c0,W.heap[b]?=some (.map es clock)/\Holds P k kv vv f es clock/\W.heap[r]?=some (.mapIter (some b) since seen c0)/\(∀ x∈es.toList,x.born<since)/\since<=c0/\since<=clock/\(leftOf es seen).size=cnt/\
  (∀ x∈es.toList,∀ p,x.key=kv p->done p=seen.contains x.born)/\(∀ p,done p=true->(f p).isSome=true)
theorem RangeIs.map{b r cnt:Nat}{f:α->Option β}{done:α->Bool}{W:World}(h:RangeIs P k kv vv b r f done cnt W):MapIs P k kv vv b f W:=by
 obtain⟨es,clock,since,seen,c0,h1,h2,-⟩:=h
 exact⟨es,clock,h1,h2⟩
theorem RangeIs.rlt{b r cnt:Nat}{f:α->Option β}{done:α->Bool}{W:World}(h:RangeIs P k kv vv b r f done cnt W):r<W.heap.size:=by
 obtain⟨es,clock,since,seen,c0,h1,h2,h3,-⟩:=h
 exact(qB.1 h3).1
theorem RangeIs.ne{b r cnt:Nat}{f:α->Option β}{done:α->Bool}{W:World}(h:RangeIs P k kv vv b r f done cnt W):b≠r:=by
 obtain⟨es,clock,since,seen,c0,h1,h2,h3,-⟩:=h
 intro e
 rw[e,h3] at h1
 cases h1
theorem RangeIs.of{b r cnt:Nat}{f:α->Option β}{done:α->Bool}{W W':World}(h:RangeIs P k kv vv b r f done cnt W)(e1:W'.heap[b]?=W.heap[b]?)(e2:W'.heap[r]?=W.heap[r]?):RangeIs P k kv vv b r f done cnt W':=by
 obtain⟨es,clock,since,seen,c0,h1,h2,h3,h4⟩:=h
 exact⟨es,clock,since,seen,c0,e1.trans h1,h2,e2.trans h3,h4⟩
theorem RangeIs.next_{b r cnt:Nat}{f:α->Option β}{done:α->Bool}{W W':World}(h:RangeIs P k kv vv b r f done cnt W)(hb:Below W.heap.size W W'):RangeIs P k kv vv b r f done cnt W':=h.of (hb.block b h.map.lt) (hb.block r h.rlt)
theorem RangeIs.grown{b r cnt:Nat}{f:α->Option β}{done:α->Bool}{W W':World}{row:Option Nat}(h:RangeIs P k kv vv b r f done cnt W)(hg:W.grownBy W' row)(h1:some b≠row)(h2:some r≠row):RangeIs P k kv vv b r f done cnt W':=h.of (hg.block b h.map.lt h1) (hg.block r h.rlt h2)
theorem MapIs.range{b:Nat}{f:α->Option β}{W:World}(h:MapIs P k kv vv b f W){t e:TypeId}(ht:P.underlying t=some (.map k e)) :
  ∃ W' cnt,(Instr.range t (.map (some b))).run P W=.ok (.pointer (some ⟨W.heap.size,0,none⟩)) W'/\RangeIs P k kv vv b W.heap.size f (fun _=>false) cnt W'/\Below W.heap.size W W'/\W'.heap.size=W.heap.size+1:=by
 have hlt:=h.lt
 obtain⟨es,clock,hb,hh⟩:=h
 refine⟨_,_,run_range_map W t k e b es clock ht hb,⟨es,clock,clock,#[],clock,(heap_alloc_old W _ hlt).trans hb,hh,heap_alloc_new _ _,hh.st.1,qQ _,qQ _,rfl,fun x _ p _=>by simp,fun p h=>by cases h⟩,nxA _ _,by simp⟩
theorem RangeIs.step{b r cnt:Nat}{f:α->Option β}{done:α->Bool}{W:World}(h:RangeIs P k kv vv b r f done cnt W)(hi:∀ p q,kv p=kv q->p=q)(ty:TypeId) :
  (cnt=0/\(∀ p,done p=(f p).isSome)/\(Instr.next (.pointer (some ⟨r,0,none⟩)) false ty).run P W=.ok (.tuple #[.bool false]) W)\/
  ∃ p v W' cnt',f p=some v/\done p=false/\(∃ l,keyOf P k (kv p)=some l)/\(Instr.next (.pointer (some ⟨r,0,none⟩)) false ty).run P W=.ok (.tuple #[.bool true,kv p,vv v]) W'/\RangeIs P k kv vv b r f (fun q=>done q||decide (q=p)) cnt' W'/\cnt'<cnt/\
   W.grownBy W' (some r)/\W'.heap.size=W.heap.size/\(Instr.entry (.pointer (some ⟨r,0,none⟩))).run P W'=.ok (.tuple #[kv p,vv v]) W':=by
 have ak:=h.ne
 obtain⟨es,clock,since,seen,c0,hb,hh,hr,af,am,ag,rfl,hd,ah⟩:=h
 rcases run_next_at (P:=P) W ty r b since c0 seen es clock hr hb af am with ⟨h0,aa⟩|⟨e,he,w1,ae,aa⟩
 .refine .inl ⟨h0,fun p=>?_,aa⟩
  cases hf:f p with
 |none=>
   cases hdp:done p with
  |false=>rfl
  |true=>
    have:=ah p hdp
    rw[hf] at this
    cases this
 |some v=>
   obtain⟨x,hx,hk⟩:=hh.al p v hf
   rw[hd x hx p hk]
   exact all_seen es seen h0 x hx
 .obtain⟨ac,an⟩:=mem_left he
  obtain⟨p,v,l,h1,h2,h3,h4⟩:=hh.en e ac
  have hst:=(MapKept.stamped_iff es clock).1 hh.st
  have ao:w1.heap[r]?=some (.mapIter (some b) since seen c0):=by rcases ae with rfl|rfl <;> exact hr
  have aq:w1.heap[b]?=some (.map es clock):=by rcases ae with rfl|rfl <;> exact hb
  have ab:=MapKept.heap_set (o':=.mapIter (some b) since (seen.push e.born) clock) ao
  have ai:(ChangeMaps.setBlock w1 r (.mapIter (some b) since (seen.push e.born) clock)).heap[b]?=some (.map es clock):=(ab.2 b ak).trans aq
  rw[h2,h3] at aa
  have aj:=run_entry_at (P:=P) _ r b since seen es clock e ab.1 ai ac hst.2.1
  rw[h2,h3] at aj
  refine .inr ⟨p,v,_,_,h4,by rw[hd e ac p h2,an],⟨l,h1⟩,aa,⟨es,clock,since,seen.push e.born,clock,ai,hh,ab.1,af,ag,ag,rfl,fun x hx q hq=>?_,fun q hq=>?_⟩,left_shrinks es seen e he,?_,?_,aj⟩
  .show(done q||decide (q=p))=_
   rw[hd x hx q hq,contains_push]
   by_cases e1:q=p
   .subst e1
    have:x=e:=entry_eq_of_key hst.2.2 hx ac (hq.trans h2.symm)
    subst this
    simp
   .have ar:(x.born==e.born)=false:=by
     cases hc:x.born==e.born with
    |false=>rfl
    |true=>
      have:=born_inj hst.2.1 hx ac (by simpa using hc)
      subst this
      exact absurd (hi _ _ (hq.symm.trans h2)) e1
    simp[e1,ar]
  .simp only[Bool.or_eq_true,qC] at hq
   rcases hq with hq|rfl
   .exact ah q hq
   .rw[h4];rfl
  .rcases ae with rfl|rfl <;> exact⟨rfl,rfl,rfl,by simp[ChangeMaps.setBlock],fun i _ hi=>ab.2 i (fun e1=>hi (by rw[e1]))⟩
  .rcases ae with rfl|rfl <;> simp[ChangeMaps.setBlock]
end
end Cu
namespace Cu
open Go.RowKit
open Go.Maps (Keyed)
theorem znt(l:List Int):l.any badPc=!l.all (fun x=>inS x 0 39):=by
 rw[List.all_eq_not_any_not,Bool.not_not];rfl
theorem zmV(c:Cut)(w:World)(hr:CutAt w w.heap.size c):Calls Tryz.prog 73 #[.agg #[.int .i64 c.wide,.int .i64 c.high,.slice c.A c.piece.length c.c]] w (Ret (.bool (cutS c)) w):=by
 have l1:=hr.l1
 have HC:=qG (show cutS c=(inS c.wide 1 12&&(inS c.high 1 12&&(decide ((c.piece.length:Int)=c.wide*c.high)&&c.piece.all (fun x=>inS x 0 39)))) from rfl)
 have hX:=Bx.new w #[.int .i64 c.wide,.int .i64 c.high,.slice c.A c.piece.length c.c] 57
 have hB:=nxA w (.cells #[.int .i64 c.wide,.int .i64 c.high,.slice c.A c.piece.length c.c] 57)
 have c0:=hX.c 0 _ rfl
 have c1:=hX.c 1 _ rfl
 have c2:=hX.c 2 _ rfl
 have HX:=qG hX
 have HB:=qG hB
 have HR:=qG (hr.next hB)
 clear hX hB hr
 go_enter Tryz.func73,Tryz.ntmps73
 go_upto_region 1 with fail
 generalize(w.alloc (.cells #[.int .i64 c.wide,.int .i64 c.high,.slice c.A c.piece.length c.c] 57))=V at *
 cases h1:inS c.wide 1 12
 .go_wp2_with (go_at_call 140;(with_reducible refine(zam _ _ _ _).mono ?_);rintro e w' ⟨rfl,rfl⟩)
  go_ret
  exact⟨by rw[HC.o,h1];rfl,HB.o⟩
 cases h2:inS c.high 1 12
 .go_wp2_with (go_at_call 140;(with_reducible refine(zam _ _ _ _).mono ?_);rintro e w' ⟨rfl,rfl⟩)
  go_ret
  exact⟨by rw[HC.o,h1,h2];rfl,HB.o⟩
 have h3:1<=c.wide/\c.wide<=12/\1<=c.high/\c.high<=12:=by unfold inS at h1 h2;simp at h1 h2;omega
 have h4:0<=c.wide*c.high/\c.wide*c.high<=144:=⟨Int.mul_nonneg (by omega) (by omega),Int.le_trans (Int.mul_le_mul h3.2.1 h3.2.2.2 (by omega) (by omega)) (by decide)⟩
 have aa:IntKind.i64.wrap (c.wide*c.high)=c.wide*c.high:=qF _ (by omega)
 by_cases h5:(c.piece.length:Int)=c.wide*c.high
 .have e5:((c.piece.length:Int)==c.wide*c.high)=true:=by simp;exact h5
  have e6:=qG (show decide ((c.piece.length:Int)=c.wide*c.high)=true by simp;exact h5)
  obtain⟨m,hm⟩:∃ m,c.wide*c.high=m:=⟨_,rfl⟩
  rw[hm] at h5 h4 e5 aa
  go_wp2_with (first|(go_at_call 140;(with_reducible refine(zam _ _ _ _).mono ?_);rintro e w' ⟨rfl,rfl⟩)|fail)
  refine(zha _ _ _ _ HR.o.pa HR.o.l1).mono ?_
  rintro e w1 ⟨rfl,rfl⟩
  go_wp2
  go_ret
  exact⟨by rw[HC.o,h1,h2,e6.o,znt,Bool.not_not];rfl,HB.o⟩
 .have e5:((c.piece.length:Int)==c.wide*c.high)=false:=by simp;exact h5
  have e6:=qG (show decide ((c.piece.length:Int)=c.wide*c.high)=false by simp;exact h5)
  obtain⟨m,hm⟩:∃ m,c.wide*c.high=m:=⟨_,rfl⟩
  rw[hm] at h5 h4 e5 aa
  go_wp2_with (go_at_call 140;(with_reducible refine(zam _ _ _ _).mono ?_);rintro e w' ⟨rfl,rfl⟩)
  go_ret
  exact⟨by rw[HC.o,h1,h2,e6.o];rfl,HB.o⟩
def kv2(p:Pt):Value:=.agg #[.int .i64 p.1,.int .i64 p.2]
def vvI(x:Int):Value:=.int .i64 x
def vvB(x:Bool):Value:=.bool x
theorem zbK:∀ p q:Pt,kv2 p=kv2 q->p=q:=fun p q h=>by
 unfold kv2 at h
 injection h with h
 have h1:=congrArg (fun a=>a.toList) h
 simp at h1
 obtain⟨p1,p2⟩:=p
 obtain⟨q1,q2⟩:=q
 simp only at h1
 rw[h1.1,h1.2]
theorem zeC:Tryz.prog.underlying 261=some (.struct (Tryz.prog.fieldsOf 261)):=by kernel_rfl
theorem zek:Tryz.prog.underlying 365=some (.struct (Tryz.prog.fieldsOf 365)):=by kernel_rfl
theorem zeo:Tryz.prog.underlying 154=some (.map 261 3):=by kernel_rfl
theorem zge:Tryz.prog.underlying 262=some (.map 261 4):=by kernel_rfl
theorem zds:Tryz.prog.underlying 362=some (.map 365 3):=by kernel_rfl
theorem zp9:Tryz.prog.underlying 3=some (.int .i64):=by kernel_rfl
theorem zcQ:Keyed Tryz.prog 261:=Keyed.of_law (deep_law (m:=3) (by decide) (by kernel_rfl) (by kernel_rfl) (by rw[zeC]))
theorem zc9:Keyed Tryz.prog 365:=Keyed.of_law (deep_law (m:=3) (by decide) (by kernel_rfl) (by kernel_rfl) (by rw[zek]))
theorem zdk(u:World):(zeroValue 3).run Tryz.prog u=.ok (vvI 0) u:=by kernel_rfl
theorem zhX(u:World):(zeroValue 4).run Tryz.prog u=.ok (vvB false) u:=by kernel_rfl
theorem zeq(D:Nat){x:Int}(h:(Lit.int .i64 x).wf=true):Tryz.prog.keyLits (D+1) 3 [.int .i64 x]=some [.int .i64 x]:=by
 unfold Program.keyLits
 rw[zp9]
 simp[h]
theorem znh(D:Nat){x y:Int}(hx:(Lit.int .i64 x).wf=true)(hy:(Lit.int .i64 y).wf=true):Tryz.prog.keyLits (D+2) 261 [.int .i64 x,.int .i64 y]=some [.int .i64 x,.int .i64 y]:=by
 have hs:(Tryz.prog.fieldsOf 261).size=2:=by kernel_rfl
 have hl:(Tryz.prog.fieldsOf 261).toList=[(Tryz.prog.fieldsOf 261)[0],(Tryz.prog.fieldsOf 261)[1]]:=by kernel_rfl
 have e1:(Tryz.prog.fieldsOf 261)[0].type=3:=by kernel_rfl
 have e2:(Tryz.prog.fieldsOf 261)[0].offset=0:=by kernel_rfl
 have e3:(Tryz.prog.fieldsOf 261)[1].type=3:=by kernel_rfl
 have e4:(Tryz.prog.fieldsOf 261)[1].offset=1:=by kernel_rfl
 have ea:(Tryz.prog.fieldsOf 261).all (·.name != "_")=true:=by kernel_rfl
 have c2:Tryz.prog.cellsOf 261=2:=by kernel_rfl
 have c1:Tryz.prog.cellsOf 3=1:=by kernel_rfl
 unfold Program.keyLits
 rw[zeC]
 simp only[ea,c2,hl]
 simp[e1,e2,e3,e4,c1,zeq D hx,zeq D hy]
theorem zmu(D:Nat){x y:Int}(hx:(Lit.int .i64 x).wf=true)(hy:(Lit.int .i64 y).wf=true):Tryz.prog.keyLits (D+2) 365 [.int .i64 x,.int .i64 y]=some [.int .i64 x,.int .i64 y]:=by
 have hs:(Tryz.prog.fieldsOf 365).size=2:=by kernel_rfl
 have hl:(Tryz.prog.fieldsOf 365).toList=[(Tryz.prog.fieldsOf 365)[0],(Tryz.prog.fieldsOf 365)[1]]:=by kernel_rfl
 have e1:(Tryz.prog.fieldsOf 365)[0].type=3:=by kernel_rfl
 have e2:(Tryz.prog.fieldsOf 365)[0].offset=0:=by kernel_rfl
 have e3:(Tryz.prog.fieldsOf 365)[1].type=3:=by kernel_rfl
 have e4:(Tryz.prog.fieldsOf 365)[1].offset=1:=by kernel_rfl
 have ea:(Tryz.prog.fieldsOf 365).all (·.name != "_")=true:=by kernel_rfl
 have c2:Tryz.prog.cellsOf 365=2:=by kernel_rfl
 have c1:Tryz.prog.cellsOf 3=1:=by kernel_rfl
 unfold Program.keyLits
 rw[zek]
 simp only[ea,c2,hl]
 simp[e1,e2,e3,e4,c1,zeq D hx,zeq D hy]
theorem ziO{x:Int}(h:-9223372036854775808<=x/\x<=9223372036854775807):(Lit.int .i64 x).wf=true:=WalkArith.wf_i64 h
theorem zdA(x y:Int)(hx:-9223372036854775808<=x/\x<=9223372036854775807)(hy:-9223372036854775808<=y/\y<=9223372036854775807):∃ l,keyOf Tryz.prog 261 (.agg #[.int .i64 x,.int .i64 y])=some l:=by
 have hk:Tryz.prog.keyType 261=true:=by kernel_rfl
 have c2:Tryz.prog.cellsOf 261=2:=by kernel_rfl
 have hs:Tryz.prog.types.size+1=(Tryz.prog.types.size-1)+2:=by kernel_rfl
 have hL:=znh (Tryz.prog.types.size-1) (ziO hx) (ziO hy)
 rw[<- hs] at hL
 unfold keyOf
 rw[zeC]
 dsimp only
 have hf:Value.formed Tryz.prog 261 (.agg #[.int .i64 x,.int .i64 y])=true:=by
  unfold Value.formed
  rw[zeC]
  simp[c2]
 rw[if_pos (by rw[hk,hf];rfl)]
 exact⟨_,by rw[show(Value.agg #[.int .i64 x,.int .i64 y]).cells.toList=[.int .i64 x,.int .i64 y] from rfl,hL];rfl⟩
theorem zjk(x y:Int)(hx:-9223372036854775808<=x/\x<=9223372036854775807)(hy:-9223372036854775808<=y/\y<=9223372036854775807):∃ l,keyOf Tryz.prog 365 (.agg #[.int .i64 x,.int .i64 y])=some l:=by
 have hk:Tryz.prog.keyType 365=true:=by kernel_rfl
 have c2:Tryz.prog.cellsOf 365=2:=by kernel_rfl
 have hs:Tryz.prog.types.size+1=(Tryz.prog.types.size-1)+2:=by kernel_rfl
 have hL:=zmu (Tryz.prog.types.size-1) (ziO hx) (ziO hy)
 rw[<- hs] at hL
 unfold keyOf
 rw[zek]
 dsimp only
 have hf:Value.formed Tryz.prog 365 (.agg #[.int .i64 x,.int .i64 y])=true:=by
  unfold Value.formed
  rw[zek]
  simp[c2]
 rw[if_pos (by rw[hk,hf];rfl)]
 exact⟨_,by rw[show(Value.agg #[.int .i64 x,.int .i64 y]).cells.toList=[.int .i64 x,.int .i64 y] from rfl,hL];rfl⟩
def picF(c:Cut)(p:Pt):Option Int:=if isIn c p.1 p.2=true then some (at2 c p.1 p.2) else none
abbrev PicAt(c:Cut)(b:Nat)(W:World):Prop:=MapIs Tryz.prog 261 kv2 vvI b (picF c) W
theorem zcE{c:Cut}(p:Pt):(picF c p).isSome=isIn c p.1 p.2:=by
 unfold picF
 by_cases h:isIn c p.1 p.2=true
 .rw[if_pos h,h];rfl
 .rw[if_neg h];simp at h;rw[h];rfl
theorem zga{c:Cut}(p:Pt):(picF c p).getD (-1)=at2 c p.1 p.2:=by
 unfold picF
 by_cases h:isIn c p.1 p.2=true
 .rw[if_pos h];rfl
 .rw[if_neg h]
  unfold at2
  rw[if_neg h];rfl
theorem PicAt.look{c:Cut}{b:Nat}{W:World}(h:PicAt c b W)(x y:Int)(hx:-9223372036854775808<=x/\x<=9223372036854775807)(hy:-9223372036854775808<=y/\y<=9223372036854775807) :
  (Instr.lookup 154 (.map (some b)) (.agg #[.int .i64 x,.int .i64 y]) false).run Tryz.prog W=.ok (.int .i64 ((picF c (x,y)).getD 0)) W/\
  (Instr.lookup 154 (.map (some b)) (.agg #[.int .i64 x,.int .i64 y]) true).run Tryz.prog W=.ok (.tuple #[.int .i64 ((picF c (x,y)).getD 0),.bool (isIn c x y)]) W:=by
 obtain⟨l,hl⟩:=zdA x y hx hy
 have:=MapIs.look (p:=((x,y):Pt)) h zcQ zbK zeo zdk hl
 rw[show((picF c (x,y)).elim (vvI 0) vvI)=.int .i64 ((picF c (x,y)).getD 0) by cases picF c (x,y) <;> rfl,zcE] at this
 exact this
end Cu
namespace Cu
def za2(c:Cut)(i:Nat):Pt:=(colI c i,rowI c i)
theorem zhR{c:Cut}(ok:OkC c){i:Nat}(hi:i<c.piece.length):inG c (za2 c i)/\pcOf c (za2 c i)=atI c i:=⟨(ok.cell hi).1,ok.at_cell hi⟩
theorem zd7{c:Cut}(ok:OkC c){p:Pt}(h:inG c p):∃ j,j<c.piece.length/\p=za2 c j/\(j:Int)=p.2*c.wide+p.1:=by
 obtain⟨h1,h2,h3,h4⟩:=ok.idx h
 refine⟨(p.2*c.wide+p.1).toNat,by omega,?_,by omega⟩
 have e:(((p.2*c.wide+p.1).toNat:Nat):Int)=p.2*c.wide+p.1:=by omega
 unfold za2 colI rowI
 rw[e,h3,h4]
theorem zoT{c:Cut}(ok:OkC c){i j:Nat}(hi:i<c.piece.length)(hj:j<c.piece.length)(h:za2 c i=za2 c j):i=j:=by
 have h1:=(ok.cell hi).2.1
 have h2:=(ok.cell hj).2.1
 unfold za2 at h
 injection h with e1 e2
 rw[e1,e2] at h1
 omega
def zda(f:Nat->Bool)(n:Nat):Nat:=(List.range n).countP f
theorem zcM(f:Nat->Bool)(n:Nat):zda f (n+1)=zda f n+(if f n=true then 1 else 0):=by
 unfold zda;rw[List.range_succ,List.countP_append,List.countP_singleton]
theorem zju(f:Nat->Bool):∀ n,zda f n<=n
|0=>qQ _
|n+1=>by rw[zcM];have:=zju f n;split <;> omega
theorem zgP{f g:Nat->Bool}:∀{n:Nat},(∀ k,k<n->f k=true->g k=true)->zda f n<=zda g n
|0,_=>qQ _
|n+1,h=>by
  rw[zcM,zcM]
  have h1:=zgP (n:=n) fun k hk=>h k (by omega)
  have h2:=h n (by omega)
  by_cases hf:f n=true
  .rw[if_pos hf,if_pos (h2 hf)];omega
  .rw[if_neg hf];omega
end Cu
namespace Cu
open Go.RowKit
def I64(x:Int):Prop:=-9223372036854775808<=x/\x<=9223372036854775807
theorem zeV(c:Cut)(b:Nat)(x y:Int)(w:World)(hp:PicAt c b w)(hx:I64 x)(hy:I64 y):Calls Tryz.prog 144 #[.agg #[.int .i64 c.wide,.int .i64 c.high,.slice c.A c.piece.length c.c,.map (some (b))],.agg #[.int .i64 x,.int .i64 y]] w (Ret (.int .i64 (at2 c x y)) w):=by
 have aa:=nxA w (.cells #[.int .i64 c.wide,.int .i64 c.high,.slice c.A c.piece.length c.c,.map (some (b))] 156)
 have ab:=aa.trans ((nxA (w.alloc (.cells #[.int .i64 c.wide,.int .i64 c.high,.slice c.A c.piece.length c.c,.map (some (b))] 156)) (.cells #[.int .i64 x,.int .i64 y] 261)).mono aa.size)
 have hX:=(Bx.new w #[.int .i64 c.wide,.int .i64 c.high,.slice c.A c.piece.length c.c,.map (some (b))] 156).next (nxA _ (.cells #[.int .i64 x,.int .i64 y] 261))
 have hY:=Bx.new (w.alloc (.cells #[.int .i64 c.wide,.int .i64 c.high,.slice c.A c.piece.length c.c,.map (some (b))] 156)) #[.int .i64 x,.int .i64 y] 261
 rw[World.size_alloc] at hY
 obtain⟨-,hL⟩:=PicAt.look (hp.next ab) x y hx hy
 have HV:=qG (zga (c:=c) (x,y))
 have HG:=qG (zcE (c:=c) (x,y))
 have HB:=qG ab
 clear hp aa ab hx hy
 go_enter Tryz.func144,Tryz.ntmps144
 go_upto_region 1 with fail
 generalize(w.alloc (.cells #[.int .i64 c.wide,.int .i64 c.high,.slice c.A c.piece.length c.c,.map (some (b))] 156)).alloc (.cells #[.int .i64 x,.int .i64 y] 261)=V at *
 have c3:=hX.c 3 _ rfl
 have d0:=hY.c 0 _ rfl
 have d1:=hY.c 1 _ rfl
 clear hX hY
 cases hi:isIn c x y
 .rw[hi] at hL
  have HE:=qG (show at2 c x y=-1 from by unfold at2;rw[hi];rfl)
  go_wp2_with fail
  go_ret
  exact⟨by rw[HE.o];rfl,HB.o⟩
 .rw[hi] at hL
  have HE:=qG (show(picF c (x,y)).getD 0=at2 c x y from by unfold picF;rw[if_pos hi];rfl)
  go_wp2_with fail
  go_ret
  exact⟨by rw[<- HE.o];rfl,HB.o⟩
def upF(c:Cut)(j:Nat)(p:Pt):Option Int:=if isIn c p.1 p.2=true/\p.2*c.wide+p.1<j then some (at2 c p.1 p.2) else none
theorem znD{c:Cut}(ok:OkC c)(p:Pt):upF c 0 p=none:=by
 unfold upF
 rw[if_neg]
 rintro⟨h1,h2⟩
 have:=ok.idx h1
 omega
theorem zpA{c:Cut}(ok:OkC c)(p:Pt):upF c c.piece.length p=picF c p:=by
 unfold upF picF
 by_cases h:isIn c p.1 p.2=true
 .have:=ok.idx h
  rw[if_pos ⟨h,by omega⟩,if_pos h]
 .rw[if_neg (fun h'=>h h'.1),if_neg h]
theorem znE{c:Cut}(ok:OkC c){j:Nat}(hj:j<c.piece.length)(p:Pt):setO (upF c j) (za2 c j) (atI c j) p=upF c (j+1) p:=by
 obtain⟨h1,h2,-⟩:=ok.cell hj
 have h3:=ok.at_cell hj
 unfold setO
 by_cases e:p=za2 c j
 .subst e
  rw[if_pos rfl]
  unfold upF za2
  rw[if_pos ⟨h1,by dsimp only;omega⟩]
  dsimp only
  rw[h3]
 .rw[if_neg e]
  unfold upF
  by_cases h:isIn c p.1 p.2=true
  .have aa:p.2*c.wide+p.1≠j:=fun e2=>by
    obtain⟨k,hk,e3,e4⟩:=zd7 ok h
    have:k=j:=by omega
    subst this
    exact e e3
   by_cases h5:p.2*c.wide+p.1<j
   .rw[if_pos ⟨h,h5⟩,if_pos ⟨h,by omega⟩]
   .rw[if_neg (fun h'=>h5 h'.2),if_neg (fun h'=>h5 (by have:=h'.2;omega))]
  .rw[if_neg (fun h'=>h h'.1),if_neg (fun h'=>h h'.1)]
def picL(c:Cut)(b:Nat):List Value:=[.int .i64 c.wide,.int .i64 c.high,.slice c.A c.piece.length c.c,.map (some b)]
def zre:List Value:=[.int .i64 0,.int .i64 0,.slice none 0 0,.map none]
theorem zlF{w:World}{b:Nat}{a0 a1 a2 a3:Value}(h:Bx w b [a0,a1,a2,a3]):(loadVar 156 ⟨b,0,none⟩).run Tryz.prog w=.ok (.agg #[a0,a1,a2,a3]) w:=by
 have c0:=h.c 0 _ rfl
 have c1:=h.c 1 _ rfl
 have c2:=h.c 2 _ rfl
 have c3:=h.c 3 _ rfl
 clear h
 go_simp
def zea(c:Cut)(w:World)(e:Ending)(w':World):Prop:=∃ b,e=.returned (.agg #[.int .i64 c.wide,.int .i64 c.high,.slice c.A c.piece.length c.c,.map (some (b))])/\w.heap.size<=b/\PicAt c b w'/\Below w.heap.size w w'
theorem Bx.gk{W W':World}{row:Option Nat}{b:Nat}{vs:List Value}(h:Bx W b vs)(hg:W.grownBy W' row)(hr:∀ r,row=some r->b≠r):Bx W' b vs:=by
 have hk:=hg.block b h.lt (fun e=>hr b e.symm rfl)
 exact⟨qM h.lt hg.size,fun j u hu=>(World.cell?_of_block (a:=⟨b,j,none⟩) hk).trans (h.c j u hu),fun j=>(World.frozen?_of_block (a:=⟨b,j,none⟩) hk).trans (h.fr j)⟩
theorem zaH{fn:Func}{p:Tmp}{ty:TypeId}(h:fn.results=#[.cell p ty]){tmps:Array Value}{P:Program}{w:World}{a:Addr}{v:Value}(hp:tmps.getD p undef=.pointer (some a))(hv:(loadVar ty a).run P w=.ok v w) :
  (results fn tmps).run P w=.ok v w:=by
 have aa:tmps[p]?.getD undef=.pointer (some a):=by simpa using hp
 simp[results,h,aa,asAddr,hv]
theorem zb5{W:World}{b q:Nat}(h:b≠q)(o:Nat)(v:Value):(W.setCell ⟨b,o,none⟩ v).heap[q]?=W.heap[q]?:=by
 unfold World.setCell;rw[Array.getElem?_modify,if_neg (by show ¬ b=q;exact h)]
theorem zcc(b q:Nat)(h:b≠q):∀(vs:List Value) (j:Nat) (W:World),(setCells W b j vs).heap[q]?=W.heap[q]?
|[],_,_=>rfl
|v :: vs,j,_=>(zcc b q h vs (j+1) _).trans (zb5 h j v)
structure RNP(c:Cut)(w:World)(i:Value)(W:World)(j:Nat):Prop where
 hj:j<=c.piece.length
 i:i=.int .i64 j
 m:MapIs Tryz.prog 261 kv2 vvI (w.heap.size+1+1) (upF c j) W
 x0:Bx W w.heap.size (cutL c)
 x1:Bx W (w.heap.size+1) zre
 x3:Bx W (w.heap.size+1+1+1) (picL c (w.heap.size+1+1))
 b:Below w.heap.size w W
theorem zd2(c:Cut)(w:World)(ok:OkC c)(hr:CutAt w w.heap.size c):Calls Tryz.prog 74 #[.agg #[.int .i64 c.wide,.int .i64 c.high,.slice c.A c.piece.length c.c]] w (zea c w):=by
 have an:=@run_makeMap Tryz.prog
 have hw:=ok.w
 have hh:=ok.h
 have az:(c.piece.length:Int)<=144:=by
  have:=ok.h
  have:=Int.mul_le_mul hw.2 (ok.h).2 (show(0:Int)<=c.high by omega) (show(0:Int)<=12 by omega)
  have:=ok.len
  omega
 have hn:=nxA w (.cells #[.int .i64 c.wide,.int .i64 c.high,.slice c.A c.piece.length c.c] 57)
 have ae:=nxA (w.alloc (.cells #[.int .i64 c.wide,.int .i64 c.high,.slice c.A c.piece.length c.c] 57)) (.cells #[.int .i64 0,.int .i64 0,.slice none 0 0,.map none] 156)
 have ab:=nxA ((w.alloc (.cells #[.int .i64 c.wide,.int .i64 c.high,.slice c.A c.piece.length c.c] 57)).alloc (.cells #[.int .i64 0,.int .i64 0,.slice none 0 0,.map none] 156)) (.map #[] 0)
 have ac:=nxA (((w.alloc (.cells #[.int .i64 c.wide,.int .i64 c.high,.slice c.A c.piece.length c.c] 57)).alloc (.cells #[.int .i64 0,.int .i64 0,.slice none 0 0,.map none] 156)).alloc (.map #[] 0)) (.cells #[.int .i64 c.wide,.int .i64 c.high,.slice c.A c.piece.length c.c,.map (some (w.heap.size+1+1))] 156)
 have X0:=qG ((((Bx.new w #[.int .i64 c.wide,.int .i64 c.high,.slice c.A c.piece.length c.c] 57).next ae).next ab).next ac)
 have X1:=qG (((Bx.new (w.alloc (.cells #[.int .i64 c.wide,.int .i64 c.high,.slice c.A c.piece.length c.c] 57)) #[.int .i64 0,.int .i64 0,.slice none 0 0,.map none] 156).next ab).next ac)
 have XM:=qG ((MapIs.made Tryz.prog 261 kv2 vvI ((w.alloc (.cells #[.int .i64 c.wide,.int .i64 c.high,.slice c.A c.piece.length c.c] 57)).alloc (.cells #[.int .i64 0,.int .i64 0,.slice none 0 0,.map none] 156))).next ac)
 have X3:=qG (Bx.new (((w.alloc (.cells #[.int .i64 c.wide,.int .i64 c.high,.slice c.A c.piece.length c.c] 57)).alloc (.cells #[.int .i64 0,.int .i64 0,.slice none 0 0,.map none] 156)).alloc (.map #[] 0)) #[.int .i64 c.wide,.int .i64 c.high,.slice c.A c.piece.length c.c,.map (some (w.heap.size+1+1))] 156)
 have HB:=qG (hn.trans ((ae.trans ((ab.trans (ac.mono ab.size)).mono ae.size)).mono hn.size))
 have HR:=qG (hr.next HB.o)
 have OK:=qG ok
 have ao:=qG hr
 clear hr hn ae ab ac
 simp only[World.size_alloc] at X1 XM X3
 go_enter Tryz.func74,Tryz.ntmps74
 go_upto_region 2 with fail
 generalize(((w.alloc (.cells #[.int .i64 c.wide,.int .i64 c.high,.slice c.A c.piece.length c.c] 57)).alloc (.cells #[.int .i64 0,.int .i64 0,.slice none 0 0,.map none] 156)).alloc (.map #[] 0)).alloc (.cells #[.int .i64 c.wide,.int .i64 c.high,.slice c.A c.piece.length c.c,.map (some (w.heap.size+1+1))] 156)=V at *
 clear an
 have c2:=X0.o.c 2 _ rfl
 go_wp2_with fail
 clear c2
 go_loopw [12] (fun i wr=>∃ j,RNP c w i wr j) (fun i _=>c.piece.length-(intOf i).toNat)
 case atStart=>exact⟨0,by omega,rfl,XM.o.eq (fun p=>(znD OK.o p).symm),X0.o,X1.o,X3.o,HB.o⟩
 case round=>
  obtain⟨j,hN⟩:=hrel
  have hj:=hN.hj
  obtain rfl:=hN.i
  generalize wr=W1 at *
  by_cases hlt:j<c.piece.length
  .have aA:=HB.o.size
   have aB:=hN.b
   obtain⟨b,off,e,aC,g0⟩:=zb4 (ao.o.below hN.b).pa hlt
   have aD:=OK.o.cell hlt
   have ak:=OK.o.at_cell hlt
   rw[e]
   replace g0:W1.cell? ⟨b,off+j,none⟩=some (.int .i64 (atI c j)):=g0
   have c0:=hN.x0.c 0 _ rfl
   have f3:=hN.x3.c 3 _ rfl
   obtain⟨l,hl⟩:=zdA (colI c j) (rowI c j) (by omega) (by omega)
   obtain⟨W2,ag,ah,aa,aq⟩:=(hN.m.of (W':=W1.drew) rfl).upd zcQ zbK zeo (p:=za2 c j) hl (atI c j)
   replace ag:(Instr.mapUpdate 154 (.map (some (w.heap.size+1+1))) (.agg #[.int .i64 (colI c j),.int .i64 (rowI c j)]) (.int .i64 (atI c j))).run Tryz.prog W1.drew=.ok () W2:=ag
   have ai:=hN.x0.lt
   have aj:=hN.x3.lt
   have k0:W2.cell? ⟨w.heap.size,0,none⟩=some (.int .i64 c.wide):=(World.cell?_of_block (a:=⟨w.heap.size,0,none⟩) (aa.block w.heap.size ai (fun e=>by injection e with e;omega))).trans c0
   have k3:W2.cell? ⟨w.heap.size+1+1+1,3,none⟩=some (.map (some (w.heap.size+1+1))):=(World.cell?_of_block (a:=⟨w.heap.size+1+1+1,3,none⟩) (aa.block (w.heap.size+1+1+1) aj (fun e=>by injection e with e;omega))).trans f3
   have ar:=qG (ah.eq (znE OK.o hlt))
   have au:=qG (hN.x0.drew.gk aa (fun r e=>by injection e with e;omega))
   have aw:=qG (hN.x1.drew.gk aa (fun r e=>by injection e with e;omega))
   have ax:=qG (hN.x3.drew.gk aa (fun r e=>by injection e with e;omega))
   have ay:=qG (hN.b.drew.grown aa hN.b.drew.size (fun k e=>by injection e with e;omega))
   have aE:Int.tmod (j:Int) c.wide=colI c j:=Int.tmod_eq_emod_of_nonneg (by omega)
   have aF:Int.tdiv (j:Int) c.wide=rowI c j:=Int.tdiv_eq_ediv_of_nonneg (by omega)
   have aG:(j:Int) % c.wide=colI c j:=rfl
   have aH:(j:Int) / c.wide=rowI c j:=rfl
   have aI:¬ c.wide=0:=by omega
   have aJ:IntKind.i64.wrap (rowI c j)=rowI c j:=qF _ (by omega)
   have aK:=OK.o.pc (atI c j) (by unfold atI;rw[za4 hlt];exact List.getElem_mem _)
   clear ah hN ak aa aq ai aj hl
   generalize atI c j=pv at *
   go_upto_region 5 with fail
   have H1:=qG (show ∀ W:World,W.heap=W1.heap->(W.cell? ⟨w.heap.size,0,none⟩=some (.int .i64 c.wide)/\W.cell? ⟨w.heap.size+1+1+1,3,none⟩=some (.map (some (w.heap.size+1+1)))) from fun W h=>⟨by rw[<- c0];unfold World.cell?;rw[h],by rw[<- f3];unfold World.cell?;rw[h]⟩)
   refine wp_region_noPanic ?_
   refine wp_region_held_drew (S:=(fun W=>W.cell? ⟨w.heap.size,0,none⟩=some (.int .i64 c.wide)/\W.cell? ⟨w.heap.size+1+1+1,3,none⟩=some (.map (some (w.heap.size+1+1))))) (by kernel_rfl) ?_ (fun af=>?_)
   ·(try dsimp only);exact H1.o _ rfl
   refine ht 0 (h:=?_)
   refine ht 1 (h:=?_)
   refine ht 2 (h:=?_)
   refine ht 3 (h:=?_)
   refine ht 4 (h:=?_)
   refine ht 5 (h:=?_)
   refine ht 6 (h:=?_)
   refine ht 7 (h:=?_)
   refine ht 8 (h:=?_)
   refine ht 9 (h:=?_)
   refine ht 10 (h:=?_)
   refine ht 11 (h:=?_)
   refine r1 (i:=12) (by kernel_rfl) rfl fun K hK=>?_
   go_simp
   refine hK.out _ _ ?_ (fun af=>?_)
   ·(try dsimp only);exact⟨k0,k3⟩
   clear hK K
   try simp only[qW]
   refine wpAnyH_done (by kernel_rfl) ?_ _
   refine NoPanic.normal ?_
   iterate 14 (try clear af)
   go_wp2_with fail
   go_roundw
   case rel=>exact⟨j+1,by omega,by go_num,ar.o,au.o,aw.o,ax.o,ay.o⟩
   case measure=>simp[intOf];omega
  .obtain rfl:j=c.piece.length:=by omega
   have z0:=hN.x1.c 0 _ rfl
   have z1:=hN.x1.c 1 _ rfl
   have z2:=hN.x1.c 2 _ rfl
   have z3:=hN.x1.c 3 _ rfl
   have y0:=hN.x1.fr 0
   have y1:=hN.x1.fr 1
   have y2:=hN.x1.fr 2
   have y3:=hN.x1.fr 3
   have p0:=hN.x3.c 0 _ rfl
   have p1:=hN.x3.c 1 _ rfl
   have p2:=hN.x3.c 2 _ rfl
   have p3:=hN.x3.c 3 _ rfl
   have HN:=qG hN
   clear hN
   go_wp2_with fail
   have am:=zlF (HN.o.x1.setAll [.int .i64 c.wide,.int .i64 c.high,.slice c.A c.piece.length c.c,.map (some (w.heap.size+1+1))] rfl)
   ((try simp only[Exit.inBlock,Exit.then]);refine bodyPost_ret (zaH rfl rfl am) rfl ?_)
   refine⟨w.heap.size+1+1,rfl,by omega,?_,zac (b:=w.heap.size+1) (by omega) [.int .i64 c.wide,.int .i64 c.high,.slice c.A c.piece.length c.c,.map (some (w.heap.size+1+1))] 0 HN.o.b⟩
   exact(HN.o.m.of (zcc (w.heap.size+1) (w.heap.size+1+1) (by omega) [.int .i64 c.wide,.int .i64 c.high,.slice c.A c.piece.length c.c,.map (some (w.heap.size+1+1))] 0 W1)).eq (zpA OK.o)
def Only(Q:Exit->Act->World->Prop):Exit->Act->World->Prop
|.normal,a,w=>Q .normal a w
|_,_,_=>False
theorem Only.shut{Q:Exit->Act->World->Prop}:¬ LetsOut (Only Q):=fun⟨_,_,h⟩=>h
section
variable {P:Program} {ops:Array Oper} {Q:Exit->Act->World->Prop} {l n:Nat}
theorem zdo{row:String}{args:Array Value}{w:World}{R:Value->World->Prop}(h:Rows P row args w R):RowsIn (Fence.wide.inRound l) n P row args w R:=by
 intro c cs _
 obtain⟨v,w',r,s⟩:=h c cs
 exact⟨v,w',r,stepsIn_wide.2 s⟩
theorem zhz{o:Oper}{a:Act}{w:World}{K K':Act->World->Prop}(aa:∀ c,o.op≠.defer c)(hk:∀ a w,K a w->K' a w)(h:o.wp P a w K (Only Q)) :
  o.wpIn (Fence.wide.inRound l) n P a w K' Q:=by
 unfold Oper.wpIn
 refine⟨fun _ _=>trivial,?_⟩
 rw[Oper.semAt_eq _ _ _ aa]
 unfold Oper.wp at h
 generalize(execOp a.eval o).run P w=r at h ⊢
 cases r with
|ok x w'=>
  cases x <;> simp only[Oper.upon,Oper.uponIn] at h ⊢ <;> first
  |exact hk _ _ h
  |exact h.elim
  |exact⟨(fun hd=>by cases hd),CallsIn.inRound l (callsIn_wide.2 (h.mono fun e w'' he=>by cases e <;> first|exact hk _ _ he|exact he.elim|exact(Only.shut he).elim))⟩
  |exact⟨(fun hd=>by cases hd),zdo (h.mono fun _ _ he=>hk _ _ he)⟩
|halt x w'=>cases x <;> simp only[Oper.upon,Oper.uponIn] at h ⊢ <;> exact h.elim
def zcl(ops:Array Oper):Bool:=ops.all fun o=>match o.op with|.defer _=>false|_=>true
theorem zdr(h:zcl ops=true){i:Nat}{o:Oper}(ho:ops[i]?=some o):∀ c,o.op≠.defer c:=by
 intro c e
 have hm:=Array.all_eq_true'.1 h o (Array.mem_of_getElem? ho)
 rw[e] at hm
 cases hm
theorem zhp{i:Nat}{a:Act}{w:World}{K K':Act->World->Prop}(hd:zcl ops=true)(hk:∀ a w,K a w->K' a w)(h:wpOp P ops (Only Q) i K a w) :
  wpOpIn (Fence.wide.inRound l) n P ops Q i K' a w:=by
 unfold wpOp at h
 unfold wpOpIn
 cases ho:ops[i]? with
|none=>simp only[ho] at h ⊢;exact hk _ _ h
|some o=>
  simp only[ho] at h ⊢
  split
  .rename_i hw
   rw[if_pos hw] at h
   rcases h with h|⟨_,h⟩
   .exact zhz (zdr hd ho) hk h
   .exact(Only.shut h).elim
  .rename_i hw
   rw[if_neg hw] at h
   exact⟨fun _ _=>trivial,hk _ _ h⟩
theorem zdm(hd:zcl ops=true):∀(fuel:Nat) (listed:Array Bool) (a:Act) (w:World),wpAny P .any ops (Only Q) fuel listed a w->wpAnyIn (Fence.wide.inRound l) n P .any ops Q fuel listed a w
|0,_,_,_,h=>h
|fuel+1,_,_,_,h=>⟨h.1,fun i hi=>zhp hd (fun a' w' h'=>zdm hd fuel _ a' w' h') (h.2 i hi)⟩
theorem zcD{id:Nat}{S:World->Prop}{a:Act}{w:World}(hm:P.follows .mixedOrders=true)(hd:zcl ops=true)(hS:S w.drew)
  (h:S w.drew->wpAnyH P .any ops (Only Q) S ops.size (Array.replicate ops.size false) a w.drew):(Code.region id ops true).wpIn (Fence.wide.inRound l) n P Q a w:=
 wpIn_region_any hm (zdm hd _ _ _ _ (wpAny_of_held _ _ _ _ (h hS)))
end
attribute [local go_sem] Oper.semAt_some
def nb(p:Pt):Fin 4->Pt
|0=>(p.1+-1,p.2)
|1=>(p.1+1,p.2)
|2=>(p.1,p.2+-1)
|3=>(p.1,p.2+1)
def encA(p:Pt)(k:Fin 4):Array Value:=#[.agg #[.int .i64 (nb p k).1,.int .i64 (nb p k).2]]
def KpC(bc:Nat)(W W':World):Prop:=W.heap.size<=W'.heap.size/\W'.heap[bc]?=W.heap[bc]?
theorem KpC.trans{bc:Nat}{A B C:World}(h:KpC bc A B)(k:KpC bc B C):KpC bc A C:=⟨Nat.le_trans h.1 k.1,k.2.trans h.2⟩
theorem Bx.of{W W':World}{b:Nat}{vs:List Value}(h:Bx W b vs)(hs:W.heap.size<=W'.heap.size)(hk:W'.heap[b]?=W.heap[b]?):Bx W' b vs:=
 ⟨qM h.lt hs,fun j u hu=>(World.cell?_of_block (a:=⟨b,j,none⟩) hk).trans (h.c j u hu),fun j=>(World.frozen?_of_block (a:=⟨b,j,none⟩) hk).trans (h.fr j)⟩
theorem zk1{bc:Nat}{w:World}(hb:bc<w.heap.size)(W:World)(l:Nat)(o o':Obj)(hl:w.heap.size<=l)(_:W.heap[l]?=some o)(_:o.isCells=false)(_:o.isWalk=false):KpC bc W (W.putObj l o'):=
 ⟨(grownBy_putObj' W l o').size,World.putObj_heap_other (by omega)⟩
theorem zhj(x y:Int)(w:World):Calls Tryz.prog 143 #[.agg #[.int .i64 x,.int .i64 y]] w fun e w'=>e=.returned (.func (.func 210) #[] #[.pointer (some ⟨w.heap.size,0,none⟩)])/\w'=w.alloc (.cells #[.int .i64 x,.int .i64 y] 261):=by
 go_enter Tryz.func143,Tryz.ntmps143
 go_wp2
 go_ret
 exact⟨rfl,rfl⟩
def RA(p:Pt)(bc:Nat)(W0:World)(J:List (Fin 4)->World->Prop)(i:Value)(w:World):Prop:=∃ k:Nat,k<=4/\i=.int .i64 k/\Bx w bc [.int .i64 p.1,.int .i64 p.2]/\W0.heap.size<=w.heap.size/\J (four.take k) w
def Near(p:Pt):Prop:=-1000<=p.1/\p.1<=1000/\-1000<=p.2/\p.2<=1000
theorem zeG(n:Nat)(hn:1<=n)(p:Pt)(bc:Nat)(w:World)(hp:Near p)(ak:Bx w bc [.int .i64 p.1,.int .i64 p.2]) :
  SeqStopsK Fence.wide n Tryz.prog 210 #[.pointer (some ⟨bc,0,none⟩)] (encA p) (KpC bc) (fun xs=>xs=four) (fun pre=>pre <+: four) 4 w:=by
 intro l J Jx W hW hJ am hY h0
 have hB:=qG (ak.next hW)
 have HY:=qG hY
 have H0:=qG h0
 have HJ:=qG hJ
 obtain⟨an,ao,aq,ar⟩:=hp
 clear hW hY h0 hJ am ak
 refine callsIn_of_wp Tryz.func210 rfl trivial ?_ rfl
 simp only[Tryz.ntmps210,List.size_toArray,List.length_cons,List.length_nil,Nat.reduceAdd,Nat.reduceSub,Array.replicate_succ,Array.replicate_zero,List.push_toArray,List.append_toArray,List.nil_append,List.cons_append]
 gi_wp2
 gi_loopw [10] (fun i wr=>RA p bc W J i wr) (fun i _=>4-(intOf i).toNat)
 case atStart=>exact⟨0,by omega,rfl,hB.o,qQ _,H0.o⟩
 case round=>
  obtain⟨k,hk,rfl,hX,ai,ah⟩:=hrel
  by_cases hlt:k<4
  .rcases(by omega:k=0\/k=1\/k=2\/k=3) with rfl|rfl|rfl|rfl
   .have aj:∀ W:World,(Instr.index 315 (.agg #[.int .i64 (-1),.int .i64 0,.int .i64 1,.int .i64 0,.int .i64 0,.int .i64 (-1),.int .i64 0,.int .i64 1]) (.int .i64 0)).run Tryz.prog W=.ok (.agg #[.int .i64 (-1),.int .i64 (0)]) W:=fun W=>by kernel_rfl
    have hj:=HJ.o _ _ _ none ah (World.grownBy_alloc wr (Obj.cells #[Value.int .i64 (-1),Value.int .i64 (0)] 261) none) (fun r e=>by cases e)
    obtain⟨fn,tmps,assign,body,hy,hR⟩:=HY.o (four.take 0) (0:Fin 4) _ hj (by decide)
    dsimp only[encA,nb] at hy
    have HR:=qG hR
    have c0:=(hX.next (nxA wr (Obj.cells #[Value.int .i64 (-1),Value.int .i64 (0)] 261))).c 0 _ rfl
    have c1:=(hX.next (nxA wr (Obj.cells #[Value.int .i64 (-1),Value.int .i64 (0)] 261))).c 1 _ rfl
    have x1:IntKind.i64.wrap (p.1+-1)=p.1+-1:=qF _ (by omega)
    have x2:IntKind.i64.wrap (p.1+1)=p.1+1:=qF _ (by omega)
    have x3:IntKind.i64.wrap (p.2+-1)=p.2+-1:=qF _ (by omega)
    have x4:IntKind.i64.wrap (p.2+1)=p.2+1:=qF _ (by omega)
    have x5:IntKind.i64.wrap p.1=p.1:=qF _ (by omega)
    have x6:IntKind.i64.wrap p.2=p.2:=qF _ (by omega)
    have HX:=qG (fun W' (h:KpC bc (wr.alloc (Obj.cells #[Value.int .i64 (-1),Value.int .i64 (0)] 261)) W')=>(hX.next (nxA wr (Obj.cells #[Value.int .i64 (-1),Value.int .i64 (0)] 261))).of h.1 h.2)
    have HS:=qG ai
    clear hR hX ah hj ai
    gi_wp2_with fail
    refine HR.o.mono ?_
    rintro e W3 (⟨rfl,ae,aa⟩|⟨rfl,ag⟩)
    .have af:=qG (HX.o _ aa)
     have ab:=qG (show W.heap.size<=W3.heap.size from by have:=aa.1;have:=HS.o;simp at *;omega)
     have ac:=qG ae
     clear ae aa
     gi_wp2
     all_goals (first
     |(refine⟨?_,?_⟩;(exact⟨1,by omega,rfl,af.o,ab.o,ac.o⟩);(simp[intOf]))
     |(go_roundw;(case rel=>exact⟨1,by omega,rfl,af.o,ab.o,ac.o⟩);(case measure=>simp[intOf])))
    .gi_wp2
     refine bodyPost_ret (results_none rfl _ _ _) rfl ?_
     exact⟨⟨_,rfl⟩,.inr ⟨_,⟨four.drop 1,rfl⟩,ag⟩⟩
   .have aj:∀ W:World,(Instr.index 315 (.agg #[.int .i64 (-1),.int .i64 0,.int .i64 1,.int .i64 0,.int .i64 0,.int .i64 (-1),.int .i64 0,.int .i64 1]) (.int .i64 1)).run Tryz.prog W=.ok (.agg #[.int .i64 (1),.int .i64 (0)]) W:=fun W=>by kernel_rfl
    have hj:=HJ.o _ _ _ none ah (World.grownBy_alloc wr (Obj.cells #[Value.int .i64 (1),Value.int .i64 (0)] 261) none) (fun r e=>by cases e)
    obtain⟨fn,tmps,assign,body,hy,hR⟩:=HY.o (four.take 1) (1:Fin 4) _ hj (by decide)
    dsimp only[encA,nb] at hy
    have HR:=qG hR
    have c0:=(hX.next (nxA wr (Obj.cells #[Value.int .i64 (1),Value.int .i64 (0)] 261))).c 0 _ rfl
    have c1:=(hX.next (nxA wr (Obj.cells #[Value.int .i64 (1),Value.int .i64 (0)] 261))).c 1 _ rfl
    have x1:IntKind.i64.wrap (p.1+-1)=p.1+-1:=qF _ (by omega)
    have x2:IntKind.i64.wrap (p.1+1)=p.1+1:=qF _ (by omega)
    have x3:IntKind.i64.wrap (p.2+-1)=p.2+-1:=qF _ (by omega)
    have x4:IntKind.i64.wrap (p.2+1)=p.2+1:=qF _ (by omega)
    have x5:IntKind.i64.wrap p.1=p.1:=qF _ (by omega)
    have x6:IntKind.i64.wrap p.2=p.2:=qF _ (by omega)
    have HX:=qG (fun W' (h:KpC bc (wr.alloc (Obj.cells #[Value.int .i64 (1),Value.int .i64 (0)] 261)) W')=>(hX.next (nxA wr (Obj.cells #[Value.int .i64 (1),Value.int .i64 (0)] 261))).of h.1 h.2)
    have HS:=qG ai
    clear hR hX ah hj ai
    gi_wp2_with fail
    refine HR.o.mono ?_
    rintro e W3 (⟨rfl,ae,aa⟩|⟨rfl,ag⟩)
    .have af:=qG (HX.o _ aa)
     have ab:=qG (show W.heap.size<=W3.heap.size from by have:=aa.1;have:=HS.o;simp at *;omega)
     have ac:=qG ae
     clear ae aa
     gi_wp2
     all_goals (first
     |(refine⟨?_,?_⟩;(exact⟨2,by omega,rfl,af.o,ab.o,ac.o⟩);(simp[intOf]))
     |(go_roundw;(case rel=>exact⟨2,by omega,rfl,af.o,ab.o,ac.o⟩);(case measure=>simp[intOf])))
    .gi_wp2
     refine bodyPost_ret (results_none rfl _ _ _) rfl ?_
     exact⟨⟨_,rfl⟩,.inr ⟨_,⟨four.drop 2,rfl⟩,ag⟩⟩
   .have aj:∀ W:World,(Instr.index 315 (.agg #[.int .i64 (-1),.int .i64 0,.int .i64 1,.int .i64 0,.int .i64 0,.int .i64 (-1),.int .i64 0,.int .i64 1]) (.int .i64 2)).run Tryz.prog W=.ok (.agg #[.int .i64 (0),.int .i64 (-1)]) W:=fun W=>by kernel_rfl
    have hj:=HJ.o _ _ _ none ah (World.grownBy_alloc wr (Obj.cells #[Value.int .i64 (0),Value.int .i64 (-1)] 261) none) (fun r e=>by cases e)
    obtain⟨fn,tmps,assign,body,hy,hR⟩:=HY.o (four.take 2) (2:Fin 4) _ hj (by decide)
    dsimp only[encA,nb] at hy
    have HR:=qG hR
    have c0:=(hX.next (nxA wr (Obj.cells #[Value.int .i64 (0),Value.int .i64 (-1)] 261))).c 0 _ rfl
    have c1:=(hX.next (nxA wr (Obj.cells #[Value.int .i64 (0),Value.int .i64 (-1)] 261))).c 1 _ rfl
    have x1:IntKind.i64.wrap (p.1+-1)=p.1+-1:=qF _ (by omega)
    have x2:IntKind.i64.wrap (p.1+1)=p.1+1:=qF _ (by omega)
    have x3:IntKind.i64.wrap (p.2+-1)=p.2+-1:=qF _ (by omega)
    have x4:IntKind.i64.wrap (p.2+1)=p.2+1:=qF _ (by omega)
    have x5:IntKind.i64.wrap p.1=p.1:=qF _ (by omega)
    have x6:IntKind.i64.wrap p.2=p.2:=qF _ (by omega)
    have HX:=qG (fun W' (h:KpC bc (wr.alloc (Obj.cells #[Value.int .i64 (0),Value.int .i64 (-1)] 261)) W')=>(hX.next (nxA wr (Obj.cells #[Value.int .i64 (0),Value.int .i64 (-1)] 261))).of h.1 h.2)
    have HS:=qG ai
    clear hR hX ah hj ai
    gi_wp2_with fail
    refine HR.o.mono ?_
    rintro e W3 (⟨rfl,ae,aa⟩|⟨rfl,ag⟩)
    .have af:=qG (HX.o _ aa)
     have ab:=qG (show W.heap.size<=W3.heap.size from by have:=aa.1;have:=HS.o;simp at *;omega)
     have ac:=qG ae
     clear ae aa
     gi_wp2
     all_goals (first
     |(refine⟨?_,?_⟩;(exact⟨3,by omega,rfl,af.o,ab.o,ac.o⟩);(simp[intOf]))
     |(go_roundw;(case rel=>exact⟨3,by omega,rfl,af.o,ab.o,ac.o⟩);(case measure=>simp[intOf])))
    .gi_wp2
     refine bodyPost_ret (results_none rfl _ _ _) rfl ?_
     exact⟨⟨_,rfl⟩,.inr ⟨_,⟨four.drop 3,rfl⟩,ag⟩⟩
   .have aj:∀ W:World,(Instr.index 315 (.agg #[.int .i64 (-1),.int .i64 0,.int .i64 1,.int .i64 0,.int .i64 0,.int .i64 (-1),.int .i64 0,.int .i64 1]) (.int .i64 3)).run Tryz.prog W=.ok (.agg #[.int .i64 (0),.int .i64 (1)]) W:=fun W=>by kernel_rfl
    have hj:=HJ.o _ _ _ none ah (World.grownBy_alloc wr (Obj.cells #[Value.int .i64 (0),Value.int .i64 (1)] 261) none) (fun r e=>by cases e)
    obtain⟨fn,tmps,assign,body,hy,hR⟩:=HY.o (four.take 3) (3:Fin 4) _ hj (by decide)
    dsimp only[encA,nb] at hy
    have HR:=qG hR
    have c0:=(hX.next (nxA wr (Obj.cells #[Value.int .i64 (0),Value.int .i64 (1)] 261))).c 0 _ rfl
    have c1:=(hX.next (nxA wr (Obj.cells #[Value.int .i64 (0),Value.int .i64 (1)] 261))).c 1 _ rfl
    have x1:IntKind.i64.wrap (p.1+-1)=p.1+-1:=qF _ (by omega)
    have x2:IntKind.i64.wrap (p.1+1)=p.1+1:=qF _ (by omega)
    have x3:IntKind.i64.wrap (p.2+-1)=p.2+-1:=qF _ (by omega)
    have x4:IntKind.i64.wrap (p.2+1)=p.2+1:=qF _ (by omega)
    have x5:IntKind.i64.wrap p.1=p.1:=qF _ (by omega)
    have x6:IntKind.i64.wrap p.2=p.2:=qF _ (by omega)
    have HX:=qG (fun W' (h:KpC bc (wr.alloc (Obj.cells #[Value.int .i64 (0),Value.int .i64 (1)] 261)) W')=>(hX.next (nxA wr (Obj.cells #[Value.int .i64 (0),Value.int .i64 (1)] 261))).of h.1 h.2)
    have HS:=qG ai
    clear hR hX ah hj ai
    gi_wp2_with fail
    refine HR.o.mono ?_
    rintro e W3 (⟨rfl,ae,aa⟩|⟨rfl,ag⟩)
    .have af:=qG (HX.o _ aa)
     have ab:=qG (show W.heap.size<=W3.heap.size from by have:=aa.1;have:=HS.o;simp at *;omega)
     have ac:=qG ae
     clear ae aa
     gi_wp2
     all_goals (first
     |(refine⟨?_,?_⟩;(exact⟨4,by omega,rfl,af.o,ab.o,ac.o⟩);(simp[intOf]))
     |(go_roundw;(case rel=>exact⟨4,by omega,rfl,af.o,ab.o,ac.o⟩);(case measure=>simp[intOf])))
    .gi_wp2
     refine bodyPost_ret (results_none rfl _ _ _) rfl ?_
     exact⟨⟨_,rfl⟩,.inr ⟨_,⟨four.drop 4,rfl⟩,ag⟩⟩
  .obtain rfl:k=4:=by omega
   gi_wp2
   go_end0
   exact⟨⟨_,rfl⟩,.inl ⟨four,rfl,ah⟩⟩
end Cu
end Go.Proofs.YtankkcbofgighaaGreatDoor
