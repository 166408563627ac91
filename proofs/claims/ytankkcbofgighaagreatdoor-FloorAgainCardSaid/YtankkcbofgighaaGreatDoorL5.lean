import Derived.Test.YtankkcbofgighaaGreatDoorL3
import Derived.RangeFuncNested
import Derived.RangeFuncLeaves
import Derived.OrdersIn
set_option linter.all false
set_option maxRecDepth 100000
set_option maxHeartbeats 40000000
namespace Go.Proofs.YtankkcbofgighaaGreatDoor
end Go.Proofs.YtankkcbofgighaaGreatDoor
namespace Go
open Go.RowKit
variable {F:Fence} {n:Nat} {P:Program}
def Code.wpAt(F:Fence)(n:Nat)(P:Program)(f:FuncId)(c:Code)(Q:Exit->Act->World->Prop)(a:Act)(w:World):Prop:=
 ∀(b:Frame) (k:List Item) (cs:List Frame),b.roundOf=F.round->b.fn=f->F.room (cs.length+1+n)->
  ∃ e a' w',Q e a' w'/\ArrivesIn (Machine.fenced P F) P (lone (b.atR a (.code c :: k)) cs w) b k cs e a' w'
theorem zrt{f:FuncId}{c:Code}{Q:Exit->Act->World->Prop}{a:Act}{w:World}(hF:F.fn f)(h:c.wpIn F n P Q a w):c.wpAt F n P f Q a w:=
 fun b k cs aa hb hr=>h b k cs aa (hb▸hF) hr
theorem zrv{f:FuncId}{x y:Code}{Q:Exit->Act->World->Prop}{a:Act}{w:World}(hF:F.fn f)(h:x.wpAt F n P f (Exit.then (y.wpAt F n P f Q) Q) a w):(Code.seq x y).wpAt F n P f Q a w:=by
 intro b k cs ac hb hr
 have h0:(lone (b.atR a (.code (.seq x y) :: k)) cs w).fenced P F:=fenced_calm (hb▸hF) hr rfl
 obtain⟨e,a₁,w₁,hq,aa⟩:=h b (.code y :: k) cs ac hb hr
 have hp:e≠.normal->Q e a₁ w₁->∃ e a' w',Q e a' w'/\ArrivesIn (Machine.fenced P F) P (lone (b.atR a (.code (.seq x y) :: k)) cs w) b k cs e a' w':=fun ae hq=>
  ⟨e,a₁,w₁,hq,.of_steps (.one h0 stepR_seq) (.pass (x:=.code y) rfl (fun _ _=>.inl ae) aa)⟩
 cases e with
|normal=>
  obtain⟨e₂,a₂,w₂,af,ab⟩:=hq b k cs ac hb hr
  exact⟨e₂,a₂,w₂,af,.of_steps (.head h0 stepR_seq aa) ab⟩
|exit id=>exact hp (by simp) hq
|goto l=>exact hp (by simp) hq
|ret=>exact hp (by simp) hq
|panic ch=>exact hp (by simp) hq
|outgrown=>exact hp (by simp) hq
theorem zrA{f:FuncId}{id:Nat}{c:Code}{Q:Exit->Act->World->Prop}{a:Act}{w:World}(hF:F.fn f)(hx:∀ i a w,¬ Q (.exit i) a w)(hg:∀ i a w,¬ Q (.goto i) a w)(h:c.wpAt F n P f Q a w):(Code.block id c).wpAt F n P f Q a w:=by
 intro b k cs ac hb hr
 have ab:F.fn b.fn:=hb▸hF
 have h0:(lone (b.atR a (.code (.block id c) :: k)) cs w).fenced P F:=fenced_calm ab hr rfl
 obtain⟨e,a₁,w₁,hq,aa⟩:=h b (.inBlock id :: k) cs ac hb hr
 cases e with
|normal=>exact⟨.normal,a₁,w₁,hq,.head h0 stepR_block (StepsIn.trans aa (.one (fenced_calm ab hr rfl) stepR_inBlock))⟩
|exit i=>exact(hx _ _ _ hq).elim
|goto i=>exact(hg _ _ _ hq).elim
|ret=>exact⟨_,a₁,w₁,hq,.of_steps (.one h0 stepR_block) aa⟩
|panic ch=>exact⟨_,a₁,w₁,hq,.of_steps (.one h0 stepR_block) aa⟩
|outgrown=>exact⟨_,a₁,w₁,hq,.of_steps (.one h0 stepR_block) aa⟩
theorem zry{f:FuncId}{fn:Func}{c:Code}{args:Array Value}{w:World}{R:Ending->World->Prop}
  (hf:P.funcs[f]?=some fn) (hb:fn.body=some c) (hF:F.fn f)
  (h:c.wpAt F n P f (bodyPostM F n P fn R) { tmps:=args++Array.replicate (fn.ntmps-args.size) undef,defers:=[] } w) (ae:F.round=none):CallsIn F n P f args w R:=by
 refine⟨hF,fun cs hr=>?_⟩
 let b:Frame:={ (default:Frame) with fn:=f,kind:=.normal,roundOf:=none }
 have ac:Frame.enter P f args .normal=b.atR { tmps:=args++Array.replicate (fn.ntmps-args.size) undef,defers:=[] } [.code c]:=by
  simp[Frame.enter,Frame.atR,hf,hb,b]
 obtain⟨e,a',w',hq,aa⟩:=h b [] cs ae.symm rfl hr
 rw[<- ac] at aa
 have fin:∀(u:FrameMode) (todo:List Item),LeavesInM F n P fn a'.tmps R a'.defers u w'->StepsIn (Machine.fenced P F) P (lone (Frame.enter P f args .normal) cs w) (lone { b.atR a' todo with mode:=u } cs w')->
   ∃ e w' fr,R e w'/\ComesIn (Machine.fenced P F) P (lone (Frame.enter P f args .normal) cs w) (lone fr cs w') e/\fr.fn=f/\fr.leaving P w' e:=fun u todo hl ab=>by
  obtain⟨e',w'',fr',hR,hs,af,hl⟩:=leaves_stepsInM a'.defers u w' { b.atR a' todo with mode:=u } cs rfl rfl rfl hf rfl hF hr hl
  exact⟨e',w'',fr',hR,ComesIn.of_steps ab hs,af,hl⟩
 cases e with
|normal=>exact fin .returning [] hq (StepsIn.trans aa (.one (fenced_calm (fr:=b.atR a' []) hF hr rfl) (stepR_end rfl)))
|ret=>exact let⟨todo,ab⟩:=aa.1 rfl;fin .returning todo hq ab
|panic chain=>exact let⟨todo,ab⟩:=aa;fin (.panicking chain) todo hq ab
|exit id=>exact hq.elim
|goto l=>exact hq.elim
|outgrown=>exact⟨.outgrown,w',b,hq,aa.resolve_left (by simp[b]),rfl,trivial⟩
def zrE(P:Program)(l:Nat)(R:Ending->World->Prop):Exit->Act->World->Prop
|.panic ch,a,w=>a.defers=[]/\R (.panicked ch) w
|e,a,w=>roundPost P l R e a w
theorem zrz{l:Nat}{f:FuncId}{fn:Func}{tmps:Array Value}{assign body:Code}{w:World}{R:Ending->World->Prop}(hf:P.funcs[f]?=some fn)(hF:F.fn f)
  (h:assign.wpIn (F.inRound l) n P (Exit.then (fun a₁ w₁=>∃ w₂,(Instr.beginRound l).run P w₁=.ok () w₂/\body.wpIn (F.inRound l) n P (zrE P l R) a₁ w₂) (fun _ _ _=>False))
   { tmps:=tmps,defers:=[] } w) :
  RoundIn F n P l f tmps assign body w R:=by
 refine⟨hF,fun c cs hr=>?_⟩
 let b:Frame:={ (default:Frame) with fn:=f,kind:=.normal,roundOf:=some l }
 have aj:Frame.round l f tmps assign body .normal=b.atR { tmps:=tmps,defers:=[] } [.code assign,.beginRound,.code body]:=by
  simp[Frame.round,Frame.atR,b]
 have ac:(F.inRound l).room ((c :: cs).length+1+n):=hr
 have ae:(F.inRound l).fn b.fn:=hF
 obtain⟨e,a₁,w₁,hq,ag⟩:=h b [.beginRound,.code body] (c :: cs) rfl ae ac
 rw[<- aj] at ag
 cases e with
|normal=>
  obtain⟨w₂,ak,ah⟩:=hq
  have s1:StepsIn (Machine.fenced P (F.inRound l)) P (lone (b.atR a₁ [.beginRound,.code body]) (c :: cs) w₁) (lone (b.atR a₁ [.code body]) (c :: cs) w₂):=
   .one (fenced_calm (fr:=b.atR a₁ [.beginRound,.code body]) ae ac rfl) (stepR_beginRound rfl ak)
  have s2:=StepsIn.trans ag s1
  obtain⟨e₂,a₂,w₃,af,ab⟩:=ah b [] (c :: cs) rfl ae ac
  cases e₂ with
 |normal=>
   obtain⟨v,w₄,aa,hR⟩:=af
   exact⟨.returned v,w₄,hR,s2.trans (StepsIn.trans ab (.one (fenced_calm (fr:=b.atR a₂ []) ae ac rfl) (stepR_round_end rfl rfl aa)))⟩
 |ret=>
   obtain⟨v,w₄,aa,hR⟩:=af
   obtain⟨k₁,hs⟩:=ab.2 rfl
   exact⟨.returned v,w₄,hR,s2.trans (StepsIn.trans hs (.one (fenced_calm (fr:=b.atR a₂ (.code .ret :: k₁)) ae ac rfl) (stepR_round_ret rfl rfl aa)))⟩
 |exit id=>
   obtain⟨v,w₄,aa,hR⟩:=af
   obtain⟨k₁,hk,hs⟩:=ab.2 rfl rfl
   exact⟨.returned v,w₄,hR,s2.trans (StepsIn.trans hs (.one (fenced_calm (fr:=b.atR a₂ (.code (.exit id) :: k₁)) ae ac rfl) (stepR_round_exit rfl rfl hk aa)))⟩
 |goto t=>
   obtain⟨v,w₄,aa,hR⟩:=af
   obtain⟨k₁,hk,hs⟩:=ab.2 rfl rfl
   exact⟨.returned v,w₄,hR,s2.trans (StepsIn.trans hs (.one (fenced_calm (fr:=b.atR a₂ (.code (.goto t) :: k₁)) ae ac rfl) (stepR_round_goto rfl rfl hk aa)))⟩
 |panic ch=>
   obtain⟨hd,hR⟩:=af
   obtain⟨todo,hs⟩:=ab
   have ai:({ b.atR a₂ todo with mode:=.panicking ch }:Frame).leaving P w₃ (.panicked ch):=⟨rfl,hd,fn,hf⟩
   exact⟨.panicked ch,w₃,hR,s2.trans (StepsIn.trans hs (.one (fenced_leaving (fr:={ b.atR a₂ todo with mode:=.panicking ch }) (n:=n) ae ac ai) (step_leave_panicked ai)))⟩
 |outgrown=>exact af.elim
|exit id=>exact hq.elim
|goto t=>exact hq.elim
|ret=>exact hq.elim
|panic ch=>exact hq.elim
|outgrown=>exact hq.elim
theorem zrB{f₀:FuncId}{g:Operand}{ps:Array Tmp}{assign body:Code}{Q:Exit->Act->World->Prop}{a:Act}{w:World}(au:F.fn f₀)
  {l:Nat} {mark:List Deferred} {w₁:World} {d:Deferred} {w₁':World} {f:FuncId} {args:Array Value} {w₂:World}
  (he:(Instr.enterLoop f₀ a.tmps ps assign body F.round).run P w=.ok (l,mark) w₁)
  (af:(resolve a.eval (rangeCall g l) 0).run P w₁=.ok d w₁')
  (ag:∀ f',Target.leads P w₁' d.target d.args=some f'->F.fn f')
  (ao:(invoke d.target d.args).run P w₁'=.ok (.enter f args) w₂)
  (hn:F.depth.isSome=true->1<=n)
  (hc:CallsIn F (n-1) P f args w₂ (fun
  |.returned _,w₃=>∃ jump w₄,(Instr.endLoop l).run P w₃=.ok jump w₄/\(match jump with
   |none=>Q .normal { a with defers:=mark++a.defers } w₄
   |some c=>c.wpAt F n P f₀ Q { a with defers:=mark++a.defers } w₄)
  |.panicked chain,w₃=>Q (.panic chain) { a with defers:=mark++a.defers } w₃
  |.outgrown,_=>LetsOut Q)) :
  (Code.rangeFunc g ps assign body).wpAt F n P f₀ Q a w:=by
 intro b k cs ai hb hr
 have aj:F.fn b.fn:=hb▸au
 obtain⟨hF,ah⟩:=hc
 rw[<- ai,<- hb] at he
 have h0:(lone (b.atR a (.code (.rangeFunc g ps assign body) :: k)) cs w).fenced P F:=by
  refine fenced_lone (.inl aj) (fun f' ak=>ag f' ?_) (Fence.room_le hr (by omega))
  have am:=Frame.eval_atR b a (.code (.rangeFunc g ps assign body) :: k)
  simp only[Frame.atR] at am
  simp only[Frame.about,Frame.atR,he,am,af] at ak
  exact ak
 have ab:=stepR_rangeFunc (P:=P) (b:=b) (a:=a) (k:=k) (cs:=cs) (w:=w) he af ao
 have ae:F.room ((b.atR { a with defers:=mark++a.defers } (.inRangeFunc l :: k) :: cs).length+1+(n-1)):=Fence.room_enter hr hn
 obtain⟨e,w₃,fr,hR,ac,an,aa⟩:=ah (b.atR { a with defers:=mark++a.defers } (.inRangeFunc l :: k) :: cs) ae
 cases e with
|outgrown=>
  obtain⟨a₀,w₀,hq⟩:=hR
  exact⟨.outgrown,a₀,w₀,hq,.inr (Outgrown.of_steps (.one ab) ac)⟩
|returned v=>
  have hl:(lone fr (b.atR { a with defers:=mark++a.defers } (.inRangeFunc l :: k) :: cs) w₃).fenced P F:=fenced_leaving (an▸hF) ae aa
  obtain⟨jump,w₄,aq,hj⟩:=hR
  have sback:StepsIn (Machine.fenced P F) P (lone (b.atR a (.code (.rangeFunc g ps assign body) :: k)) cs w) (lone (b.atR { a with defers:=mark++a.defers } ((jump.map Item.code).toList++k)) cs w₄):=by
   refine .head h0 ab (StepsIn.trans ac (.head hl ?_ (.one (fenced_calm (fr:=b.atR { a with defers:=mark++a.defers } (.endRangeFunc l :: k)) aj hr rfl) (stepR_endRangeFunc aq))))
   rw[<- finish_atR_inRangeFunc l v];exact step_leave_returned aa
  cases jump with
 |none=>exact⟨.normal,_,w₄,hj,sback⟩
 |some c=>
   obtain⟨e',a'',w₅,hq,ar⟩:=hj b k cs ai hb hr
   exact⟨e',a'',w₅,hq,.of_steps sback ar⟩
|panicked chain=>
  have hl:(lone fr (b.atR { a with defers:=mark++a.defers } (.inRangeFunc l :: k) :: cs) w₃).fenced P F:=fenced_leaving (an▸hF) ae aa
  refine⟨.panic chain,_,w₃,hR,.inRangeFunc l :: k,.head h0 ab (StepsIn.trans ac (.one hl ?_))⟩
  rw[<- Frame.raise_atR];exact step_leave_panicked aa
def zrx{β:Type}(T:World->Nat->Prop)(J:β->World->Prop):Prop:=∀ s A A' row,J s A->A.grownBy A' row->(∀ r,row=some r->T A r/\T A' r)->J s A'
def SeqX{α:Type}(F:Fence)(n:Nat)(P:Program)(g:Nat)(lb:Array Value)(encs:α->Array Value)(T:World->Nat->Prop)(Kp:World->World->Prop)(R:α->World->Prop)(S Sp:List α->Prop)(So:List PanicEntry->List α->Prop)(w:World):Prop:=
 ∀(l:Nat) (J Jx:List α->World->Prop) (Jp:List PanicEntry->World->Prop),zrx T J->zrx T Jx->zrx T Jp->
  (∀ pre x W1,J pre W1->Sp (pre++[x])->R x W1->YieldAt F (n-1) P l (encs x) W1 fun e W'=>
   (e=.returned (.bool true)/\J (pre++[x]) W'/\Kp W1 W')\/(e=.returned (.bool false)/\Jx (pre++[x]) W'/\Kp W1 W')\/(∃ ch,e=.panicked ch/\Jp ch W'/\Kp W1 W'))->
  J [] w->
  CallsIn F n P g (#[.func (.yield l) #[] #[]]++lb) w fun e W'=>
   ((∃ v,e=.returned v)/\((∃ xs,S xs/\J xs W')\/(∃ pre,Sp pre/\Jx pre W')))\/(∃ ch,e=.panicked ch/\Jp ch W')\/(∃ ch pre,e=.panicked ch/\So ch pre/\J pre W')
def OwnX{β:Type}(B:Nat)(I:β->World->Prop):Prop:=
 ∀ s W W' row,I s W->W.grownBy W' row->(∀ r,row=some r->B<=r/\(∃ o:Obj,W.heap[r]?=some o/\o.isCells=false)/\(∃ o:Obj,W'.heap[r]?=some o/\o.isCells=false))->I s W'
theorem OwnX.alloc{β:Type}{B:Nat}{I:β->World->Prop}(h:OwnX B I){s:β}{W:World}(o:Obj)(hs:I s W):I s (W.alloc o):=
 h s W _ none hs (only_of_below' ((Below.refl _ W).alloc (Nat.le_refl _) o)) (fun _ e=>by cases e)
where only_of_below' {a w:World} (h:Below a.heap.size a w):a.grownBy w none:=⟨h.os,h.tape,h.output,h.size,fun i hi _=>h.block i hi⟩
theorem OwnX.putObj{β:Type}{B:Nat}{I:β->World->Prop}(h:OwnX B I){s:β}{W:World}{l:Nat}{o:Obj}(o':Obj)(hs:I s W)(hB:B<=l)(hl:W.heap[l]?=some o)(ho:o.isCells=false)(aa:o'.isCells=false):I s (W.putObj l o'):=
 h s W _ (some l) hs (grownBy_putObj' W l o') (fun r e=>by cases e;exact⟨hB,⟨o,hl,ho⟩,o',World.putObj_heap_same (Array.getElem?_eq_some_iff.1 hl).1,aa⟩)
def zrG{α:Type}(B:Nat)(Kp:World->World->Prop)(I:List α->World->Prop)(Ix:Code->List α->World->Prop)(Ip:List PanicEntry->World->Prop)(xs:List α)(W:World):Exit->Act->World->Prop
|.normal,_,W'=>KeepsFrom B W W'/\Kp W W'/\I xs W'
|.ret,_,W'=>KeepsFrom B W W'/\Kp W W'/\Ix .ret xs W'
|.exit id,_,W'=>KeepsFrom B W W'/\Kp W W'/\Ix (.exit id) xs W'
|.goto t,_,W'=>KeepsFrom B W W'/\Kp W W'/\Ix (.goto t) xs W'
|.panic ch,a,W'=>a.defers=[]/\KeepsFrom B W W'/\Kp W W'/\Ip ch W'
|.outgrown,_,_=>False
theorem zrw{α:Type}{f₀:FuncId}{fn₀:Func}{g:Operand}{ps:Array Tmp}{assign body:Code}{Q:Exit->Act->World->Prop}{a:Act}{w:World}
  (aB:P.funcs[f₀]?=some fn₀) (au:F.fn f₀) (aC:F.round=none) (h1:1<=n) {gf:Nat} {lb:Array Value} (hg:a.eval g=.func (.func gf) #[] lb) (aD:F.fn gf) (eg:∀ args w,(callFunc gf args).run P w=.ok (.enter gf args) w)
  {encs:α->Array Value} {T:World->Nat->Prop} {Kp:World->World->Prop} {R:α->World->Prop} {S Sp:List α->Prop} {So:List PanicEntry->List α->Prop}
  (ay:∀ W:World,Below w.heap.size w W->W.heap.size=w.heap.size+2->SeqX F (n-1) P gf lb encs T Kp R S Sp So W)
  (hT:∀ A r,T A r->r≠w.heap.size/\r≠w.heap.size+1)
  (ag:∀{A B C:World},Kp A B->Kp B C->Kp A C) (aj:∀(W:World) (o':Obj),Kp W (W.putObj (w.heap.size+1) o')) (aE:∀ x,(encs x).size=ps.size)
  (I:List α->World->Prop) (Ix:Code->List α->World->Prop) (Ip:List PanicEntry->World->Prop)
  (hI:OwnX w.heap.size I) (hIx:∀ c,OwnX w.heap.size (Ix c)) (hR:OwnX w.heap.size R)
  (tI:zrx T I) (tIx:∀ c,zrx T (Ix c)) (tIp:zrx T Ip) (h0:I [] w) (a₁:α->Act)
  (ai:∀(l:Nat) (x:α) (W:World) (K:Act->World->Prop),K (a₁ x) W->
   assign.wpIn (F.inRound l) (n-1-1) P (Exit.then K (fun _ _ _=>False)) { tmps:=(ps.zip (encs x)).foldl (fun t (p,v)=>t.setIfInBounds p v) a.tmps,defers:=[] } W)
  (ao:∀(l:Nat) (pre:List α) (x:α) (W:World),I pre W->Sp (pre++[x])->R x W->body.wpIn (F.inRound l) (n-1-1) P (zrG w.heap.size Kp I Ix Ip (pre++[x]) W) (a₁ x) W)
  (aq:∀(D:Nat) (xs:List α) (W:World),w.heap.size<=D->S xs->I xs W->W.heap[D]?=some (.deferred (some []))->Q .normal { a with defers:={ target:=.collected D,args:=#[] } :: a.defers } W)
  (ar:∀(D:Nat) (c:Code) (pre:List α) (W:World),w.heap.size<=D->Sp pre->Ix c pre W->W.heap[D]?=some (.deferred (some []))->c.wpAt F n P f₀ Q { a with defers:={ target:=.collected D,args:=#[] } :: a.defers } W)
  (az:∀(D:Nat) (ch:List PanicEntry) (W:World),w.heap.size<=D->Ip ch W->W.heap[D]?=some (.deferred (some []))->Q (.panic ch) { a with defers:={ target:=.collected D,args:=#[] } :: a.defers } W)
  (aA:∀(D:Nat) (ch:List PanicEntry) (pre:List α) (W:World),w.heap.size<=D->So ch pre->I pre W->W.heap[D]?=some (.deferred (some []))->Q (.panic ch) { a with defers:={ target:=.collected D,args:=#[] } :: a.defers } W) :
  (Code.rangeFunc g ps assign body).wpAt F n P f₀ Q a w:=by
 obtain⟨rec,aa⟩:∃ rec:LoopState->Option Code->Loop,rec=fun st pe=>{ state:=st,pending:=pe,fn:=f₀,tmps:=a.tmps,params:=ps,assign,body,defers:=w.heap.size }:=⟨_,rfl⟩
 obtain⟨W1,af⟩:∃ W1,(w.alloc (.deferred (some []))).alloc (.loop (rec .ready none))=W1:=⟨_,rfl⟩
 have aF:W1.heap[w.heap.size+1]?=some (.loop (rec .ready none)):=by
  rw[<- af];have:=World.alloc_heap_new (w.alloc (.deferred (some []))) (.loop (rec .ready none));rwa[World.size_alloc] at this
 have aG:W1.heap[w.heap.size]?=some (.deferred (some [])):=by
  rw[<- af];exact(Below.heap_alloc _ _ _ (by simp)).trans (World.alloc_heap_new w _)
 have aH:I [] W1:=by rw[<- af];exact hI.alloc _ (hI.alloc _ h0)
 have aI:Below w.heap.size w W1:=by rw[<- af];exact((Below.refl _ w).alloc (Nat.le_refl _) _).alloc (by simp) _
 have aJ:W1.heap.size=w.heap.size+2:=by rw[<- af];simp
 have keep:∀{A A':World} {row:Option Nat} {k:Nat} {o:Obj},A.grownBy A' row->(∀ r,row=some r->T A r/\T A' r)->(k=w.heap.size\/k=w.heap.size+1)->A.heap[k]?=some o->A'.heap[k]?=some o:=fun hg hr hk ho=>
  (hg.block _ (Array.getElem?_eq_some_iff.1 ho).1 (fun e=>by obtain⟨u1,u2⟩:=hT _ _ (hr _ e.symm).1;rcases hk with hk|hk <;> simp_all)).trans ho
 refine zrB (l:=w.heap.size+1) (mark:=[{ target:=.collected w.heap.size,args:=#[] }]) (w₁:=W1) (d:={ target:=.fn (.func gf) lb,args:=#[.func (.yield (w.heap.size+1)) #[] #[]] }) (w₁':=W1) (f:=gf) (args:=#[.func (.yield (w.heap.size+1)) #[] #[]]++lb) (w₂:=W1) au ?_ ?_ ?_ ?_ (fun _=>h1) ?_
 .rw[aC,<- af,aa];exact run_enterLoop_outer _ _ _ _ _
 .simp only[resolve,hg]
  simp[go_sem]
 .intro f' aw;simp[Target.leads] at aw;subst aw;exact aD
 .simp[invoke,go_sem,eg]
 .refine(ay W1 aI aJ (w.heap.size+1)
   (fun pre W=>I pre W/\W.heap[w.heap.size+1]?=some (.loop (rec .ready none))/\W.heap[w.heap.size]?=some (.deferred (some [])))
   (fun pre W=>∃ c,Ix c pre W/\W.heap[w.heap.size+1]?=some (.loop (rec .done (some c)))/\W.heap[w.heap.size]?=some (.deferred (some [])))
   (fun ch W=>Ip ch W/\W.heap[w.heap.size]?=some (.deferred (some [])))
   (fun s A A' row hs hg hr=>⟨tI s A A' row hs.1 hg hr,keep hg hr (.inr rfl) hs.2.1,keep hg hr (.inl rfl) hs.2.2⟩)
   (fun s A A' row ⟨c,hc,hl,hk⟩ hg hr=>⟨c,tIx c s A A' row hc hg hr,keep hg hr (.inr rfl) hl,keep hg hr (.inl rfl) hk⟩)
   (fun s A A' row hs hg hr=>⟨tIp s A A' row hs.1 hg hr,keep hg hr (.inl rfl) hs.2⟩)
   ?_ ⟨aH,aF,aG⟩).mono ?_
  .rintro pre x W ⟨hi,hl,hk⟩ hsp aK
   have hlt:w.heap.size+1<W.heap.size:=(Array.getElem?_eq_some_iff.1 hl).1
   have hy:=run_yield (P:=P) (args:=encs x) hl (by rw[aa];exact aE x)
   rw[aa] at hy
   refine⟨f₀,_,assign,body,hy,zrz aB au (ai _ x W _ ?_)⟩
   clear hy
   refine⟨_,run_beginRound hl (by rw[aa]),?_⟩
   have aL:(W.putObj (w.heap.size+1) (.loop { rec .ready none with state:=.busy })).heap[w.heap.size+1]?=some (.loop { rec .ready none with state:=.busy }):=World.putObj_heap_same hlt
   have ax:(W.putObj (w.heap.size+1) (.loop { rec .ready none with state:=.busy })).heap[w.heap.size]?=some (.deferred (some [])):=(World.putObj_heap_other (by omega)).trans hk
   have ak:Kp W (W.putObj (w.heap.size+1) (.loop { rec .ready none with state:=.busy })):=aj _ _
   refine wpIn_mono (ao _ pre x _ (hI.putObj _ hi (by omega) hl rfl rfl) hsp (hR.putObj _ aK (by omega) hl rfl rfl)) ?_
   have fin:∀(jump:Option Code) (W3:World),KeepsFrom w.heap.size (W.putObj (w.heap.size+1) (.loop { rec .ready none with state:=.busy })) W3->
     (Instr.endRound (w.heap.size+1) jump).run P W3=.ok (.bool jump.isNone) (W3.putObj (w.heap.size+1) (.loop (rec (if jump.isNone then .ready else .done) jump)))/\
     W3.heap[w.heap.size+1]?=some (.loop { rec .ready none with state:=.busy })/\
     (W3.putObj (w.heap.size+1) (.loop (rec (if jump.isNone then .ready else .done) jump))).heap[w.heap.size+1]?=some (.loop (rec (if jump.isNone then .ready else .done) jump))/\
     (W3.putObj (w.heap.size+1) (.loop (rec (if jump.isNone then .ready else .done) jump))).heap[w.heap.size]?=some (.deferred (some [])):=fun jump W3 ab=>by
    have ac:=ab.same _ _ (by omega) aL rfl
    have:=run_endRound (P:=P) jump ac
    rw[aa] at this ⊢
    exact⟨this,by rw[aa] at ac;exact ac,World.putObj_heap_same (Array.getElem?_eq_some_iff.1 ac).1,(World.putObj_heap_other (by omega)).trans (ab.same _ _ (Nat.le_refl _) ax rfl)⟩
   have jmp:∀(c:Code) (W3:World),KeepsFrom w.heap.size (W.putObj (w.heap.size+1) (.loop { rec .ready none with state:=.busy })) W3->Kp (W.putObj (w.heap.size+1) (.loop { rec .ready none with state:=.busy })) W3->Ix c (pre++[x]) W3->
     ∃ v w',(Instr.endRound (w.heap.size+1) (some c)).run P W3=.ok v w'/\(((.returned v:Ending)=.returned (.bool true)/\(I (pre++[x]) w'/\w'.heap[w.heap.size+1]?=some (.loop (rec .ready none))/\w'.heap[w.heap.size]?=some (.deferred (some [])))/\Kp W w')\/((.returned v:Ending)=.returned (.bool false)/\(∃ c,Ix c (pre++[x]) w'/\w'.heap[w.heap.size+1]?=some (.loop (rec .done (some c)))/\w'.heap[w.heap.size]?=some (.deferred (some [])))/\Kp W w')\/(∃ ch,(.returned v:Ending)=.panicked ch/\(Ip ch w'/\w'.heap[w.heap.size]?=some (.deferred (some [])))/\Kp W w')):=fun c W3 ab ae ah=>by
    obtain⟨hr,ac,am,an⟩:=fin (some c) W3 ab
    exact⟨_,_,hr,.inr (.inl ⟨rfl,⟨c,(hIx _).putObj _ ah (by omega) ac rfl rfl,am,an⟩,ag (ag ak ae) (aj _ _)⟩)⟩
   rintro e a3 W3 hp
   cases e with
  |normal=>
    obtain⟨ab,ae,ah⟩:=hp
    obtain⟨hr,ac,am,an⟩:=fin none W3 ab
    exact⟨_,_,hr,.inl ⟨rfl,⟨hI.putObj _ ah (by omega) ac rfl rfl,am,an⟩,ag (ag ak ae) (aj _ _)⟩⟩
  |ret=>exact jmp .ret W3 hp.1 hp.2.1 hp.2.2
  |exit id=>exact jmp (.exit id) W3 hp.1 hp.2.1 hp.2.2
  |goto t=>exact jmp (.goto t) W3 hp.1 hp.2.1 hp.2.2
  |panic ch=>
    obtain⟨hd,ab,ae,ah⟩:=hp
    exact⟨hd,.inr (.inr ⟨ch,rfl,⟨ah,ab.same _ _ (Nat.le_refl _) ax rfl⟩,ag ak ae⟩)⟩
  |outgrown=>exact hp.elim
  .rintro e W2 (⟨⟨v,rfl⟩,(⟨xs,hS,hi,hl,hk⟩|⟨pre,aM,c,hi,hl,hk⟩)⟩|⟨ch,rfl,hi,hk⟩|⟨ch,pre,rfl,aN,hi,hl,hk⟩)
   .exact⟨none,_,by have:=run_endLoop (P:=P) hl (by rw[aa];simp);rw[aa] at this;exact this,aq _ xs _ (Nat.le_refl _) hS (hI.putObj _ hi (by omega) hl rfl rfl) ((World.putObj_heap_other (by omega)).trans hk)⟩
   .exact⟨some c,_,by have:=run_endLoop (P:=P) hl (by rw[aa];simp);rw[aa] at this;exact this,ar _ c pre _ (Nat.le_refl _) aM ((hIx c).putObj _ hi (by omega) hl rfl rfl) ((World.putObj_heap_other (by omega)).trans hk)⟩
   .exact az _ ch _ (Nat.le_refl _) hi hk
   .exact aA _ ch pre _ (Nat.le_refl _) aN hi hk
end Go

