import Derived.Test.YtonnemkecppmiaaGreatDoorS0
import Derived.RangeFuncNested
import Derived.RangeFuncLeaves
import Derived.OrdersIn
/-! A range over a function whose body, or whose iterator, may panic: of one function at a time (wpAt), so that the frame that panics is known to be a function's. No program here. -/
namespace Go
open Go.RowKit
variable {F : Fence} {n : Nat} {P : Program}
/-- wpIn for the frames of one function. -/
def Code.wpAt (F : Fence) (n : Nat) (P : Program) (f : FuncId) (c : Code) (Q : Exit → Act → World → Prop) (a : Act) (w : World) : Prop :=
  ∀ (b : Frame) (k : List Item) (cs : List Frame), b.roundOf = F.round → b.fn = f → F.room (cs.length + 1 + n) →
    ∃ e a' w', Q e a' w' ∧ ArrivesIn (Machine.fenced P F) P (lone (b.atR a (.code c :: k)) cs w) b k cs e a' w'
theorem wpAt_of_wpIn {f : FuncId} {c : Code} {Q : Exit → Act → World → Prop} {a : Act} {w : World} (hF : F.fn f) (h : c.wpIn F n P Q a w) : c.wpAt F n P f Q a w :=
  fun b k cs hro hb hr => h b k cs hro (hb ▸ hF) hr
theorem wpAt_seq {f : FuncId} {x y : Code} {Q : Exit → Act → World → Prop} {a : Act} {w : World} (hF : F.fn f) (h : x.wpAt F n P f (Exit.then (y.wpAt F n P f Q) Q) a w) : (Code.seq x y).wpAt F n P f Q a w := by
  intro b k cs hro hb hr
  have h0 : (lone (b.atR a (.code (.seq x y) :: k)) cs w).fenced P F := fenced_calm (hb ▸ hF) hr rfl
  obtain ⟨e, a₁, w₁, hq, harr⟩ := h b (.code y :: k) cs hro hb hr
  have hp : e ≠ .normal → Q e a₁ w₁ → ∃ e a' w', Q e a' w' ∧ ArrivesIn (Machine.fenced P F) P (lone (b.atR a (.code (.seq x y) :: k)) cs w) b k cs e a' w' := fun hne hq =>
    ⟨e, a₁, w₁, hq, .of_steps (.one h0 stepR_seq) (.pass (x := .code y) rfl (fun _ _ => .inl hne) harr)⟩
  cases e with
  | normal =>
    obtain ⟨e₂, a₂, w₂, hq₂, harr₂⟩ := hq b k cs hro hb hr
    exact ⟨e₂, a₂, w₂, hq₂, .of_steps (.head h0 stepR_seq harr) harr₂⟩
  | exit id => exact hp (by simp) hq
  | goto l => exact hp (by simp) hq
  | ret => exact hp (by simp) hq
  | panic ch => exact hp (by simp) hq
  | outgrown => exact hp (by simp) hq
/-- A block that is left by its end, by a return, or by a panic. -/
theorem wpAt_block {f : FuncId} {id : Nat} {c : Code} {Q : Exit → Act → World → Prop} {a : Act} {w : World} (hF : F.fn f) (hx : ∀ i a w, ¬ Q (.exit i) a w) (hg : ∀ i a w, ¬ Q (.goto i) a w) (h : c.wpAt F n P f Q a w) : (Code.block id c).wpAt F n P f Q a w := by
  intro b k cs hro hb hr
  have hF' : F.fn b.fn := hb ▸ hF
  have h0 : (lone (b.atR a (.code (.block id c) :: k)) cs w).fenced P F := fenced_calm hF' hr rfl
  obtain ⟨e, a₁, w₁, hq, harr⟩ := h b (.inBlock id :: k) cs hro hb hr
  cases e with
  | normal => exact ⟨.normal, a₁, w₁, hq, .head h0 stepR_block (StepsIn.trans harr (.one (fenced_calm hF' hr rfl) stepR_inBlock))⟩
  | exit i => exact (hx _ _ _ hq).elim
  | goto i => exact (hg _ _ _ hq).elim
  | ret => exact ⟨_, a₁, w₁, hq, .of_steps (.one h0 stepR_block) harr⟩
  | panic ch => exact ⟨_, a₁, w₁, hq, .of_steps (.one h0 stepR_block) harr⟩
  | outgrown => exact ⟨_, a₁, w₁, hq, .of_steps (.one h0 stepR_block) harr⟩
/-- A function's contract from its body, marks and panics taken in. -/
theorem callsIn_of_wpAt {f : FuncId} {fn : Func} {c : Code} {args : Array Value} {w : World} {R : Ending → World → Prop}
    (hf : P.funcs[f]? = some fn) (hb : fn.body = some c) (hF : F.fn f)
    (h : c.wpAt F n P f (bodyPostM F n P fn R) { tmps := args ++ Array.replicate (fn.ntmps - args.size) undef, defers := [] } w) (hro : F.round = none) : CallsIn F n P f args w R := by
  refine ⟨hF, fun cs hr => ?_⟩
  let b : Frame := { (default : Frame) with fn := f, kind := .normal, roundOf := none }
  have henter : Frame.enter P f args .normal = b.atR { tmps := args ++ Array.replicate (fn.ntmps - args.size) undef, defers := [] } [.code c] := by
    simp [Frame.enter, Frame.atR, hf, hb, b]
  obtain ⟨e, a', w', hq, harr⟩ := h b [] cs hro.symm rfl hr
  rw [← henter] at harr
  have fin : ∀ (u : FrameMode) (todo : List Item), LeavesInM F n P fn a'.tmps R a'.defers u w' → StepsIn (Machine.fenced P F) P (lone (Frame.enter P f args .normal) cs w) (lone { b.atR a' todo with mode := u } cs w') →
      ∃ e w' fr, R e w' ∧ ComesIn (Machine.fenced P F) P (lone (Frame.enter P f args .normal) cs w) (lone fr cs w') e ∧ fr.fn = f ∧ fr.leaving P w' e := fun u todo hl hs₀ => by
    obtain ⟨e', w'', fr', hR, hs, hfn, hl⟩ := leaves_stepsInM a'.defers u w' { b.atR a' todo with mode := u } cs rfl rfl rfl hf rfl hF hr hl
    exact ⟨e', w'', fr', hR, ComesIn.of_steps hs₀ hs, hfn, hl⟩
  cases e with
  | normal => exact fin .returning [] hq (StepsIn.trans harr (.one (fenced_calm (fr := b.atR a' []) hF hr rfl) (stepR_end rfl)))
  | ret => exact let ⟨todo, hs₀⟩ := harr.1 rfl; fin .returning todo hq hs₀
  | panic chain => exact let ⟨todo, hs₀⟩ := harr; fin (.panicking chain) todo hq hs₀
  | exit id => exact hq.elim
  | goto l => exact hq.elim
  | outgrown => exact ⟨.outgrown, w', b, hq, harr.resolve_left (by simp [b]), rfl, trivial⟩
/-- What is asked at a round's end, a panic taken in. -/
def roundPostX (P : Program) (l : Nat) (R : Ending → World → Prop) : Exit → Act → World → Prop
  | .panic ch, a, w => a.defers = [] ∧ R (.panicked ch) w
  | e, a, w => roundPost P l R e a w
theorem roundIn_of_wpIn_x {l : Nat} {f : FuncId} {fn : Func} {tmps : Array Value} {assign body : Code} {w : World} {R : Ending → World → Prop} (hf : P.funcs[f]? = some fn) (hF : F.fn f)
    (h : assign.wpIn (F.inRound l) n P (Exit.then (fun a₁ w₁ => ∃ w₂, (Instr.beginRound l).run P w₁ = .ok () w₂ ∧ body.wpIn (F.inRound l) n P (roundPostX P l R) a₁ w₂) (fun _ _ _ => False))
      { tmps := tmps, defers := [] } w) :
    RoundIn F n P l f tmps assign body w R := by
  refine ⟨hF, fun c cs hr => ?_⟩
  let b : Frame := { (default : Frame) with fn := f, kind := .normal, roundOf := some l }
  have hb0 : Frame.round l f tmps assign body .normal = b.atR { tmps := tmps, defers := [] } [.code assign, .beginRound, .code body] := by
    simp [Frame.round, Frame.atR, b]
  have hr' : (F.inRound l).room ((c :: cs).length + 1 + n) := hr
  have hF' : (F.inRound l).fn b.fn := hF
  obtain ⟨e, a₁, w₁, hq, harr⟩ := h b [.beginRound, .code body] (c :: cs) rfl hF' hr'
  rw [← hb0] at harr
  cases e with
  | normal =>
    obtain ⟨w₂, hbr, hbody⟩ := hq
    have s1 : StepsIn (Machine.fenced P (F.inRound l)) P (lone (b.atR a₁ [.beginRound, .code body]) (c :: cs) w₁) (lone (b.atR a₁ [.code body]) (c :: cs) w₂) :=
      .one (fenced_calm (fr := b.atR a₁ [.beginRound, .code body]) hF' hr' rfl) (stepR_beginRound rfl hbr)
    have s2 := StepsIn.trans harr s1
    obtain ⟨e₂, a₂, w₃, hq₂, harr₂⟩ := hbody b [] (c :: cs) rfl hF' hr'
    cases e₂ with
    | normal =>
      obtain ⟨v, w₄, hend, hR⟩ := hq₂
      exact ⟨.returned v, w₄, hR, s2.trans (StepsIn.trans harr₂ (.one (fenced_calm (fr := b.atR a₂ []) hF' hr' rfl) (stepR_round_end rfl rfl hend)))⟩
    | ret =>
      obtain ⟨v, w₄, hend, hR⟩ := hq₂
      obtain ⟨k₁, hs⟩ := harr₂.2 rfl
      exact ⟨.returned v, w₄, hR, s2.trans (StepsIn.trans hs (.one (fenced_calm (fr := b.atR a₂ (.code .ret :: k₁)) hF' hr' rfl) (stepR_round_ret rfl rfl hend)))⟩
    | exit id =>
      obtain ⟨v, w₄, hend, hR⟩ := hq₂
      obtain ⟨k₁, hk, hs⟩ := harr₂.2 rfl rfl
      exact ⟨.returned v, w₄, hR, s2.trans (StepsIn.trans hs (.one (fenced_calm (fr := b.atR a₂ (.code (.exit id) :: k₁)) hF' hr' rfl) (stepR_round_exit rfl rfl hk hend)))⟩
    | goto t =>
      obtain ⟨v, w₄, hend, hR⟩ := hq₂
      obtain ⟨k₁, hk, hs⟩ := harr₂.2 rfl rfl
      exact ⟨.returned v, w₄, hR, s2.trans (StepsIn.trans hs (.one (fenced_calm (fr := b.atR a₂ (.code (.goto t) :: k₁)) hF' hr' rfl) (stepR_round_goto rfl rfl hk hend)))⟩
    | panic ch =>
      obtain ⟨hd, hR⟩ := hq₂
      obtain ⟨todo, hs⟩ := harr₂
      have hlv : ({ b.atR a₂ todo with mode := .panicking ch } : Frame).leaving P w₃ (.panicked ch) := ⟨rfl, hd, fn, hf⟩
      exact ⟨.panicked ch, w₃, hR, s2.trans (StepsIn.trans hs (.one (fenced_leaving (fr := { b.atR a₂ todo with mode := .panicking ch }) (n := n) hF' hr' hlv) (step_leave_panicked hlv)))⟩
    | outgrown => exact hq₂.elim
  | exit id => exact hq.elim
  | goto t => exact hq.elim
  | ret => exact hq.elim
  | panic ch => exact hq.elim
  | outgrown => exact hq.elim
/-- The statement, of one function. -/
theorem wpAt_rangeFunc {f₀ : FuncId} {g : Operand} {ps : Array Tmp} {assign body : Code} {Q : Exit → Act → World → Prop} {a : Act} {w : World} (hb₀ : F.fn f₀)
    {l : Nat} {mark : List Deferred} {w₁ : World} {d : Deferred} {w₁' : World} {f : FuncId} {args : Array Value} {w₂ : World}
    (he : (Instr.enterLoop f₀ a.tmps ps assign body F.round).run P w = .ok (l, mark) w₁)
    (hres : (resolve a.eval (rangeCall g l) 0).run P w₁ = .ok d w₁')
    (hlead : ∀ f', Target.leads P w₁' d.target d.args = some f' → F.fn f')
    (hinv : (invoke d.target d.args).run P w₁' = .ok (.enter f args) w₂)
    (hn : F.depth.isSome = true → 1 ≤ n)
    (hc : CallsIn F (n - 1) P f args w₂ (fun
      | .returned _, w₃ => ∃ jump w₄, (Instr.endLoop l).run P w₃ = .ok jump w₄ ∧ (match jump with
        | none => Q .normal { a with defers := mark ++ a.defers } w₄
        | some c => c.wpAt F n P f₀ Q { a with defers := mark ++ a.defers } w₄)
      | .panicked chain, w₃ => Q (.panic chain) { a with defers := mark ++ a.defers } w₃
      | .outgrown, _ => LetsOut Q)) :
    (Code.rangeFunc g ps assign body).wpAt F n P f₀ Q a w := by
  intro b k cs hro hb hr
  have hFb : F.fn b.fn := hb ▸ hb₀
  obtain ⟨hF, hcall⟩ := hc
  rw [← hro, ← hb] at he
  have h0 : (lone (b.atR a (.code (.rangeFunc g ps assign body) :: k)) cs w).fenced P F := by
    refine fenced_lone (.inl hFb) (fun f' hf' => hlead f' ?_) (Fence.room_le hr (by omega))
    have hev := Frame.eval_atR b a (.code (.rangeFunc g ps assign body) :: k)
    simp only [Frame.atR] at hev
    simp only [Frame.about, Frame.atR, he, hev, hres] at hf'
    exact hf'
  have henter := stepR_rangeFunc (P := P) (b := b) (a := a) (k := k) (cs := cs) (w := w) he hres hinv
  have hroom : F.room ((b.atR { a with defers := mark ++ a.defers } (.inRangeFunc l :: k) :: cs).length + 1 + (n - 1)) := Fence.room_enter hr hn
  obtain ⟨e, w₃, fr, hR, hsteps, hfn, hleave⟩ := hcall (b.atR { a with defers := mark ++ a.defers } (.inRangeFunc l :: k) :: cs) hroom
  cases e with
  | outgrown =>
    obtain ⟨a₀, w₀, hq⟩ := hR
    exact ⟨.outgrown, a₀, w₀, hq, .inr (Outgrown.of_steps (.one henter) hsteps)⟩
  | returned v =>
    have hl : (lone fr (b.atR { a with defers := mark ++ a.defers } (.inRangeFunc l :: k) :: cs) w₃).fenced P F := fenced_leaving (hfn ▸ hF) hroom hleave
    obtain ⟨jump, w₄, hend, hj⟩ := hR
    have sback : StepsIn (Machine.fenced P F) P (lone (b.atR a (.code (.rangeFunc g ps assign body) :: k)) cs w) (lone (b.atR { a with defers := mark ++ a.defers } ((jump.map Item.code).toList ++ k)) cs w₄) := by
      refine .head h0 henter (StepsIn.trans hsteps (.head hl ?_ (.one (fenced_calm (fr := b.atR { a with defers := mark ++ a.defers } (.endRangeFunc l :: k)) hFb hr rfl) (stepR_endRangeFunc hend))))
      rw [← finish_atR_inRangeFunc l v]; exact step_leave_returned hleave
    cases jump with
    | none => exact ⟨.normal, _, w₄, hj, sback⟩
    | some c =>
      obtain ⟨e', a'', w₅, hq, harr⟩ := hj b k cs hro hb hr
      exact ⟨e', a'', w₅, hq, .of_steps sback harr⟩
  | panicked chain =>
    have hl : (lone fr (b.atR { a with defers := mark ++ a.defers } (.inRangeFunc l :: k) :: cs) w₃).fenced P F := fenced_leaving (hfn ▸ hF) hroom hleave
    refine ⟨.panic chain, _, w₃, hR, .inRangeFunc l :: k, .head h0 henter (StepsIn.trans hsteps (.one hl ?_))⟩
    rw [← Frame.raise_atR]; exact step_leave_panicked hleave
theorem hconsI {md : Region.Mode} {ops : Array Oper} {Q : Exit → Act → World → Prop} {fuel : Nat} {listed : Array Bool} {a : Act} {w : World} {i : Nat} {o : Oper} {rs : List Nat} (ho : ops.toList[i]? = some o)
    (h : ∀ K' : Act → World → Prop, (∀ a w, wpAnyIn F n P md ops Q fuel (listed.setIfInBounds i true) a w → K' a w) → if Region.wanted o (yielded ops a.tmps) = true then Oper.wpIn F n P o a w K' Q else (∀ f, o.about P w a.eval = some f → F.fn f) ∧ K' (a.put o.dst undef) w)
    (hs : AllReadyIn F n P md ops Q fuel listed a w rs) : AllReadyIn F n P md ops Q fuel listed a w (i :: rs) := AllReadyIn.cons (by simpa using ho) h hs
theorem roundIn_any {n m l l' : Nat} {f : FuncId} {tmps : Array Value} {assign body : Code} {w : World} {R : Ending → World → Prop} (h : RoundIn Fence.wide n P l f tmps assign body w R) : RoundIn (Fence.wide.inRound l') m P l f tmps assign body w R :=
  ⟨trivial, fun c cs _ => h.2 c cs (room_wide _)⟩
theorem three_way {e : Ending} {A B C : Prop} {D : List PanicEntry → Prop} (h : (e = .returned (.bool true) ∧ A ∧ B) ∨ (e = .returned (.bool false) ∧ C ∧ B) ∨ (∃ ch, e = .panicked ch ∧ D ch ∧ B)) :
    (∃ b, e = .returned (.bool b) ∧ (if b = true then A else C) ∧ B) ∨ (∃ ch, e = .panicked ch ∧ D ch ∧ B) := by
  rcases h with ⟨h1, h2⟩ | ⟨h1, h2⟩ | h
  · exact .inl ⟨true, h1, h2⟩
  · exact .inl ⟨false, h1, h2⟩
  · exact .inr h
/-- J abides a turn of the blocks that T lets. -/
def AbidesT {β : Type} (T : World → Nat → Prop) (J : β → World → Prop) : Prop := ∀ s A A' row, J s A → A.grownBy A' row → (∀ r, row = some r → T A r ∧ T A' r) → J s A'
/-- An iterator's contract: T tells which blocks it may turn between two rounds, Kp what a round must keep, Sp what is known of what has come, R of what is handed over. A round may panic. -/
def SeqX {α : Type} (F : Fence) (n : Nat) (P : Program) (g : Nat) (lb : Array Value) (encs : α → Array Value) (T : World → Nat → Prop) (Kp : World → World → Prop) (R : α → World → Prop) (S Sp : List α → Prop) (w : World) : Prop :=
  ∀ (l : Nat) (J Jx : List α → World → Prop) (Jp : List PanicEntry → World → Prop), AbidesT T J → AbidesT T Jx → AbidesT T Jp →
    (∀ pre x W1, J pre W1 → Sp (pre ++ [x]) → R x W1 → YieldAt F (n - 1) P l (encs x) W1 fun e W' =>
      (e = .returned (.bool true) ∧ J (pre ++ [x]) W' ∧ Kp W1 W') ∨ (e = .returned (.bool false) ∧ Jx (pre ++ [x]) W' ∧ Kp W1 W') ∨ (∃ ch, e = .panicked ch ∧ Jp ch W' ∧ Kp W1 W')) →
    J [] w →
    CallsIn F n P g (#[.func (.yield l) #[] #[]] ++ lb) w fun e W' =>
      ((∃ v, e = .returned v) ∧ ((∃ xs, S xs ∧ J xs W') ∨ (∃ pre, Sp pre ∧ Jx pre W'))) ∨ (∃ ch, e = .panicked ch ∧ Jp ch W')
/-- What abides a turn, at or beyond B, of a block that is no cells and stays so. -/
def OwnX {β : Type} (B : Nat) (I : β → World → Prop) : Prop :=
  ∀ s W W' row, I s W → W.grownBy W' row → (∀ r, row = some r → B ≤ r ∧ (∃ o : Obj, W.heap[r]? = some o ∧ o.isCells = false) ∧ (∃ o : Obj, W'.heap[r]? = some o ∧ o.isCells = false)) → I s W'
theorem OwnX.alloc {β : Type} {B : Nat} {I : β → World → Prop} (h : OwnX B I) {s : β} {W : World} (o : Obj) (hs : I s W) : I s (W.alloc o) :=
  h s W _ none hs (only_of_below' ((Below.refl _ W).alloc (Nat.le_refl _) o)) (fun _ e => by cases e)
where only_of_below' {a w : World} (h : Below a.heap.size a w) : a.grownBy w none := ⟨h.os, h.tape, h.output, h.size, fun i hi _ => h.block i hi⟩
theorem OwnX.putObj {β : Type} {B : Nat} {I : β → World → Prop} (h : OwnX B I) {s : β} {W : World} {l : Nat} {o : Obj} (o' : Obj) (hs : I s W) (hB : B ≤ l) (hl : W.heap[l]? = some o) (ho : o.isCells = false) (ho' : o'.isCells = false) : I s (W.putObj l o') :=
  h s W _ (some l) hs (grownBy_putObj' W l o') (fun r e => by cases e; exact ⟨hB, ⟨o, hl, ho⟩, o', World.putObj_heap_same (Array.getElem?_eq_some_iff.1 hl).1, ho'⟩)
/-- How a round's body may be left. -/
def ownPostX {α : Type} (B : Nat) (Kp : World → World → Prop) (I : List α → World → Prop) (Ix : Code → List α → World → Prop) (Ip : List PanicEntry → World → Prop) (xs : List α) (W : World) : Exit → Act → World → Prop
  | .normal, _, W' => KeepsFrom B W W' ∧ Kp W W' ∧ I xs W'
  | .ret, _, W' => KeepsFrom B W W' ∧ Kp W W' ∧ Ix .ret xs W'
  | .exit id, _, W' => KeepsFrom B W W' ∧ Kp W W' ∧ Ix (.exit id) xs W'
  | .goto t, _, W' => KeepsFrom B W W' ∧ Kp W W' ∧ Ix (.goto t) xs W'
  | .panic ch, a, W' => a.defers = [] ∧ KeepsFrom B W W' ∧ Kp W W' ∧ Ip ch W'
  | .outgrown, _, _ => False
theorem wpAt_rangeFunc_x {α : Type} {f₀ : FuncId} {fn₀ : Func} {g : Operand} {ps : Array Tmp} {assign body : Code} {Q : Exit → Act → World → Prop} {a : Act} {w : World}
    (hf₀ : P.funcs[f₀]? = some fn₀) (hb₀ : F.fn f₀) (hro : F.round = none) (h1 : 1 ≤ n) {gf : Nat} {lb : Array Value} (hg : a.eval g = .func (.func gf) #[] lb) (hFg : F.fn gf) (eg : ∀ args w, (callFunc gf args).run P w = .ok (.enter gf args) w)
    {encs : α → Array Value} {T : World → Nat → Prop} {Kp : World → World → Prop} {R : α → World → Prop} {S Sp : List α → Prop}
    (hseq : ∀ W : World, Below w.heap.size w W → W.heap.size = w.heap.size + 2 → SeqX F (n - 1) P gf lb encs T Kp R S Sp W)
    (hT : ∀ A r, T A r → r ≠ w.heap.size ∧ r ≠ w.heap.size + 1)
    (hKt : ∀ {A B C : World}, Kp A B → Kp B C → Kp A C) (hKb : ∀ (W : World) (o' : Obj), Kp W (W.putObj (w.heap.size + 1) o')) (hps : ∀ x, (encs x).size = ps.size)
    (I : List α → World → Prop) (Ix : Code → List α → World → Prop) (Ip : List PanicEntry → World → Prop)
    (hI : OwnX w.heap.size I) (hIx : ∀ c, OwnX w.heap.size (Ix c)) (hR : OwnX w.heap.size R)
    (tI : AbidesT T I) (tIx : ∀ c, AbidesT T (Ix c)) (tIp : AbidesT T Ip) (h0 : I [] w) (a₁ : α → Act)
    (hassign : ∀ (l : Nat) (x : α) (W : World) (K : Act → World → Prop), K (a₁ x) W →
      assign.wpIn (F.inRound l) (n - 1 - 1) P (Exit.then K (fun _ _ _ => False)) { tmps := (ps.zip (encs x)).foldl (fun t (p, v) => t.setIfInBounds p v) a.tmps, defers := [] } W)
    (hbody : ∀ (l : Nat) (pre : List α) (x : α) (W : World), I pre W → Sp (pre ++ [x]) → R x W → body.wpIn (F.inRound l) (n - 1 - 1) P (ownPostX w.heap.size Kp I Ix Ip (pre ++ [x]) W) (a₁ x) W)
    (hdone : ∀ (D : Nat) (xs : List α) (W : World), w.heap.size ≤ D → S xs → I xs W → W.heap[D]? = some (.deferred (some [])) → Q .normal { a with defers := { target := .collected D, args := #[] } :: a.defers } W)
    (hstop : ∀ (D : Nat) (c : Code) (pre : List α) (W : World), w.heap.size ≤ D → Sp pre → Ix c pre W → W.heap[D]? = some (.deferred (some [])) → c.wpAt F n P f₀ Q { a with defers := { target := .collected D, args := #[] } :: a.defers } W)
    (hpan : ∀ (D : Nat) (ch : List PanicEntry) (W : World), w.heap.size ≤ D → Ip ch W → W.heap[D]? = some (.deferred (some [])) → Q (.panic ch) { a with defers := { target := .collected D, args := #[] } :: a.defers } W) :
    (Code.rangeFunc g ps assign body).wpAt F n P f₀ Q a w := by
  obtain ⟨rec, hrec⟩ : ∃ rec : LoopState → Option Code → Loop, rec = fun st pe => { state := st, pending := pe, fn := f₀, tmps := a.tmps, params := ps, assign, body, defers := w.heap.size } := ⟨_, rfl⟩
  obtain ⟨W1, hW1⟩ : ∃ W1, (w.alloc (.deferred (some []))).alloc (.loop (rec .ready none)) = W1 := ⟨_, rfl⟩
  have hL1 : W1.heap[w.heap.size + 1]? = some (.loop (rec .ready none)) := by
    rw [← hW1]; have := World.alloc_heap_new (w.alloc (.deferred (some []))) (.loop (rec .ready none)); rwa [World.size_alloc] at this
  have hK1 : W1.heap[w.heap.size]? = some (.deferred (some [])) := by
    rw [← hW1]; exact (Below.heap_alloc _ _ _ (by simp)).trans (World.alloc_heap_new w _)
  have hI1 : I [] W1 := by rw [← hW1]; exact hI.alloc _ (hI.alloc _ h0)
  have hb1 : Below w.heap.size w W1 := by rw [← hW1]; exact ((Below.refl _ w).alloc (Nat.le_refl _) _).alloc (by simp) _
  have hs1 : W1.heap.size = w.heap.size + 2 := by rw [← hW1]; simp
  have keep : ∀ {A A' : World} {row : Option Nat} {k : Nat} {o : Obj}, A.grownBy A' row → (∀ r, row = some r → T A r ∧ T A' r) → (k = w.heap.size ∨ k = w.heap.size + 1) → A.heap[k]? = some o → A'.heap[k]? = some o := fun hg hr hk ho =>
    (hg.block _ (Array.getElem?_eq_some_iff.1 ho).1 (fun e => by obtain ⟨u1, u2⟩ := hT _ _ (hr _ e.symm).1; rcases hk with hk | hk <;> simp_all)).trans ho
  refine wpAt_rangeFunc (l := w.heap.size + 1) (mark := [{ target := .collected w.heap.size, args := #[] }]) (w₁ := W1) (d := { target := .fn (.func gf) lb, args := #[.func (.yield (w.heap.size + 1)) #[] #[]] }) (w₁' := W1) (f := gf) (args := #[.func (.yield (w.heap.size + 1)) #[] #[]] ++ lb) (w₂ := W1) hb₀ ?_ ?_ ?_ ?_ (fun _ => h1) ?_
  · rw [hro, ← hW1, hrec]; exact run_enterLoop_outer _ _ _ _ _
  · simp only [resolve, hg]
    simp [go_sem]
  · intro f' hf'; simp [Target.leads] at hf'; subst hf'; exact hFg
  · simp [invoke, go_sem, eg]
  · refine (hseq W1 hb1 hs1 (w.heap.size + 1)
      (fun pre W => I pre W ∧ W.heap[w.heap.size + 1]? = some (.loop (rec .ready none)) ∧ W.heap[w.heap.size]? = some (.deferred (some [])))
      (fun pre W => ∃ c, Ix c pre W ∧ W.heap[w.heap.size + 1]? = some (.loop (rec .done (some c))) ∧ W.heap[w.heap.size]? = some (.deferred (some [])))
      (fun ch W => Ip ch W ∧ W.heap[w.heap.size]? = some (.deferred (some [])))
      (fun s A A' row hs hg hr => ⟨tI s A A' row hs.1 hg hr, keep hg hr (.inr rfl) hs.2.1, keep hg hr (.inl rfl) hs.2.2⟩)
      (fun s A A' row ⟨c, hc, hl, hk⟩ hg hr => ⟨c, tIx c s A A' row hc hg hr, keep hg hr (.inr rfl) hl, keep hg hr (.inl rfl) hk⟩)
      (fun s A A' row hs hg hr => ⟨tIp s A A' row hs.1 hg hr, keep hg hr (.inl rfl) hs.2⟩)
      ?_ ⟨hI1, hL1, hK1⟩).mono ?_
    · rintro pre x W ⟨hi, hl, hk⟩ hsp hrx
      have hlt : w.heap.size + 1 < W.heap.size := (Array.getElem?_eq_some_iff.1 hl).1
      have hy := run_yield (P := P) (args := encs x) hl (by rw [hrec]; exact hps x)
      rw [hrec] at hy
      refine ⟨f₀, _, assign, body, hy, roundIn_of_wpIn_x hf₀ hb₀ (hassign _ x W _ ?_)⟩
      clear hy
      refine ⟨_, run_beginRound hl (by rw [hrec]), ?_⟩
      have hl2 : (W.putObj (w.heap.size + 1) (.loop { rec .ready none with state := .busy })).heap[w.heap.size + 1]? = some (.loop { rec .ready none with state := .busy }) := World.putObj_heap_same hlt
      have hk2 : (W.putObj (w.heap.size + 1) (.loop { rec .ready none with state := .busy })).heap[w.heap.size]? = some (.deferred (some [])) := (World.putObj_heap_other (by omega)).trans hk
      have hw2 : Kp W (W.putObj (w.heap.size + 1) (.loop { rec .ready none with state := .busy })) := hKb _ _
      refine wpIn_mono (hbody _ pre x _ (hI.putObj _ hi (by omega) hl rfl rfl) hsp (hR.putObj _ hrx (by omega) hl rfl rfl)) ?_
      have fin : ∀ (jump : Option Code) (W3 : World), KeepsFrom w.heap.size (W.putObj (w.heap.size + 1) (.loop { rec .ready none with state := .busy })) W3 →
          (Instr.endRound (w.heap.size + 1) jump).run P W3 = .ok (.bool jump.isNone) (W3.putObj (w.heap.size + 1) (.loop (rec (if jump.isNone then .ready else .done) jump))) ∧
          W3.heap[w.heap.size + 1]? = some (.loop { rec .ready none with state := .busy }) ∧
          (W3.putObj (w.heap.size + 1) (.loop (rec (if jump.isNone then .ready else .done) jump))).heap[w.heap.size + 1]? = some (.loop (rec (if jump.isNone then .ready else .done) jump)) ∧
          (W3.putObj (w.heap.size + 1) (.loop (rec (if jump.isNone then .ready else .done) jump))).heap[w.heap.size]? = some (.deferred (some [])) := fun jump W3 hk3 => by
        have hl3 := hk3.same _ _ (by omega) hl2 rfl
        have := run_endRound (P := P) jump hl3
        rw [hrec] at this ⊢
        exact ⟨this, by rw [hrec] at hl3; exact hl3, World.putObj_heap_same (Array.getElem?_eq_some_iff.1 hl3).1, (World.putObj_heap_other (by omega)).trans (hk3.same _ _ (Nat.le_refl _) hk2 rfl)⟩
      have jmp : ∀ (c : Code) (W3 : World), KeepsFrom w.heap.size (W.putObj (w.heap.size + 1) (.loop { rec .ready none with state := .busy })) W3 → Kp (W.putObj (w.heap.size + 1) (.loop { rec .ready none with state := .busy })) W3 → Ix c (pre ++ [x]) W3 →
          ∃ v w', (Instr.endRound (w.heap.size + 1) (some c)).run P W3 = .ok v w' ∧ (((.returned v : Ending) = .returned (.bool true) ∧ (I (pre ++ [x]) w' ∧ w'.heap[w.heap.size + 1]? = some (.loop (rec .ready none)) ∧ w'.heap[w.heap.size]? = some (.deferred (some []))) ∧ Kp W w') ∨ ((.returned v : Ending) = .returned (.bool false) ∧ (∃ c, Ix c (pre ++ [x]) w' ∧ w'.heap[w.heap.size + 1]? = some (.loop (rec .done (some c))) ∧ w'.heap[w.heap.size]? = some (.deferred (some []))) ∧ Kp W w') ∨ (∃ ch, (.returned v : Ending) = .panicked ch ∧ (Ip ch w' ∧ w'.heap[w.heap.size]? = some (.deferred (some []))) ∧ Kp W w')) := fun c W3 hk3 hkp3 hi3 => by
        obtain ⟨hr, hl3, hl4, hk4⟩ := fin (some c) W3 hk3
        exact ⟨_, _, hr, .inr (.inl ⟨rfl, ⟨c, (hIx _).putObj _ hi3 (by omega) hl3 rfl rfl, hl4, hk4⟩, hKt (hKt hw2 hkp3) (hKb _ _)⟩)⟩
      rintro e a3 W3 hp
      cases e with
      | normal =>
        obtain ⟨hk3, hkp3, hi3⟩ := hp
        obtain ⟨hr, hl3, hl4, hk4⟩ := fin none W3 hk3
        exact ⟨_, _, hr, .inl ⟨rfl, ⟨hI.putObj _ hi3 (by omega) hl3 rfl rfl, hl4, hk4⟩, hKt (hKt hw2 hkp3) (hKb _ _)⟩⟩
      | ret => exact jmp .ret W3 hp.1 hp.2.1 hp.2.2
      | exit id => exact jmp (.exit id) W3 hp.1 hp.2.1 hp.2.2
      | goto t => exact jmp (.goto t) W3 hp.1 hp.2.1 hp.2.2
      | panic ch =>
        obtain ⟨hd, hk3, hkp3, hi3⟩ := hp
        exact ⟨hd, .inr (.inr ⟨ch, rfl, ⟨hi3, hk3.same _ _ (Nat.le_refl _) hk2 rfl⟩, hKt hw2 hkp3⟩)⟩
      | outgrown => exact hp.elim
    · rintro e W2 (⟨⟨v, rfl⟩, (⟨xs, hS, hi, hl, hk⟩ | ⟨pre, hSp, c, hi, hl, hk⟩)⟩ | ⟨ch, rfl, hi, hk⟩)
      · exact ⟨none, _, by have := run_endLoop (P := P) hl (by rw [hrec]; simp); rw [hrec] at this; exact this, hdone _ xs _ (Nat.le_refl _) hS (hI.putObj _ hi (by omega) hl rfl rfl) ((World.putObj_heap_other (by omega)).trans hk)⟩
      · exact ⟨some c, _, by have := run_endLoop (P := P) hl (by rw [hrec]; simp); rw [hrec] at this; exact this, hstop _ c pre _ (Nat.le_refl _) hSp ((hIx c).putObj _ hi (by omega) hl rfl rfl) ((World.putObj_heap_other (by omega)).trans hk)⟩
      · exact hpan _ ch _ (Nat.le_refl _) hi hk
end Go
