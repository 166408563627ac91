import Derived.Test.YtonnemkecppmiaaGreatDoorX0
import Derived.OrdersHeld
import Derived.Deep.RegionHeld3
import Derived.RangeFuncCalls
/-! Regions that draw their order and may panic: everywhere, and in a round. No program here. -/
namespace Go
def PanTo (d : List Deferred) (Rp : List PanicEntry → World → Prop) (Q : Exit → Act → World → Prop) : Exit → Act → World → Prop
  | .normal, a, w => Q .normal a w
  | .panic ch, a, w => a.defers = d ∧ Rp ch w
  | _, _, _ => False
variable {P : Program} {ops : Array Oper} {Q Q' : Exit → Act → World → Prop} {Rp : List PanicEntry → World → Prop} {d : List Deferred} {l n : Nat}
theorem put_defers (a : Act) (dst : Option Tmp) (v : Value) : (a.put dst v).defers = a.defers := by cases dst <;> rfl
theorem pan_put {a : Act} {dst : Option Tmp} {v : Value} {w : World} {c : List PanicEntry} (h : PanTo d Rp Q (.panic c) (a.put dst v) w) : PanTo d Rp Q (.panic c) a w := ⟨(put_defers a dst v) ▸ h.1, h.2⟩
theorem pan_imp {a₀ : Act} (hQ : ∀ ch a' w', a'.defers = a₀.defers → Rp ch w' → Q (.panic ch) a' w') : ∀ (e : Exit) (a : Act) (w : World), PanTo a₀.defers Rp Q e a w → Q e a w := fun e a w h => by
  cases e with
  | normal => exact h
  | panic ch => exact hQ _ _ _ h.1 h.2
  | ret => exact h.elim
  | exit i => exact h.elim
  | goto i => exact h.elim
  | outgrown => exact h.elim
theorem pan_shut : ¬ LetsOut (PanTo d Rp Q) := fun ⟨_, _, h⟩ => h
theorem wp_region_pan {id : Nat} {b : Bool} {a : Act} {w : World} (Rp : List PanicEntry → World → Prop) (hQ : ∀ ch a' w', a'.defers = a.defers → Rp ch w' → Q (.panic ch) a' w') (h : (Code.region id ops b).wp P (PanTo a.defers Rp Q) a w) : (Code.region id ops b).wp P Q a w :=
  Code.wp_mono (pan_imp hQ) h
theorem rowsIn_wideX {row : String} {args : Array Value} {w : World} {R : Value → World → Prop} (h : Rows P row args w R) : RowsIn (Fence.wide.inRound l) n P row args w R := by
  intro c cs _
  obtain ⟨v, w', r, s⟩ := h c cs
  exact ⟨v, w', r, stepsIn_wide.2 s⟩
theorem oper_inX {o : Oper} {a : Act} {w : World} {K K' : Act → World → Prop} (hnd : ∀ c, o.op ≠ .defer c) (hk : ∀ a w, K a w → K' a w) (h : o.wp P a w K Q') :
    o.wpIn (Fence.wide.inRound l) n P a w K' Q' := by
  unfold Oper.wpIn
  refine ⟨fun _ _ => trivial, ?_⟩
  rw [Oper.semAt_eq _ _ _ hnd]
  unfold Oper.wp at h
  generalize (execOp a.eval o).run P w = r at h ⊢
  cases r with
  | ok x w' =>
    cases x <;> simp only [Oper.upon, Oper.uponIn] at h ⊢ <;> first
      | exact hk _ _ h
      | exact h.elim
      | exact ⟨(fun hd => by cases hd), CallsIn.inRound l (callsIn_wide.2 (h.mono fun e w'' he => by cases e <;> first | exact hk _ _ he | exact he))⟩
      | exact ⟨(fun hd => by cases hd), rowsIn_wideX (h.mono fun _ _ he => hk _ _ he)⟩
  | halt x w' => cases x <;> simp only [Oper.upon, Oper.uponIn] at h ⊢ <;> first | exact h | exact h.elim
def noDeferX (ops : Array Oper) : Bool := ops.all fun o => match o.op with | .defer _ => false | _ => true
theorem noDeferX_spec (h : noDeferX ops = true) {i : Nat} {o : Oper} (ho : ops[i]? = some o) : ∀ c, o.op ≠ .defer c := by
  intro c e
  have hm := Array.all_eq_true'.1 h o (Array.mem_of_getElem? ho)
  rw [e] at hm
  cases hm
theorem wpOp_inX {i : Nat} {a : Act} {w : World} {K K' : Act → World → Prop} (hsh : ¬ LetsOut Q') (hd : noDeferX ops = true) (hk : ∀ a w, K a w → K' a w) (h : wpOp P ops Q' i K a w) :
    wpOpIn (Fence.wide.inRound l) n P ops Q' i K' a w := by
  unfold wpOp at h
  unfold wpOpIn
  cases ho : ops[i]? with
  | none => simp only [ho] at h ⊢; exact hk _ _ h
  | some o =>
    simp only [ho] at h ⊢
    split
    · rename_i hw
      rw [if_pos hw] at h
      rcases h with h | ⟨_, h⟩
      · exact oper_inX (noDeferX_spec hd ho) hk h
      · exact (hsh h).elim
    · rename_i hw
      rw [if_neg hw] at h
      exact ⟨fun _ _ => trivial, hk _ _ h⟩
theorem wpAny_inX (hsh : ¬ LetsOut Q') (hd : noDeferX ops = true) : ∀ (fuel : Nat) (listed : Array Bool) (a : Act) (w : World), wpAny P .any ops Q' fuel listed a w → wpAnyIn (Fence.wide.inRound l) n P .any ops Q' fuel listed a w
  | 0, _, _, _, h => h
  | fuel + 1, _, _, _, h => ⟨h.1, fun i hi => wpOp_inX hsh hd (fun a' w' h' => wpAny_inX hsh hd fuel _ a' w' h') (h.2 i hi)⟩
theorem region_inX {id : Nat} {S : World → Prop} {a : Act} {w : World} (Rp : List PanicEntry → World → Prop) (hm : P.follows .mixedOrders = true) (hd : noDeferX ops = true)
    (hQ : ∀ ch a' w', a'.defers = a.defers → Rp ch w' → Q (.panic ch) a' w') (hS : S w.drew)
    (h : S w.drew → wpAnyH P .any ops (PanTo a.defers Rp Q) S ops.size (Array.replicate ops.size false) a w.drew) : (Code.region id ops true).wpIn (Fence.wide.inRound l) n P Q a w :=
  wpIn_mono (wpIn_region_any hm (wpAny_inX pan_shut hd _ _ _ _ (wpAny_of_held _ _ _ _ (h hS)))) (pan_imp hQ)
end Go
