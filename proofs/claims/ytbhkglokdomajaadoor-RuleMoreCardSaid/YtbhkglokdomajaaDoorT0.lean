import Derived.Test.YtbhkglokdomajaaDoorS0
namespace Go.Proofs.YtbhkglokdomajaaDoor
open Go.RowKit
/-! A loop whose body writes many slots: the frame at the round's start is told by one function of the slot's number. -/
def mixF : List (Option Nat) → (Nat → Value) → List Value → List Value
  | [], _, l => l
  | _ :: _, _, [] => []
  | some d :: m, f, _ :: l => f d :: mixF m f l
  | none :: m, f, x :: l => x :: mixF m f l
def mixL : List (Option Nat) → List Value → List Value → List Value
  | [], l, _ => l
  | _ :: _, [], _ => []
  | _ :: _, x :: l, [] => x :: l
  | some _ :: m, _ :: l, y :: l' => y :: mixL m l l'
  | none :: m, x :: l, _ :: l' => x :: mixL m l l'
def goodM : Nat → List (Option Nat) → Bool
  | _, [] => true
  | i, some d :: m => Nat.beq d i && goodM (i + 1) m
  | i, none :: m => goodM (i + 1) m
def slotF (a : Act) (n : Nat) : Value := a.tmps.getD n undef
theorem mixL_self : ∀ (m : List (Option Nat)) (l : List Value), mixL m l l = l
  | [], l => by cases l <;> rfl
  | o :: m, [] => by cases o <;> rfl
  | some d :: m, x :: l => by unfold mixL; rw [mixL_self m l]
  | none :: m, x :: l => by unfold mixL; rw [mixL_self m l]
theorem mixF_of : ∀ (m : List (Option Nat)) (i : Nat) (g : Nat → Value) (l0 l : List Value), goodM i m = true → mixL m l0 l = l → (∀ j x, l[j]? = some x → g (i + j) = x) → mixF m g l0 = l
  | [], i, g, l0, l, _, h, _ => by unfold mixF; unfold mixL at h; exact h
  | o :: m, i, g, [], l, _, h, _ => by
    have h1 : mixL (o :: m) [] l = [] := by cases o <;> rfl
    rw [h1] at h; subst h
    cases o <;> rfl
  | o :: m, i, g, x :: l0, [], _, h, _ => by
    have h1 : mixL (o :: m) (x :: l0) [] = x :: l0 := by cases o <;> rfl
    rw [h1] at h; cases h
  | some d :: m, i, g, x :: l0, y :: l, hg, h, hs => by
    unfold goodM at hg
    rw [Bool.and_eq_true] at hg
    have hd : d = i := Nat.eq_of_beq_eq_true hg.1
    unfold mixL at h
    unfold mixF
    injection h with h1 h2
    rw [mixF_of m (i + 1) g l0 l hg.2 h2 (fun j z hj => by have := hs (j + 1) z (by simpa using hj); rw [← this]; congr 1; omega), hd]
    have := hs 0 y (by simp)
    rw [Nat.add_zero] at this
    rw [this]
  | none :: m, i, g, x :: l0, y :: l, hg, h, hs => by
    unfold goodM at hg
    unfold mixL at h
    unfold mixF
    injection h with h1 h2
    rw [mixF_of m (i + 1) g l0 l hg h2 (fun j z hj => by have := hs (j + 1) z (by simpa using hj); rw [← this]; congr 1; omega), h1]
theorem slotF_at {l : List Value} {df : List Deferred} {n : Nat} {v : Value} (h : l[n]? = some v) : slotF ⟨l.toArray, df⟩ n = v := by
  unfold slotF
  show l.toArray.getD n undef = v
  rw [Array.getD_eq_getD_getElem?, List.getElem?_toArray, h]; rfl
section
variable {P : Program} {c : Code} {Q : Exit → Act → World → Prop} {mask : List (Option Nat)} {Rel : (Nat → Value) → World → Prop} {mu : (Nat → Value) → World → Nat} {l0 : List Value} {df : List Deferred}
def InvM (mask : List (Option Nat)) (Rel : (Nat → Value) → World → Prop) (l0 : List Value) (df : List Deferred) (a : Act) (w : World) : Prop := Rel (slotF a) w ∧ a = ⟨(mixF mask (slotF a) l0).toArray, df⟩
/-- What a round of the loop must reach. -/
def EndM (mask : List (Option Nat)) (Rel : (Nat → Value) → World → Prop) (mu : (Nat → Value) → World → Nat) (l0 : List Value) (df : List Deferred) (f : Nat → Value) (w : World) (a : Act) (w' : World) : Prop := InvM mask Rel l0 df a w' ∧ mu (slotF a) w' < mu f w
theorem invM {l : List Value} {w : World} (hg : goodM 0 mask = true) (hl : mixL mask l0 l = l) (hR : Rel (slotF ⟨l.toArray, df⟩) w) : InvM mask Rel l0 df ⟨l.toArray, df⟩ w := by
  refine ⟨hR, ?_⟩
  rw [mixF_of mask 0 (slotF ⟨l.toArray, df⟩) l0 l hg hl (fun j x hj => slotF_at (by rw [Nat.zero_add]; exact hj))]
theorem endM {l : List Value} {f : Nat → Value} {w w' : World} (hg : goodM 0 mask = true) (hl : mixL mask l0 l = l) (hR : Rel (slotF ⟨l.toArray, df⟩) w') (hm : mu (slotF ⟨l.toArray, df⟩) w' < mu f w) : EndM mask Rel mu l0 df f w ⟨l.toArray, df⟩ w' :=
  ⟨invM hg hl hR, hm⟩
theorem wp_loopM (mask : List (Option Nat)) (Rel : (Nat → Value) → World → Prop) (mu : (Nat → Value) → World → Nat) {w : World} (hg : goodM 0 mask = true) (h0 : Rel (slotF ⟨l0.toArray, df⟩) w)
    (hs : ∀ (f : Nat → Value) (w' : World), Rel f w' → c.wp P (Exit.then (fun a' w'' => EndM mask Rel mu l0 df f w' a' w'') Q) ⟨(mixF mask f l0).toArray, df⟩ w') : (Code.loop c).wp P Q ⟨l0.toArray, df⟩ w := by
  refine wp_loop (InvM mask Rel l0 df) (fun a w => mu (slotF a) w) (invM hg (mixL_self mask l0) h0) ?_
  rintro a w1 ⟨hR, ha⟩
  have := hs (slotF a) w1 hR
  rw [← ha] at this
  exact this
end
end Go.Proofs.YtbhkglokdomajaaDoor
