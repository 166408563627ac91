import Derived.Test.YtfffhbolaimmdaaDoorA3
namespace Go.Proofs.YtfffhbolaimmdaaDoor
open Go.RowKit
/-! A loop whose body writes many slots: the frame at the round's start is told by one function of the slot's number. -/
def mixF : List (Option Nat) → (Nat → Value) → List Value → List Value
  | [], _, l => l
  | _ :: _, _, [] => []
  | some d :: m, f, _ :: l => f d :: mixF m f l
  | none :: m, f, x :: l => x :: mixF m f l
def mixL : List (Option Nat) → List Value → List Value → List Value
  | [], l, _ => l
  | _ :: _, [], _ => []
  | _ :: _, x :: l, [] => x :: l
  | some _ :: m, _ :: l, y :: l' => y :: mixL m l l'
  | none :: m, x :: l, _ :: l' => x :: mixL m l l'
def goodM : Nat → List (Option Nat) → Bool
  | _, [] => true
  | i, some d :: m => Nat.beq d i && goodM (i + 1) m
  | i, none :: m => goodM (i + 1) m
def slotF (a : Act) (n : Nat) : Value := a.tmps.getD n undef
theorem mixL_self : ∀ (m : List (Option Nat)) (l : List Value), mixL m l l = l
  | [], l => by cases l <;> rfl
  | o :: m, [] => by cases o <;> rfl
  | some d :: m, x :: l => by unfold mixL; rw [mixL_self m l]
  | none :: m, x :: l => by unfold mixL; rw [mixL_self m l]
theorem mixF_of : ∀ (m : List (Option Nat)) (i : Nat) (g : Nat → Value) (l0 l : List Value), goodM i m = true → mixL m l0 l = l → (∀ j x, l[j]? = some x → g (i + j) = x) → mixF m g l0 = l
  | [], i, g, l0, l, _, h, _ => by unfold mixF; unfold mixL at h; exact h
  | o :: m, i, g, [], l, _, h, _ => by
    have h1 : mixL (o :: m) [] l = [] := by cases o <;> rfl
    rw [h1] at h; subst h
    cases o <;> rfl
  | o :: m, i, g, x :: l0, [], _, h, _ => by
    have h1 : mixL (o :: m) (x :: l0) [] = x :: l0 := by cases o <;> rfl
    rw [h1] at h; cases h
  | some d :: m, i, g, x :: l0, y :: l, hg, h, hs => by
    unfold goodM at hg
    rw [Bool.and_eq_true] at hg
    have hd : d = i := Nat.eq_of_beq_eq_true hg.1
    unfold mixL at h
    unfold mixF
    injection h with h1 h2
    rw [mixF_of m (i + 1) g l0 l hg.2 h2 (fun j z hj => by have := hs (j + 1) z (by simpa using hj); rw [← this]; congr 1; omega), hd]
    have := hs 0 y (by simp)
    rw [Nat.add_zero] at this
    rw [this]
  | none :: m, i, g, x :: l0, y :: l, hg, h, hs => by
    unfold goodM at hg
    unfold mixL at h
    unfold mixF
    injection h with h1 h2
    rw [mixF_of m (i + 1) g l0 l hg h2 (fun j z hj => by have := hs (j + 1) z (by simpa using hj); rw [← this]; congr 1; omega), h1]
theorem slotF_at {l : List Value} {df : List Deferred} {n : Nat} {v : Value} (h : l[n]? = some v) : slotF ⟨l.toArray, df⟩ n = v := by
  unfold slotF
  show l.toArray.getD n undef = v
  rw [Array.getD_eq_getD_getElem?, List.getElem?_toArray, h]; rfl
section
variable {P : Program} {c : Code} {Q : Exit → Act → World → Prop} {mask : List (Option Nat)} {Rel : (Nat → Value) → World → Prop} {mu : (Nat → Value) → World → Nat} {l0 : List Value} {df : List Deferred}
def InvM (mask : List (Option Nat)) (Rel : (Nat → Value) → World → Prop) (l0 : List Value) (df : List Deferred) (a : Act) (w : World) : Prop := Rel (slotF a) w ∧ a = ⟨(mixF mask (slotF a) l0).toArray, df⟩
/-- What a round of the loop must reach. -/
def EndM (mask : List (Option Nat)) (Rel : (Nat → Value) → World → Prop) (mu : (Nat → Value) → World → Nat) (l0 : List Value) (df : List Deferred) (f : Nat → Value) (w : World) (a : Act) (w' : World) : Prop := InvM mask Rel l0 df a w' ∧ mu (slotF a) w' < mu f w
theorem invM {l : List Value} {w : World} (hg : goodM 0 mask = true) (hl : mixL mask l0 l = l) (hR : Rel (slotF ⟨l.toArray, df⟩) w) : InvM mask Rel l0 df ⟨l.toArray, df⟩ w := by
  refine ⟨hR, ?_⟩
  rw [mixF_of mask 0 (slotF ⟨l.toArray, df⟩) l0 l hg hl (fun j x hj => slotF_at (by rw [Nat.zero_add]; exact hj))]
theorem endM {l : List Value} {f : Nat → Value} {w w' : World} (hg : goodM 0 mask = true) (hl : mixL mask l0 l = l) (hR : Rel (slotF ⟨l.toArray, df⟩) w') (hm : mu (slotF ⟨l.toArray, df⟩) w' < mu f w) : EndM mask Rel mu l0 df f w ⟨l.toArray, df⟩ w' :=
  ⟨invM hg hl hR, hm⟩
theorem wp_loopM (mask : List (Option Nat)) (Rel : (Nat → Value) → World → Prop) (mu : (Nat → Value) → World → Nat) {w : World} (hg : goodM 0 mask = true) (h0 : Rel (slotF ⟨l0.toArray, df⟩) w)
    (hs : ∀ (f : Nat → Value) (w' : World), Rel f w' → c.wp P (Exit.then (fun a' w'' => EndM mask Rel mu l0 df f w' a' w'') Q) ⟨(mixF mask f l0).toArray, df⟩ w') : (Code.loop c).wp P Q ⟨l0.toArray, df⟩ w := by
  refine wp_loop (InvM mask Rel l0 df) (fun a w => mu (slotF a) w) (invM hg (mixL_self mask l0) h0) ?_
  rintro a w1 ⟨hR, ha⟩
  have := hs (slotF a) w1 hR
  rw [← ha] at this
  exact this
end
/-! Small facts. -/
theorem i64_andG (a b : Nat) (ha : a < 9223372036854775808) (hb : b < 9223372036854775808) : bits .and .i64 (a : Int) (b : Int) = ((a &&& b : Nat) : Int) := by
  have f : ∀ a : Nat, a < 9223372036854775808 → (BitVec.ofInt 64 (a : Int)).toNat = a := fun a ha => by
    rw [BitVec.ofInt_natCast, BitVec.toNat_ofNat]; exact Nat.mod_eq_of_lt (by omega)
  have hx : a &&& b ≤ a := Nat.and_le_left
  show IntKind.i64.wrap ((BitVec.ofInt 64 (a : Int) &&& BitVec.ofInt 64 (b : Int)).toNat : Int) = _
  rw [BitVec.toNat_and, f a ha, f b hb, IntKind.wrap_i64]
  omega
theorem bit_eqG (x i : Nat) (hx : x < 9223372036854775808) : bits .and .i64 ((x : Int) / 2 ^ i) 1 = if has x i = true then 1 else 0 := by
  have e : ((x : Int) / 2 ^ i) = ((x / 2 ^ i : Nat) : Int) := by rw [Int.natCast_ediv, Int.natCast_pow]; rfl
  have hle : x / 2 ^ i ≤ x := Nat.div_le_self _ _
  rw [e, show (1 : Int) = ((1 : Nat) : Int) from rfl, i64_andG _ _ (by omega) (by omega), Nat.and_one_is_mod]
  unfold has
  rw [Nat.testBit_eq_decide_div_mod_eq]
  have : x / 2 ^ i % 2 < 2 := Nat.mod_lt _ (by omega)
  by_cases h : x / 2 ^ i % 2 = 1
  · rw [h]; simp
  · rw [show x / 2 ^ i % 2 = 0 by omega]; simp
theorem IBlk2.cells {w : World} {g : Nat} {a b : Int} (h : IBlk w g 2 (two a b)) : w.cell? ⟨g, 0, none⟩ = some (.int .i64 a) ∧ w.cell? ⟨g, 1, none⟩ = some (.int .i64 b) := ⟨h.cell 0 (by omega), h.cell 1 (by omega)⟩
theorem at_span {W : World} {B : Nat} {A : Option Addr} {n : Nat} {f : Nat → Int × Int} (h : At W B 2 spv A (tab2 n f)) (hn : 1 ≤ n) : ∃ b off, A = some ⟨b, off, none⟩ ∧ b < B ∧ ∀ k, k < n → W.cell? ⟨b, off + k * 2, none⟩ = some (.int .i64 (f k).1) ∧ W.cell? ⟨b, off + k * 2 + 1, none⟩ = some (.int .i64 (f k).2) := by
  have g : ∀ k, k < n → (tab2 n f)[k]? = some (f k) := fun k hk => by simp [tab2, hk]
  obtain ⟨b, off, e, hb, -⟩ := h 0 _ (g 0 (by omega))
  refine ⟨b, off, e, hb, fun k hk => ?_⟩
  obtain ⟨b', off', e', -, hc⟩ := h k _ (g k hk)
  rw [e] at e'
  injection e' with e'
  injection e' with e1 e2
  subst e1 e2
  exact ⟨hc 0 _ rfl, hc 1 _ rfl⟩
end Go.Proofs.YtfffhbolaimmdaaDoor
