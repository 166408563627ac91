import Derived.Test.YtfffhbolaimmdaaDoorQ2
namespace Go.Proofs.YtfffhbolaimmdaaDoor
open Go.RowKit
/-! Plain facts: whatever was true. -/
theorem sumTo_mono5 {n : Nat} {f g : Nat → Int} (h : ∀ i, i < n → f i ≤ g i) : sumTo n f ≤ sumTo n g := by
  induction n with
  | zero => exact Int.le_refl _
  | succ n ih => rw [sumTo_split, sumTo_split]; have := ih (fun i hi => h i (by omega)); have := h n (by omega); omega
def covTo (s : Store) (set : Nat) (f : Nat → Int) (n : Nat) : Bool := (tab n fun k => lackS s set k (f k)).all fun x => x == 0
theorem covTo_succ (s : Store) (set : Nat) (f : Nat → Int) (n : Nat) : covTo s set f (n + 1) = (covTo s set f n && (lackS s set n (f n) == 0)) := by simp [covTo, tab, List.range_succ]
theorem lackS_mono (s : Store) (set k : Nat) {a b : Int} (h : a ≤ b) : lackS s set k b ≤ lackS s set k a := by unfold lackS; omega
theorem lackS_ge (s : Store) (set k : Nat) (a : Int) : 0 ≤ lackS s set k a := by unfold lackS; omega
theorem covTo_mono {s : Store} {set : Nat} {f g : Nat → Int} {n : Nat} (h : ∀ k, k < n → f k ≤ g k) (hc : covTo s set f n = true) : covTo s set g n = true := by
  induction n with
  | zero => rfl
  | succ n ih =>
    rw [covTo_succ, Bool.and_eq_true] at hc ⊢
    refine ⟨ih (fun k hk => h k (by omega)) hc.1, ?_⟩
    have h1 := lackS_mono s set n (h n (by omega))
    have h2 := lackS_ge s set n (g n)
    have h3 : lackS s set n (f n) = 0 := by simpa using hc.2
    simp; omega
theorem cost_ok {s : Store} (ok : Ok s) {k : Nat} (hk : k < s.sheets.length) : 0 ≤ (sheetAt s k).cost ∧ (sheetAt s k).cost ≤ 10000 := (ok.sheet _ (sheetAt_mem hk)).2.2.2
theorem costTo_mono {s : Store} (ok : Ok s) (set : Nat) {f g : Nat → Int} {n : Nat} (hn : n ≤ s.sheets.length) (h : ∀ k, k < n → f k ≤ g k) : costTo s set g n ≤ costTo s set f n := by
  unfold costTo
  refine sumTo_mono5 fun k hk => ?_
  exact Int.mul_le_mul_of_nonneg_left (lackS_mono s set k (h k hk)) (cost_ok ok (by omega)).1
theorem gainS_mono {s : Store} (ok : Ok s) (set : Nat) {f g : Nat → Int} (h : ∀ k, k < s.sheets.length → f k ≤ g k) : gainS s set f ≤ gainS s set g := by
  have := costTo_mono ok set (Nat.le_refl _) h
  unfold gainS; omega
def ucell (n : Int) : List Value := [.int .u32 n]
/-- What was true, by remainders. -/
def pickS (s : Store) (l : List Int) (k : Nat) : Int := loAt s k + (l.getD (k % l.length) 0) % (hiAt s k - loAt s k + 1)
theorem pick_in {s : Store} (ok : Ok s) (l : List Int) {k : Nat} (hk : k < s.sheets.length) : loAt s k ≤ pickS s l k ∧ pickS s l k ≤ hiAt s k := by
  have h := ok.sheet _ (sheetAt_mem hk)
  have h1 := Int.emod_nonneg (l.getD (k % l.length) 0) (b := hiAt s k - loAt s k + 1) (by unfold hiAt loAt; omega)
  have h2 := Int.emod_lt_of_pos (l.getD (k % l.length) 0) (b := hiAt s k - loAt s k + 1) (by unfold hiAt loAt; omega)
  unfold pickS; omega
theorem surely_cov (s : Store) (set n : Nat) : surelyTo s set n = covTo s set (loAt s) n := rfl
theorem can_cov (s : Store) (set n : Nat) : canTo s set n = covTo s set (hiAt s) n := rfl
/-- A round of the law: what is taken, what there was, what was bought, and what is left. -/
theorem true_facts {s : Store} (ok : Ok s) (l : List Int) (x : Nat) {k : Nat} (hk : k < s.sheets.length) : ∃ T Mm Bt Lf ll lh co cs cs' sl sh : Int, ∃ ck ck' : Bool,
    takeS s x k = T ∧ pickS s l k = Mm ∧ lacksS s x k = (ll, lh) ∧ (sheetAt s k).cost = co ∧ costTo s x (pickS s l) k = cs ∧ costTo s x (pickS s l) (k + 1) = cs' ∧ covTo s x (pickS s l) k = ck ∧ covTo s x (pickS s l) (k + 1) = ck' ∧ max 0 (loAt s k - T) = sl ∧ max 0 (hiAt s k - T) = sh ∧
    max 0 (T - Mm) = Bt ∧ max 0 (Mm - T) = Lf ∧ (0 ≤ T ∧ T ≤ 1000000) ∧ (0 ≤ Mm ∧ Mm ≤ 100000) ∧ (0 ≤ Bt ∧ Bt ≤ 1000000) ∧ (0 ≤ Lf ∧ Lf ≤ 100000) ∧ Mm + Bt = T + Lf ∧ (ll ≤ Bt ∧ Bt ≤ lh) ∧ (sl ≤ Lf ∧ Lf ≤ sh) ∧ (0 ≤ Bt * co ∧ Bt * co ≤ 10000000000) ∧ (0 ≤ cs ∧ cs ≤ 7200000000) ∧ cs' = cs + Bt * co ∧ ck' = (ck && (Bt == 0)) := by
  have tb : 0 ≤ takeS s x k ∧ takeS s x k ≤ 1000000 := by have := takeTo_bd ok x k (Nat.le_refl _); unfold takeS; omega
  have pb := pick_in ok l hk
  have sb := ok.sheet _ (sheetAt_mem hk)
  have sb1 : 0 ≤ loAt s k ∧ hiAt s k ≤ 100000 ∧ 0 ≤ (sheetAt s k).cost ∧ (sheetAt s k).cost ≤ 10000 := ⟨sb.1, sb.2.2.1, sb.2.2.2.1, sb.2.2.2.2⟩
  have h1 := lackS_mono s x k pb.1
  have h2 := lackS_mono s x k pb.2
  have h0 := lackS_ge s x k (pickS s l k)
  have hB : max 0 (takeS s x k - pickS s l k) = lackS s x k (pickS s l k) := rfl
  have cb := costTo_bd ok x (f := pickS s l) (fun j hj => by have h3 := pick_in ok l hj; have h4 := ok.sheet _ (sheetAt_mem hj); unfold loAt hiAt at h3; omega) (n := k) (by omega)
  have lb : lackS s x k (pickS s l k) ≤ 1000000 := by rw [← hB]; omega
  have mb := mul_bd h0 lb sb1.2.2.1 sb1.2.2.2
  refine ⟨_, _, _, _, _, _, _, _, _, _, _, _, _, rfl, rfl, rfl, rfl, rfl, rfl, rfl, rfl, rfl, rfl, rfl, rfl, tb, by omega, by omega, by omega, by omega, ⟨by rw [hB]; exact h2, by rw [hB]; exact h1⟩, by omega, by rw [hB]; exact ⟨mb.1, by omega⟩, cb, ?_, ?_⟩
  · rw [hB, Int.mul_comm]; rfl
  · rw [hB]; exact covTo_succ s x (pickS s l) k
theorem wish_facts {s : Store} (ok : Ok s) (x : Nat) {n : Nat} (hn : n < s.wishes.length) : ∃ pz mn ho pr sp pc fe g g' : Int,
    wishAt s n = ⟨pz, mn, ho, pr, sp⟩ ∧ (makeAt s n).pic = pc ∧ (licAt s n).fee = fe ∧ gainTo s x n = g ∧ gainTo s x (n + 1) = g' ∧ (0 ≤ pz ∧ pz < s.makes.length) ∧ (0 ≤ pc ∧ pc < s.lics.length) ∧ (0 ≤ sp ∧ sp ≤ 100000) ∧ (0 ≤ mn * pr ∧ mn * pr ≤ 10000000) ∧ (0 ≤ mn * fe ∧ mn * fe ≤ 10000000) ∧ (-90900000 ≤ g ∧ g ≤ 90900000) ∧ (has x n = true → g' = g + mn * pr - mn * fe - sp) ∧ (has x n = false → g' = g) := by
  have hw := ok.wishOk hn
  have hm := ok.make _ (makeAt_mem ok hn)
  have hl := ok.lic _ (licAt_mem ok hn)
  refine ⟨(wishAt s n).puz, (wishAt s n).many, (wishAt s n).hour, (wishAt s n).price, (wishAt s n).ship, _, _, _, _, rfl, rfl, rfl, rfl, rfl, ⟨hw.1, hw.2.1⟩, ⟨hm.1, hm.2.1⟩, by omega, mul_bd (A := 1000) (B := 10000) (by omega) (by omega) (by omega) (by omega), mul_bd (A := 1000) (B := 10000) (by omega) (by omega) (by omega) (by omega), gainTo_bd ok x (by omega), fun h => ?_, fun h => ?_⟩
  · unfold gainTo; rw [sumTo_split, if_pos h, Int.mul_sub]; omega
  · unfold gainTo; rw [sumTo_split, if_neg (by rw [h]; simp)]; omega
end Go.Proofs.YtfffhbolaimmdaaDoor
