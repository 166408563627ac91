import Derived.Test.YtfffhbolaimmdaaDoorP20
import Derived.Laws.BitsAllLaws
import Derived.Laws.BitsLemmas
namespace Go.Proofs.YtfffhbolaimmdaaDoor
open Go.RowKit
/-! The search of best: the plain function, and what its closure leans on. -/
theorem has_lt {x i : Nat} (h : x < 2 ^ i) : has x i = false := Nat.testBit_lt_two_pow h
theorem has_add_same {x i : Nat} (h : x < 2 ^ i) : has (x + 2 ^ i) i = true := by
  unfold has; rw [Nat.add_comm, Nat.testBit_two_pow_add_eq, Nat.testBit_lt_two_pow h]; rfl
theorem has_add_lt {x i j : Nat} (h : j < i) : has (x + 2 ^ i) j = has x j := by
  unfold has; rw [Nat.add_comm, Nat.testBit_two_pow_add_gt h]
theorem add_lt_pow {x i : Nat} (h : x < 2 ^ i) : x + 2 ^ i < 2 ^ (i + 1) := by rw [Nat.pow_succ]; omega
theorem lt_pow_succ {x i : Nat} (h : x < 2 ^ i) : x < 2 ^ (i + 1) := by rw [Nat.pow_succ]; omega
theorem sumIf_skip {x i : Nat} (h : x < 2 ^ i) (f : Nat → Int) : (sumTo (i + 1) fun j => if has x j = true then f j else 0) = sumTo i fun j => if has x j = true then f j else 0 := by
  rw [sumTo_split, if_neg (by rw [has_lt h]; simp)]; omega
theorem sumIf_take {x i : Nat} (h : x < 2 ^ i) (f : Nat → Int) : (sumTo (i + 1) fun j => if has (x + 2 ^ i) j = true then f j else 0) = (sumTo i fun j => if has x j = true then f j else 0) + f i := by
  rw [sumTo_split, if_pos (has_add_same h)]
  congr 1
  exact sumTo_congr fun j hj => by rw [has_add_lt hj]
theorem takeTo_skip (s : Store) (k : Nat) {x i : Nat} (h : x < 2 ^ i) : takeTo s x k (i + 1) = takeTo s x k i := sumIf_skip h _
theorem takeTo_take (s : Store) (k : Nat) {x i : Nat} (h : x < 2 ^ i) : takeTo s (x + 2 ^ i) k (i + 1) = takeTo s x k i + (wishAt s i).many * takeAt s i k := sumIf_take h _
theorem usedTo_skip (s : Store) (p : Nat) {x i : Nat} (h : x < 2 ^ i) : usedTo s x (i + 1) p = usedTo s x i p := sumIf_skip h _
theorem usedTo_take (s : Store) (p : Nat) {x i : Nat} (h : x < 2 ^ i) : usedTo s (x + 2 ^ i) (i + 1) p = usedTo s x i p + if (makeAt s i).pic.toNat = p then (wishAt s i).many else 0 := sumIf_take h _
theorem gainTo_bring (s : Store) (i : Nat) : (wishAt s i).many * ((wishAt s i).price - (licAt s i).fee) - (wishAt s i).ship = bringS s i := by
  unfold bringS bring1 bring2; rw [Int.mul_sub, Int.neg_mul]; omega
theorem gainTo_skip (s : Store) {x i : Nat} (h : x < 2 ^ i) : gainTo s x (i + 1) = gainTo s x i := sumIf_skip h _
theorem gainTo_take (s : Store) {x i : Nat} (h : x < 2 ^ i) : gainTo s (x + 2 ^ i) (i + 1) = gainTo s x i + bringS s i := by
  rw [← gainTo_bring]; exact sumIf_take h _
def licN (s : Store) (p : Nat) : Licence := s.lics.getD p ⟨0, 0, 0, 0⟩
theorem licN_at (s : Store) (i : Nat) : licN s (makeAt s i).pic.toNat = licAt s i := rfl
def leftF (s : Store) (x i p : Nat) : Int := (licN s p).copies - usedTo s x i p
theorem leftF_skip (s : Store) {x i : Nat} (h : x < 2 ^ i) : leftF s x (i + 1) = leftF s x i := funext fun p => by unfold leftF; rw [usedTo_skip s p h]
theorem leftF_take (s : Store) {x i : Nat} (h : x < 2 ^ i) (p : Nat) : leftF s (x + 2 ^ i) (i + 1) p = leftF s x i p - if (makeAt s i).pic.toNat = p then (wishAt s i).many else 0 := by
  unfold leftF; rw [usedTo_take s p h]; omega
def takeOk (s : Store) (x i : Nat) : Bool := decide ((wishAt s i).many ≤ leftF s x i (makeAt s i).pic.toNat) && inS (wishAt s i).hour (licAt s i).lo (licAt s i).hi
/-- The better of two choices. -/
def overP (a p b q : Int) : Int × Int := if overB a p b q = true then (a, p) else (b, q)
theorem over_pair (a p b q : Int) (w : World) :
    Calls Tryd.prog 80 #[.agg #[.int .i64 a, .int .i64 p], .agg #[.int .i64 b, .int .i64 q]] w (Ret (.agg #[.int .i64 (overP a p b q).1, .int .i64 (overP a p b q).2]) w) := by
  cases h : overB a p b q
  · have e : overP a p b q = (b, q) := by simp [overP, h]
    rw [e]; exact over_false a p b q w h
  · have e : overP a p b q = (a, p) := by simp [overP, h]
    rw [e]; exact over_true a p b q w h
def overS (s : Store) (x : Nat) (o : Int × Int) : Int × Int := overP x (gainS s x (loAt s)) o.1 o.2
def dfsS (s : Store) : Nat → Nat → Nat → Int × Int → Int × Int
  | 0, _, x, o => overS s x o
  | k + 1, i, x, o => if takeOk s x i = true then dfsS s k (i + 1) (x + 2 ^ i) (dfsS s k (i + 1) x o) else dfsS s k (i + 1) x o
structure OnW (s : Store) (B0 bS bL bO bF : Nat) (f : Nat → Int) (o : Int × Int) (W : World) : Prop where
  store : StoreAt W B0 s
  box : SBox W bS s
  fn : W.cell? ⟨bF, 0, none⟩ = some (.func (.func 79) #[] #[.pointer (some ⟨bS, 0, none⟩), .pointer (some ⟨bO, 0, none⟩), .pointer (some ⟨bF, 0, none⟩), .pointer (some ⟨bL, 0, none⟩)])
  o0 : W.cell? ⟨bO, 0, none⟩ = some (.int .i64 o.1)
  o1 : W.cell? ⟨bO, 1, none⟩ = some (.int .i64 o.2)
  of : ∀ j, W.frozen? ⟨bO, j, none⟩ = false
  left : IBlk W bL s.lics.length f
  b1 : B0 ≤ bS
  b2 : bS < bL
  b3 : bL < bO
  b4 : bO < bF
  lt : bF < W.heap.size
structure OnK (B0 bL bO : Nat) (W W' : World) : Prop where
  below : Below B0 W W'
  other : ∀ b, b < W.heap.size → b ≠ bL → b ≠ bO → W'.heap[b]? = W.heap[b]?
theorem OnK.of_below {B0 bL bO : Nat} {W W' : World} (h : Below W.heap.size W W') (hb : B0 ≤ W.heap.size) : OnK B0 bL bO W W' := ⟨h.mono hb, fun b hb _ _ => h.block b hb⟩
theorem OnK.trans {B0 bL bO : Nat} {A B C : World} (h : OnK B0 bL bO A B) (k : OnK B0 bL bO B C) : OnK B0 bL bO A C :=
  ⟨h.below.trans k.below, fun b hb h1 h2 => (k.other b (Nat.lt_of_lt_of_le hb h.below.size) h1 h2).trans (h.other b hb h1 h2)⟩
theorem OnK.cell {B0 bL bO : Nat} {W W' : World} (h : OnK B0 bL bO W W') {b : Nat} (hb : b < W.heap.size) (h1 : b ≠ bL) (h2 : b ≠ bO) (j : Nat) : W'.cell? ⟨b, j, none⟩ = W.cell? ⟨b, j, none⟩ := World.cell?_of_block (a := ⟨b, j, none⟩) (h.other b hb h1 h2)
theorem OnK.frozen {B0 bL bO : Nat} {W W' : World} (h : OnK B0 bL bO W W') {b : Nat} (hb : b < W.heap.size) (h1 : b ≠ bL) (h2 : b ≠ bO) (j : Nat) : W'.frozen? ⟨b, j, none⟩ = W.frozen? ⟨b, j, none⟩ := World.frozen?_of_block (a := ⟨b, j, none⟩) (h.other b hb h1 h2)
theorem OnK.drew {B0 bL bO : Nat} {W W' : World} (h : OnK B0 bL bO W W') : OnK B0 bL bO W W'.drew := ⟨h.below.drew, h.other⟩
theorem OnK.setL {B0 bL bO : Nat} {W W' : World} (h : OnK B0 bL bO W W') (hb : B0 ≤ bL) (j : Nat) (v : Value) : OnK B0 bL bO W (W'.setCell ⟨bL, j, none⟩ v) :=
  ⟨h.below.setCell (p := ⟨bL, j, none⟩) hb v, fun b hb' h1 h2 => (Below.heap_setCell W' ⟨bL, j, none⟩ v b (fun e => h1 e)).trans (h.other b hb' h1 h2)⟩
theorem OnK.setO {B0 bL bO : Nat} {W W' : World} (h : OnK B0 bL bO W W') (hb : B0 ≤ bO) (j : Nat) (v : Value) : OnK B0 bL bO W (W'.setCell ⟨bO, j, none⟩ v) :=
  ⟨h.below.setCell (p := ⟨bO, j, none⟩) hb v, fun b hb' h1 h2 => (Below.heap_setCell W' ⟨bO, j, none⟩ v b (fun e => h2 e)).trans (h.other b hb' h1 h2)⟩
theorem IBlk.onk {B0 bL bO : Nat} {W W' : World} {g n : Nat} {f : Nat → Int} (h : IBlk W g n f) (k : OnK B0 bL bO W W') (h1 : g ≠ bL) (h2 : g ≠ bO) : IBlk W' g n f :=
  ⟨Nat.lt_of_lt_of_le h.lt k.below.size, fun j hj => (k.cell h.lt h1 h2 j).trans (h.cell j hj), fun j => (k.frozen h.lt h1 h2 j).trans (h.free j)⟩
theorem WBox.onk {B0 bL bO : Nat} {W W' : World} {b : Nat} {x : Wish} (h : WBox W b x) (k : OnK B0 bL bO W W') (h1 : b ≠ bL) (h2 : b ≠ bO) : WBox W' b x :=
  ⟨Nat.lt_of_lt_of_le h.lt k.below.size, (k.cell h.lt h1 h2 0).trans h.c0, (k.cell h.lt h1 h2 1).trans h.c1, (k.cell h.lt h1 h2 2).trans h.c2, (k.cell h.lt h1 h2 3).trans h.c3, (k.cell h.lt h1 h2 4).trans h.c4⟩
theorem OnW.next {s : Store} {B0 bS bL bO bF : Nat} {f : Nat → Int} {o : Int × Int} {W W' : World} (h : OnW s B0 bS bL bO bF f o W) (hb : Below W.heap.size W W') : OnW s B0 bS bL bO bF f o W' := by
  have hl := h.lt
  have h1 := h.b1
  have h2 := h.b2
  have h3 := h.b3
  have h4 := h.b4
  exact ⟨h.store.below (hb.mono (by omega)), h.box.next hb, (hb.cell (p := ⟨bF, 0, none⟩) hl).trans h.fn, (hb.cell (p := ⟨bO, 0, none⟩) (by show bO < _; omega)).trans h.o0, (hb.cell (p := ⟨bO, 1, none⟩) (by show bO < _; omega)).trans h.o1,
    fun j => (hb.frozen (p := ⟨bO, j, none⟩) (by show bO < _; omega)).trans (h.of j), h.left.next hb, h1, h2, h3, h4, Nat.lt_of_lt_of_le hl hb.size⟩
theorem OnW.at_ {s : Store} {B0 bS bL bO bF : Nat} {f : Nat → Int} {o : Int × Int} {W : World} (h : OnW s B0 bS bL bO bF f o W) : StoreAt W W.heap.size s := h.store.more (by have := h.lt; have := h.b1; have := h.b2; have := h.b3; have := h.b4; omega)
theorem OnW.setL {s : Store} {B0 bS bL bO bF : Nat} {f f' : Nat → Int} {o : Int × Int} {W : World} (h : OnW s B0 bS bL bO bF f o W) {j : Nat} {x : Int} (hj : j < s.lics.length) (hx : f' j = x) (ho : ∀ i, i ≠ j → f' i = f i) : OnW s B0 bS bL bO bF f' o (W.setCell ⟨bL, j, none⟩ (.int .i64 x)) := by
  have h1 := h.b1
  have h2 := h.b2
  have h3 := h.b3
  have h4 := h.b4
  have k : ∀ b i, b ≠ bL → (W.setCell ⟨bL, j, none⟩ (.int .i64 x)).cell? ⟨b, i, none⟩ = W.cell? ⟨b, i, none⟩ := fun b i hb => World.cell?_setCell_other _ _ _ _ (by intro e; injection e with e; exact hb e.symm)
  exact ⟨h.store.keep (fun b o hb => k b o (by omega)), h.box.nth (by omega) _ _, (k bF 0 (by omega)).trans h.fn, (k bO 0 (by omega)).trans h.o0, (k bO 1 (by omega)).trans h.o1, fun i => by rw [World.frozen?_setCell]; exact h.of i, h.left.set_ hj hx ho, h1, h2, h3, h4, by simpa [World.setCell] using h.lt⟩
theorem OnW.setO {s : Store} {B0 bS bL bO bF : Nat} {f : Nat → Int} {o : Int × Int} {W : World} (h : OnW s B0 bS bL bO bF f o W) (a b : Int) : OnW s B0 bS bL bO bF f (a, b) ((W.setCell ⟨bO, 0, none⟩ (.int .i64 a)).setCell ⟨bO, 1, none⟩ (.int .i64 b)) := by
  have h1 := h.b1
  have h2 := h.b2
  have h3 := h.b3
  have h4 := h.b4
  have k : ∀ b' i, b' ≠ bO → ((W.setCell ⟨bO, 0, none⟩ (.int .i64 a)).setCell ⟨bO, 1, none⟩ (.int .i64 b)).cell? ⟨b', i, none⟩ = W.cell? ⟨b', i, none⟩ := fun b' i hb => by
    rw [World.cell?_setCell_other _ _ _ _ (by intro e; injection e with e; exact hb e.symm), World.cell?_setCell_other _ _ _ _ (by intro e; injection e with e; exact hb e.symm)]
  refine ⟨h.store.keep (fun b o hb => k b o (by omega)), (h.box.nth (by omega) _ _).nth (by omega) _ _, (k bF 0 (by omega)).trans h.fn, ?_, ?_, fun i => by rw [World.frozen?_setCell, World.frozen?_setCell]; exact h.of i, ⟨by simpa [World.setCell] using h.left.lt, fun i hi => (k bL i (by omega)).trans (h.left.cell i hi), fun i => by rw [World.frozen?_setCell, World.frozen?_setCell]; exact h.left.free i⟩, h1, h2, h3, h4, by simpa [World.setCell] using h.lt⟩
  · rw [World.cell?_setCell_other _ _ _ _ (by simp)]; exact World.cell?_setCell_same' _ _ _ (by rw [h.o0]; rfl)
  · exact World.cell?_setCell_same' _ _ _ (by rw [World.cell?_setCell_other _ _ _ _ (by simp), h.o1]; rfl)
theorem OnW.drew {s : Store} {B0 bS bL bO bF : Nat} {f : Nat → Int} {o : Int × Int} {W : World} (h : OnW s B0 bS bL bO bF f o W) : OnW s B0 bS bL bO bF f o W.drew := h.next (Below.refl _ _).drew
theorem IBlk.congr {W : World} {g n : Nat} {f f' : Nat → Int} (h : IBlk W g n f) (e : ∀ k, f' k = f k) : IBlk W g n f' := ⟨h.lt, fun j hj => by rw [e]; exact h.cell j hj, h.free⟩
theorem i64_or_add {x i : Nat} (h : x < 2 ^ i) (hi : i < 62) : bits .or .i64 (x : Int) ((2 ^ i : Nat) : Int) = ((x + 2 ^ i : Nat) : Int) := by
  have hp : 2 ^ i ≤ 2 ^ 62 := Nat.pow_le_pow_right (by omega) (by omega)
  have h62 : (2:Nat) ^ 62 = 4611686018427387904 := by decide
  have e : x ||| 2 ^ i = x + 2 ^ i := by
    have := Nat.two_pow_add_eq_or_of_lt h 1
    rw [Nat.mul_one] at this
    rw [Nat.or_comm, ← this, Nat.add_comm]
  have f : ∀ a : Nat, a < 9223372036854775808 → (BitVec.ofInt 64 (a : Int)).toNat = a := fun a ha => by
    rw [BitVec.ofInt_natCast, BitVec.toNat_ofNat]; exact Nat.mod_eq_of_lt (by omega)
  show IntKind.i64.wrap ((BitVec.ofInt 64 (x : Int) ||| BitVec.ofInt 64 ((2 ^ i : Nat) : Int)).toNat : Int) = _
  rw [BitVec.toNat_or, f x (by omega), f _ (by omega), e, IntKind.wrap_i64]
  omega
end Go.Proofs.YtfffhbolaimmdaaDoor
