import Derived.Test.YtfffhbolaimmdaaDoorS0
namespace Go.Proofs.YtfffhbolaimmdaaDoor
open Go.RowKit
def inS (a b c : Int) : Bool := decide (b ≤ a ∧ a ≤ c)
def spanS (l h a b : Int) : Bool := decide (a ≤ l ∧ l ≤ h ∧ h ≤ b)
def Sheet.ok (s : Sheet) : Bool := spanS s.lo s.hi 0 100000 && inS s.cost 0 10000
def sheetsS (l : List Sheet) : Bool := l.all Sheet.ok && inS l.length 1 4
def Licence.ok (x : Licence) : Bool := inS x.copies 0 1000 && (inS x.hi 0 1048576 && (inS x.lo 0 x.hi && inS x.fee 0 10000))
def licsS (l : List Licence) : Bool := l.all Licence.ok && inS l.length 1 5
def tok (n : Int) : Bool := inS n 0 20
def Make.ok (nl ns : Int) (m : Make) : Bool := inS m.pic 0 (nl - 1) && (decide ((m.takes.length : Int) = ns) && m.takes.all tok)
def makesS (s : Store) : Bool := s.makes.all (Make.ok s.lics.length s.sheets.length) && inS s.makes.length 1 6
def Wish.ok (nm : Int) (x : Wish) : Bool := inS x.puz 0 (nm - 1) && (inS x.many 1 1000 && (inS x.hour 0 1048576 && (inS x.price 0 10000 && inS x.ship 0 100000)))
def storeS (s : Store) : Bool := s.wishes.all (Wish.ok s.makes.length) && (sheetsS s.sheets && (licsS s.lics && (makesS s && decide ((s.wishes.length : Int) ≤ 9))))
def wishAt (s : Store) (i : Nat) : Wish := s.wishes.getD i ⟨0, 0, 0, 0, 0⟩
def makeAt (s : Store) (i : Nat) : Make := s.makes.getD (wishAt s i).puz.toNat ⟨0, [], none, 0⟩
def licAt (s : Store) (i : Nat) : Licence := s.lics.getD (makeAt s i).pic.toNat ⟨0, 0, 0, 0⟩
def takeAt (s : Store) (i k : Nat) : Int := (makeAt s i).takes.getD k 0
def sumTo (n : Nat) (f : Nat → Int) : Int := match n with
  | 0 => 0
  | n + 1 => sumTo n f + f n
def has (set i : Nat) : Bool := set.testBit i
def takeTo (s : Store) (set k n : Nat) : Int := sumTo n fun i => if has set i = true then (wishAt s i).many * takeAt s i k else 0
def takeS (s : Store) (set k : Nat) : Int := takeTo s set k s.wishes.length
/-- What a valid store has. -/
structure Ok (s : Store) : Prop where
  ns : 1 ≤ s.sheets.length ∧ s.sheets.length ≤ 4
  nl : 1 ≤ s.lics.length ∧ s.lics.length ≤ 5
  nm : 1 ≤ s.makes.length ∧ s.makes.length ≤ 6
  nw : s.wishes.length ≤ 9
  sheet : ∀ x ∈ s.sheets, 0 ≤ x.lo ∧ x.lo ≤ x.hi ∧ x.hi ≤ 100000 ∧ 0 ≤ x.cost ∧ x.cost ≤ 10000
  lic : ∀ x ∈ s.lics, 0 ≤ x.copies ∧ x.copies ≤ 1000 ∧ 0 ≤ x.lo ∧ x.lo ≤ x.hi ∧ x.hi ≤ 1048576 ∧ 0 ≤ x.fee ∧ x.fee ≤ 10000
  make : ∀ x ∈ s.makes, 0 ≤ x.pic ∧ x.pic < s.lics.length ∧ x.takes.length = s.sheets.length ∧ ∀ n ∈ x.takes, 0 ≤ n ∧ n ≤ 20
  wish : ∀ x ∈ s.wishes, 0 ≤ x.puz ∧ x.puz < s.makes.length ∧ 1 ≤ x.many ∧ x.many ≤ 1000 ∧ 0 ≤ x.hour ∧ x.hour ≤ 1048576 ∧ 0 ≤ x.price ∧ x.price ≤ 10000 ∧ 0 ≤ x.ship ∧ x.ship ≤ 100000
theorem ok_iff (s : Store) : storeS s = true ↔ Ok s := by
  have e : storeS s = true ↔ ((∀ x ∈ s.wishes, Wish.ok s.makes.length x = true) ∧ ((∀ x ∈ s.sheets, Sheet.ok x = true) ∧ 1 ≤ s.sheets.length ∧ s.sheets.length ≤ 4) ∧ ((∀ x ∈ s.lics, Licence.ok x = true) ∧ 1 ≤ s.lics.length ∧ s.lics.length ≤ 5) ∧ ((∀ x ∈ s.makes, Make.ok s.lics.length s.sheets.length x = true) ∧ 1 ≤ s.makes.length ∧ s.makes.length ≤ 6) ∧ s.wishes.length ≤ 9) := by
    simp only [storeS, sheetsS, licsS, makesS, inS, List.all_eq_true, Bool.and_eq_true, decide_eq_true_eq]
    refine and_congr Iff.rfl (and_congr (and_congr Iff.rfl (by omega)) (and_congr (and_congr Iff.rfl (by omega)) (and_congr (and_congr Iff.rfl (by omega)) (by omega))))
  rw [e]
  constructor
  · rintro ⟨hw, ⟨hs, s1, s2⟩, ⟨hl, l1, l2⟩, ⟨hm, m1, m2⟩, w1⟩
    refine ⟨⟨s1, s2⟩, ⟨l1, l2⟩, ⟨m1, m2⟩, w1, fun x hx => ?_, fun x hx => ?_, fun x hx => ?_, fun x hx => ?_⟩
    · have := hs x hx
      simp [Sheet.ok, spanS, inS] at this
      omega
    · have := hl x hx
      simp [Licence.ok, inS] at this
      omega
    · have := hm x hx
      simp [Make.ok, inS, tok] at this
      exact ⟨this.1.1, by omega, by omega, this.2.2⟩
    · have := hw x hx
      simp [Wish.ok, inS] at this
      omega
  · rintro ⟨⟨s1, s2⟩, ⟨l1, l2⟩, ⟨m1, m2⟩, w1, hs, hl, hm, hw⟩
    refine ⟨fun x hx => ?_, ⟨fun x hx => ?_, s1, s2⟩, ⟨fun x hx => ?_, l1, l2⟩, ⟨fun x hx => ?_, m1, m2⟩, w1⟩
    · have := hw x hx
      simp [Wish.ok, inS]
      omega
    · have := hs x hx
      simp [Sheet.ok, spanS, inS]
      omega
    · have := hl x hx
      simp [Licence.ok, inS]
      omega
    · have := hm x hx
      simp [Make.ok, inS, tok]
      exact ⟨⟨this.1, by omega⟩, by omega, this.2.2.2⟩
theorem wishAt_mem {s : Store} {i : Nat} (h : i < s.wishes.length) : wishAt s i ∈ s.wishes := by
  unfold wishAt; rw [List.getD_eq_getElem?_getD, List.getElem?_eq_getElem h]; exact List.getElem_mem h
theorem Ok.wishOk {s : Store} (h : Ok s) {i : Nat} (hi : i < s.wishes.length) : 0 ≤ (wishAt s i).puz ∧ (wishAt s i).puz < s.makes.length ∧ 1 ≤ (wishAt s i).many ∧ (wishAt s i).many ≤ 1000 ∧ 0 ≤ (wishAt s i).hour ∧ (wishAt s i).hour ≤ 1048576 ∧ 0 ≤ (wishAt s i).price ∧ (wishAt s i).price ≤ 10000 ∧ 0 ≤ (wishAt s i).ship ∧ (wishAt s i).ship ≤ 100000 := h.wish _ (wishAt_mem hi)
theorem Ok.puz {s : Store} (h : Ok s) {i : Nat} (hi : i < s.wishes.length) : (wishAt s i).puz.toNat < s.makes.length := by
  have := h.wishOk hi; omega
theorem makeAt_mem {s : Store} (h : Ok s) {i : Nat} (hi : i < s.wishes.length) : makeAt s i ∈ s.makes := by
  have hp := h.puz hi
  unfold makeAt; rw [List.getD_eq_getElem?_getD, List.getElem?_eq_getElem hp]; exact List.getElem_mem hp
theorem licAt_mem {s : Store} (h : Ok s) {i : Nat} (hi : i < s.wishes.length) : licAt s i ∈ s.lics := by
  have hp := h.make _ (makeAt_mem h hi)
  have hq : (makeAt s i).pic.toNat < s.lics.length := by omega
  unfold licAt; rw [List.getD_eq_getElem?_getD, List.getElem?_eq_getElem hq]; exact List.getElem_mem hq
/-- The cells of the i-th wish, its make and licence. -/
theorem At.at {α : Type} {w : World} {B size : Nat} {cells : α → List Value} {A : Option Addr} {l : List α} (h : At w B size cells A l) {k : Nat} (hk : k < l.length) (d : α) :
    ∃ b off, A = some ⟨b, off, none⟩ ∧ b < B ∧ ∀ j u, (cells (l.getD k d))[j]? = some u → w.cell? ⟨b, off + k * size + j, none⟩ = some u := by
  have := h k (l.getD k d) (by rw [List.getD_eq_getElem?_getD, List.getElem?_eq_getElem hk]; rfl)
  exact this
theorem sumTo_congr {n : Nat} {f g : Nat → Int} (h : ∀ i, i < n → f i = g i) : sumTo n f = sumTo n g := by
  induction n with
  | zero => rfl
  | succ n ih => unfold sumTo; rw [ih (fun i hi => h i (by omega)), h n (by omega)]
theorem sumTo_bd {n : Nat} {f : Nat → Int} {lo hi : Int} (h : ∀ i, i < n → lo ≤ f i ∧ f i ≤ hi) : n * lo ≤ sumTo n f ∧ sumTo n f ≤ n * hi := by
  induction n with
  | zero => simp [sumTo]
  | succ n ih =>
    have h1 := ih (fun i hi => h i (by omega))
    have h2 := h n (by omega)
    have e1 : ((n + 1 : Nat) : Int) * lo = n * lo + lo := by rw [Int.natCast_add, Int.add_mul]; omega
    have e2 : ((n + 1 : Nat) : Int) * hi = n * hi + hi := by rw [Int.natCast_add, Int.add_mul]; omega
    unfold sumTo; omega
theorem mul_bd {a b A B : Int} (h1 : 0 ≤ a) (h2 : a ≤ A) (h3 : 0 ≤ b) (h4 : b ≤ B) : 0 ≤ a * b ∧ a * b ≤ A * B :=
  ⟨Int.mul_nonneg h1 h3, Int.mul_le_mul h2 h4 h3 (by omega)⟩
theorem getD_bd {l : List Int} {lo hi : Int} (h : ∀ n ∈ l, lo ≤ n ∧ n ≤ hi) (h0 : lo ≤ 0 ∧ 0 ≤ hi) (k : Nat) : lo ≤ l.getD k 0 ∧ l.getD k 0 ≤ hi := by
  rw [List.getD_eq_getElem?_getD]
  rcases Nat.lt_or_ge k l.length with hk | hk
  · rw [List.getElem?_eq_getElem hk]; exact h _ (List.getElem_mem hk)
  · rw [List.getElem?_eq_none hk]; exact h0
theorem takeAt_bd {s : Store} (h : Ok s) {i : Nat} (hi : i < s.wishes.length) (k : Nat) : 0 ≤ takeAt s i k ∧ takeAt s i k ≤ 20 := getD_bd ((h.make _ (makeAt_mem h hi)).2.2.2) (by omega) k
theorem takeTerm_bd {s : Store} (h : Ok s) (set k : Nat) {i : Nat} (hi : i < s.wishes.length) :
    0 ≤ (if has set i = true then (wishAt s i).many * takeAt s i k else 0) ∧ (if has set i = true then (wishAt s i).many * takeAt s i k else 0) ≤ 20000 := by
  have h1 := h.wishOk hi
  have h2 := takeAt_bd h hi k
  have h3 := mul_bd (a := (wishAt s i).many) (b := takeAt s i k) (A := 1000) (B := 20) (by omega) (by omega) h2.1 h2.2
  split <;> omega
theorem takeMul_bd {s : Store} (h : Ok s) (k : Nat) {i : Nat} (hi : i < s.wishes.length) :
    0 ≤ (wishAt s i).many * takeAt s i k ∧ (wishAt s i).many * takeAt s i k ≤ 20000 := by
  have h1 := h.wishOk hi
  have h2 := takeAt_bd h hi k
  have h3 := mul_bd (a := (wishAt s i).many) (b := takeAt s i k) (A := 1000) (B := 20) (by omega) (by omega) h2.1 h2.2
  omega
theorem takeTo_bd {s : Store} (h : Ok s) (set k : Nat) {n : Nat} (hn : n ≤ s.wishes.length) : 0 ≤ takeTo s set k n ∧ takeTo s set k n ≤ 180000 := by
  have h1 := sumTo_bd (n := n) (f := fun i => if has set i = true then (wishAt s i).many * takeAt s i k else 0) (lo := 0) (hi := 20000) (fun i hi => takeTerm_bd h set k (by omega))
  have h9 := h.nw
  unfold takeTo; omega
theorem StoreAt.wishC {w : World} {B : Nat} {s : Store} (h : StoreAt w B s) {i : Nat} (hi : i < s.wishes.length) :
    ∃ b off, s.A4 = some ⟨b, off, none⟩ ∧ b < B ∧ w.cell? ⟨b, off + i * 5, none⟩ = some (.int .i64 (wishAt s i).puz) ∧ w.cell? ⟨b, off + i * 5 + 1, none⟩ = some (.int .i64 (wishAt s i).many) ∧
      w.cell? ⟨b, off + i * 5 + 2, none⟩ = some (.int .i64 (wishAt s i).hour) ∧ w.cell? ⟨b, off + i * 5 + 3, none⟩ = some (.int .i64 (wishAt s i).price) ∧ w.cell? ⟨b, off + i * 5 + 4, none⟩ = some (.int .i64 (wishAt s i).ship) := by
  obtain ⟨b, off, e, hb, hc⟩ := h.wishes.at hi ⟨0, 0, 0, 0, 0⟩
  exact ⟨b, off, e, hb, hc 0 _ rfl, hc 1 _ rfl, hc 2 _ rfl, hc 3 _ rfl, hc 4 _ rfl⟩
theorem StoreAt.makeC {w : World} {B : Nat} {s : Store} (h : StoreAt w B s) (ok : Ok s) {i : Nat} (hi : i < s.wishes.length) :
    ∃ b off, s.A3 = some ⟨b, off, none⟩ ∧ b < B ∧ w.cell? ⟨b, off + (wishAt s i).puz.toNat * 2, none⟩ = some (.int .i64 (makeAt s i).pic) ∧ w.cell? ⟨b, off + (wishAt s i).puz.toNat * 2 + 1, none⟩ = some (.slice (makeAt s i).A s.sheets.length (makeAt s i).c) := by
  obtain ⟨b, off, e, hb, hc⟩ := h.makes.at (ok.puz hi) ⟨0, [], none, 0⟩
  refine ⟨b, off, e, hb, hc 0 _ rfl, ?_⟩
  rw [← (ok.make _ (makeAt_mem ok hi)).2.2.1]
  exact hc 1 _ rfl
theorem StoreAt.takeC {w : World} {B : Nat} {s : Store} (h : StoreAt w B s) (ok : Ok s) {i : Nat} (hi : i < s.wishes.length) :
    At w B 1 icell (makeAt s i).A (makeAt s i).takes := (h.takes _ (makeAt_mem ok hi)).1
theorem At.int {w : World} {B : Nat} {A : Option Addr} {l : List Int} (h : At w B 1 icell A l) {k : Nat} (hk : k < l.length) :
    ∃ b off, A = some ⟨b, off, none⟩ ∧ b < B ∧ w.cell? ⟨b, off + k, none⟩ = some (.int .i64 (l.getD k 0)) := by
  obtain ⟨b, off, e, hb, hc⟩ := h.at hk 0
  have := hc 0 _ rfl
  rw [Nat.mul_one] at this
  exact ⟨b, off, e, hb, this⟩
theorem StoreAt.licC {w : World} {B : Nat} {s : Store} (h : StoreAt w B s) (ok : Ok s) {i : Nat} (hi : i < s.wishes.length) :
    ∃ b off, s.A2 = some ⟨b, off, none⟩ ∧ b < B ∧ w.cell? ⟨b, off + (makeAt s i).pic.toNat * 4, none⟩ = some (.int .i64 (licAt s i).copies) ∧ w.cell? ⟨b, off + (makeAt s i).pic.toNat * 4 + 1, none⟩ = some (.int .i64 (licAt s i).lo) ∧
      w.cell? ⟨b, off + (makeAt s i).pic.toNat * 4 + 2, none⟩ = some (.int .i64 (licAt s i).hi) ∧ w.cell? ⟨b, off + (makeAt s i).pic.toNat * 4 + 3, none⟩ = some (.int .i64 (licAt s i).fee) := by
  have hp := ok.make _ (makeAt_mem ok hi)
  obtain ⟨b, off, e, hb, hc⟩ := h.lics.at (k := (makeAt s i).pic.toNat) (by omega) ⟨0, 0, 0, 0⟩
  exact ⟨b, off, e, hb, hc 0 _ rfl, hc 1 _ rfl, hc 2 _ rfl, hc 3 _ rfl⟩
def sheetAt (s : Store) (k : Nat) : Sheet := s.sheets.getD k ⟨0, 0, 0⟩
theorem sheetAt_mem {s : Store} {i : Nat} (h : i < s.sheets.length) : sheetAt s i ∈ s.sheets := by
  unfold sheetAt; rw [List.getD_eq_getElem?_getD, List.getElem?_eq_getElem h]; exact List.getElem_mem h
theorem StoreAt.sheetC {w : World} {B : Nat} {s : Store} (h : StoreAt w B s) {k : Nat} (hk : k < s.sheets.length) :
    ∃ b off, s.A1 = some ⟨b, off, none⟩ ∧ b < B ∧ w.cell? ⟨b, off + k * 3, none⟩ = some (.int .i64 (sheetAt s k).lo) ∧ w.cell? ⟨b, off + k * 3 + 1, none⟩ = some (.int .i64 (sheetAt s k).hi) ∧ w.cell? ⟨b, off + k * 3 + 2, none⟩ = some (.int .i64 (sheetAt s k).cost) := by
  obtain ⟨b, off, e, hb, hc⟩ := h.sheets.at hk ⟨0, 0, 0⟩
  exact ⟨b, off, e, hb, hc 0 _ rfl, hc 1 _ rfl, hc 2 _ rfl⟩
theorem sumTo_split (n : Nat) (f : Nat → Int) : sumTo (n + 1) f = sumTo n f + f n := rfl
/-- How many copies of picture p the orders before n of a set ask for. -/
def usedTo (s : Store) (set n p : Nat) : Int := sumTo n fun i => if has set i = true then (if (makeAt s i).pic.toNat = p then (wishAt s i).many else 0) else 0
theorem usedTo_bd {s : Store} (h : Ok s) (set p : Nat) {n : Nat} (hn : n ≤ s.wishes.length) : 0 ≤ usedTo s set n p ∧ usedTo s set n p ≤ 9000 := by
  have h1 := sumTo_bd (n := n) (f := fun i => if has set i = true then (if (makeAt s i).pic.toNat = p then (wishAt s i).many else 0) else 0) (lo := 0) (hi := 1000) (fun i hi => by
    have := h.wishOk (i := i) (by omega)
    split
    · split <;> omega
    · omega)
  have h9 := h.nw
  unfold usedTo; omega
/-- May the order i be accepted with those of the set before it? -/
def okAt (s : Store) (set i : Nat) : Bool := inS (wishAt s i).hour (licAt s i).lo (licAt s i).hi && decide (usedTo s set (i + 1) (makeAt s i).pic.toNat ≤ (licAt s i).copies)
def refusedTo (s : Store) (set : Nat) : Nat → Int
  | 0 => -1
  | n + 1 => if 0 ≤ refusedTo s set n then refusedTo s set n else if has set n = true ∧ okAt s set n = false then n else -1
def refusedS (s : Store) (set : Nat) : Int := refusedTo s set s.wishes.length
theorem refusedTo_step {s : Store} {set n : Nat} (h : refusedTo s set n = -1) (hb : has set n = true → okAt s set n = true) : refusedTo s set (n + 1) = -1 := by
  unfold refusedTo
  rw [h, if_neg (by omega), if_neg]
  rintro ⟨h1, h2⟩
  rw [hb h1] at h2
  cases h2
theorem refusedTo_at {s : Store} {set k : Nat} (h : refusedTo s set k = -1) (h1 : has set k = true) (h2 : okAt s set k = false) : ∀ n, k < n → refusedTo s set n = k := by
  intro n hn
  induction n with
  | zero => omega
  | succ n ih =>
    unfold refusedTo
    by_cases e : k = n
    · subst e
      rw [h, if_neg (by omega), if_pos ⟨h1, h2⟩]
    · rw [ih (by omega), if_pos (by omega)]
theorem refusedTo_range (s : Store) (set n : Nat) : refusedTo s set n = -1 ∨ 0 ≤ refusedTo s set n ∧ refusedTo s set n < n := by
  induction n with
  | zero => exact .inl rfl
  | succ n ih =>
    unfold refusedTo
    split
    · omega
    · split
      · right; omega
      · left; rfl
/-- A store that lies in a block of its own. -/
structure SBox (w : World) (b : Nat) (s : Store) : Prop where
  lt : b < w.heap.size
  c0 : w.cell? ⟨b, 0, none⟩ = some (.slice s.A1 s.sheets.length s.c1)
  c1 : w.cell? ⟨b, 1, none⟩ = some (.slice s.A2 s.lics.length s.c2)
  c2 : w.cell? ⟨b, 2, none⟩ = some (.slice s.A3 s.makes.length s.c3)
  c3 : w.cell? ⟨b, 3, none⟩ = some (.slice s.A4 s.wishes.length s.c4)
theorem SBox.new (w : World) (s : Store) (t : TypeId) : SBox (w.alloc (.cells #[.slice s.A1 s.sheets.length s.c1, .slice s.A2 s.lics.length s.c2, .slice s.A3 s.makes.length s.c3, .slice s.A4 s.wishes.length s.c4] t)) w.heap.size s :=
  ⟨by simp, by simp [go_sem], by simp [go_sem], by simp [go_sem], by simp [go_sem]⟩
theorem SBox.below {w w' : World} {b B : Nat} {s : Store} (h : SBox w b s) (hb : Below B w w') (hB : b < B) : SBox w' b s :=
  ⟨Nat.lt_of_lt_of_le h.lt hb.size, (hb.cell (p := ⟨b, 0, none⟩) hB).trans h.c0, (hb.cell (p := ⟨b, 1, none⟩) hB).trans h.c1, (hb.cell (p := ⟨b, 2, none⟩) hB).trans h.c2, (hb.cell (p := ⟨b, 3, none⟩) hB).trans h.c3⟩
theorem SBox.next {w w' : World} {b : Nat} {s : Store} (h : SBox w b s) (hb : Below w.heap.size w w') : SBox w' b s := h.below hb h.lt
theorem SBox.drewN {w : World} {b : Nat} {s : Store} (h : SBox w b s) (n : Nat) : SBox (w.drewN n) b s := ⟨h.lt, h.c0, h.c1, h.c2, h.c3⟩
theorem SBox.wishC {w : World} {bl B : Nat} {s : Store} (hx : SBox w bl s) (h : StoreAt w B s) {i : Nat} (hi : i < s.wishes.length) :
    ∃ b off, w.cell? ⟨bl, 3, none⟩ = some (.slice (some ⟨b, off, none⟩) s.wishes.length s.c4) ∧ b < B ∧ w.cell? ⟨b, off + i * 5, none⟩ = some (.int .i64 (wishAt s i).puz) ∧ w.cell? ⟨b, off + i * 5 + 1, none⟩ = some (.int .i64 (wishAt s i).many) ∧
      w.cell? ⟨b, off + i * 5 + 2, none⟩ = some (.int .i64 (wishAt s i).hour) ∧ w.cell? ⟨b, off + i * 5 + 3, none⟩ = some (.int .i64 (wishAt s i).price) ∧ w.cell? ⟨b, off + i * 5 + 4, none⟩ = some (.int .i64 (wishAt s i).ship) := by
  obtain ⟨b, off, e, r⟩ := h.wishC hi
  have := hx.c3
  rw [e] at this
  exact ⟨b, off, this, r⟩
theorem SBox.makeC {w : World} {bl B : Nat} {s : Store} (hx : SBox w bl s) (h : StoreAt w B s) (ok : Ok s) {i : Nat} (hi : i < s.wishes.length) :
    ∃ b off, w.cell? ⟨bl, 2, none⟩ = some (.slice (some ⟨b, off, none⟩) s.makes.length s.c3) ∧ b < B ∧ w.cell? ⟨b, off + (wishAt s i).puz.toNat * 2, none⟩ = some (.int .i64 (makeAt s i).pic) ∧ w.cell? ⟨b, off + (wishAt s i).puz.toNat * 2 + 1, none⟩ = some (.slice (makeAt s i).A s.sheets.length (makeAt s i).c) := by
  obtain ⟨b, off, e, r⟩ := h.makeC ok hi
  have := hx.c2
  rw [e] at this
  exact ⟨b, off, this, r⟩
theorem SBox.takeC {w : World} {bl B : Nat} {s : Store} (hx : SBox w bl s) (h : StoreAt w B s) (ok : Ok s) {i : Nat} (hi : i < s.wishes.length) {k : Nat} (hk : k < s.sheets.length) :
    ∃ b off b2 off2, w.cell? ⟨bl, 2, none⟩ = some (.slice (some ⟨b, off, none⟩) s.makes.length s.c3) ∧ b < B ∧ w.cell? ⟨b, off + (wishAt s i).puz.toNat * 2, none⟩ = some (.int .i64 (makeAt s i).pic) ∧
      w.cell? ⟨b, off + (wishAt s i).puz.toNat * 2 + 1, none⟩ = some (.slice (some ⟨b2, off2, none⟩) s.sheets.length (makeAt s i).c) ∧ b2 < B ∧ w.cell? ⟨b2, off2 + k, none⟩ = some (.int .i64 (takeAt s i k)) := by
  obtain ⟨b, off, e, hb, h0, h1⟩ := hx.makeC h ok hi
  obtain ⟨b2, off2, e2, hb2, h2⟩ := (h.takeC ok hi).int (k := k) (by rw [(ok.make _ (makeAt_mem ok hi)).2.2.1]; exact hk)
  rw [e2] at h1
  exact ⟨b, off, b2, off2, e, hb, h0, h1, hb2, h2⟩
theorem SBox.licC {w : World} {bl B : Nat} {s : Store} (hx : SBox w bl s) (h : StoreAt w B s) (ok : Ok s) {i : Nat} (hi : i < s.wishes.length) :
    ∃ b off, w.cell? ⟨bl, 1, none⟩ = some (.slice (some ⟨b, off, none⟩) s.lics.length s.c2) ∧ b < B ∧ w.cell? ⟨b, off + (makeAt s i).pic.toNat * 4, none⟩ = some (.int .i64 (licAt s i).copies) ∧ w.cell? ⟨b, off + (makeAt s i).pic.toNat * 4 + 1, none⟩ = some (.int .i64 (licAt s i).lo) ∧
      w.cell? ⟨b, off + (makeAt s i).pic.toNat * 4 + 2, none⟩ = some (.int .i64 (licAt s i).hi) ∧ w.cell? ⟨b, off + (makeAt s i).pic.toNat * 4 + 3, none⟩ = some (.int .i64 (licAt s i).fee) := by
  obtain ⟨b, off, e, r⟩ := h.licC ok hi
  have := hx.c1
  rw [e] at this
  exact ⟨b, off, this, r⟩
theorem SBox.sheetC {w : World} {bl B : Nat} {s : Store} (hx : SBox w bl s) (h : StoreAt w B s) {k : Nat} (hk : k < s.sheets.length) :
    ∃ b off, w.cell? ⟨bl, 0, none⟩ = some (.slice (some ⟨b, off, none⟩) s.sheets.length s.c1) ∧ b < B ∧ w.cell? ⟨b, off + k * 3, none⟩ = some (.int .i64 (sheetAt s k).lo) ∧ w.cell? ⟨b, off + k * 3 + 1, none⟩ = some (.int .i64 (sheetAt s k).hi) ∧ w.cell? ⟨b, off + k * 3 + 2, none⟩ = some (.int .i64 (sheetAt s k).cost) := by
  obtain ⟨b, off, e, r⟩ := h.sheetC hk
  have := hx.c0
  rw [e] at this
  exact ⟨b, off, this, r⟩
end Go.Proofs.YtfffhbolaimmdaaDoor
