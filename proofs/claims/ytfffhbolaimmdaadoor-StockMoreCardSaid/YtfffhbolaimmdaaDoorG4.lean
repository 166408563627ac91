import Derived.Test.YtfffhbolaimmdaaDoorC2
import Derived.Test.YtfffhbolaimmdaaDoorG0
import Derived.Test.YtfffhbolaimmdaaDoorQ5
import Derived.BigQuiet
import Derived.Laws.OwnMore
import Derived.Deep.DeepCutAuto
namespace Go.Proofs.YtfffhbolaimmdaaDoor
open Go.RowKit
theorem check_cases (s : Store) (st : Int) : (checkS s st = 1 ∧ storeS s = false) ∨ (checkS s st = 2 ∧ storeS s = true ∧ (st < 0 ∨ powI s.wishes.length ≤ st)) ∨ (checkS s st = 0 ∧ storeS s = true ∧ 0 ≤ st ∧ st < powI s.wishes.length) := by
  unfold checkS
  cases hs : storeS s
  · left; simp
  · right
    simp only [if_true]
    by_cases h : inS st 0 (powI s.wishes.length - 1) = true
    · right; rw [if_pos h]; simp [inS] at h; exact ⟨rfl, trivial, by omega, by omega⟩
    · left; rw [if_neg h]; simp [inS] at h; exact ⟨rfl, trivial, by omega⟩
/-! Plain facts: a store that has more, and one with an order more. -/
structure Mo (s x : Store) : Prop where
  w : x.wishes = s.wishes
  m : x.makes = s.makes
  ls : x.sheets.length = s.sheets.length
  ok : Ok s
  okx : Ok x
  sh : ∀ k, k < s.sheets.length → loAt s k ≤ loAt x k ∧ hiAt s k ≤ hiAt x k ∧ (sheetAt x k).cost ≤ (sheetAt s k).cost
  li : ∀ p, (s.lics.getD p ⟨0, 0, 0, 0⟩).copies ≤ (x.lics.getD p ⟨0, 0, 0, 0⟩).copies ∧ (x.lics.getD p ⟨0, 0, 0, 0⟩).lo = (s.lics.getD p ⟨0, 0, 0, 0⟩).lo ∧ (x.lics.getD p ⟨0, 0, 0, 0⟩).hi = (s.lics.getD p ⟨0, 0, 0, 0⟩).hi ∧ (x.lics.getD p ⟨0, 0, 0, 0⟩).fee ≤ (s.lics.getD p ⟨0, 0, 0, 0⟩).fee
theorem Mo.wish {s x : Store} (h : Mo s x) (i : Nat) : wishAt x i = wishAt s i := by unfold wishAt; rw [h.w]
theorem Mo.make {s x : Store} (h : Mo s x) (i : Nat) : makeAt x i = makeAt s i := by unfold makeAt; rw [h.wish, h.m]
theorem Mo.lic {s x : Store} (h : Mo s x) (i : Nat) : (licAt s i).copies ≤ (licAt x i).copies ∧ (licAt x i).lo = (licAt s i).lo ∧ (licAt x i).hi = (licAt s i).hi ∧ (licAt x i).fee ≤ (licAt s i).fee := by
  unfold licAt; rw [h.make]; exact h.li _
theorem Mo.nw {s x : Store} (h : Mo s x) : x.wishes.length = s.wishes.length := by rw [h.w]
theorem Mo.take {s x : Store} (h : Mo s x) (set k : Nat) : takeS x set k = takeS s set k := by
  unfold takeS takeTo takeAt; rw [h.nw]; simp only [h.wish, h.make]
theorem Mo.refused {s x : Store} (h : Mo s x) {y : Nat} (hy : refusedS s y < 0) : refusedS x y < 0 := by
  rw [refused_iff] at hy ⊢
  intro j hj hb
  rw [h.nw] at hj
  have h1 := hy j hj hb
  have h2 := h.lic j
  have e : usedTo x y (j + 1) (makeAt x j).pic.toNat = usedTo s y (j + 1) (makeAt s j).pic.toNat := by unfold usedTo; simp only [h.wish, h.make]
  unfold okAt at h1 ⊢
  rw [Bool.and_eq_true, decide_eq_true_eq] at h1 ⊢
  rw [e, h.wish, h2.2.1, h2.2.2.1]
  exact ⟨h1.1, by omega⟩
theorem Mo.lackLo {s x : Store} (h : Mo s x) (set : Nat) {k : Nat} (hk : k < s.sheets.length) : lackS x set k (loAt x k) ≤ lackS s set k (loAt s k) ∧ lackS x set k (hiAt x k) ≤ lackS s set k (hiAt s k) := by
  have := h.sh k hk
  unfold lackS; rw [h.take]; omega
theorem Mo.gainTo {s x : Store} (h : Mo s x) (set : Nat) {n : Nat} (hn : n ≤ s.wishes.length) : gainTo s set n ≤ gainTo x set n := by
  unfold Go.Proofs.YtfffhbolaimmdaaDoor.gainTo
  refine sumTo_mono5 fun i hi => ?_
  rw [h.wish]
  have h1 := h.ok.wishOk (i := i) (by omega)
  have h2 := h.lic i
  have h3 := Int.mul_le_mul_of_nonneg_left (c := (wishAt s i).many) (a := (wishAt s i).price - (licAt s i).fee) (b := (wishAt s i).price - (licAt x i).fee) (by omega) (by omega)
  split <;> omega
theorem Mo.cost {s x : Store} (h : Mo s x) (set : Nat) {f g : Nat → Int} (hfg : ∀ k, k < s.sheets.length → lackS x set k (g k) ≤ lackS s set k (f k)) {n : Nat} (hn : n ≤ s.sheets.length) : costTo x set g n ≤ costTo s set f n := by
  unfold costTo
  refine sumTo_mono5 fun k hk => ?_
  have h1 := cost_ok h.okx (k := k) (by have := h.ls; omega)
  have h2 := (h.sh k (by omega)).2.2
  have h3 := hfg k (by omega)
  have h4 := lackS_ge x set k (g k)
  exact Int.mul_le_mul h2 h3 h4 (by omega)
theorem Mo.gainLo {s x : Store} (h : Mo s x) (set : Nat) : gainS s set (loAt s) ≤ gainS x set (loAt x) ∧ gainS s set (hiAt s) ≤ gainS x set (hiAt x) := by
  have h1 := h.gainTo set (Nat.le_refl _)
  have h2 := h.cost set (fun k hk => (h.lackLo set hk).1) (Nat.le_refl _)
  have h3 := h.cost set (fun k hk => (h.lackLo set hk).2) (Nat.le_refl _)
  unfold gainS; rw [h.nw, h.ls]; omega
theorem Mo.best {s x : Store} (h : Mo s x) : G s (bestS s) ≤ G x (bestS x) := by
  have h1 := (h.gainLo (bestS s)).1
  have h2 := best_ge x (y := bestS s) (by rw [h.nw]; exact best_lt s) (h.refused (best_ok s))
  unfold G at *; omega
theorem Mo.accepted {s x : Store} (h : Mo s x) {set : Nat} (hset : set < 2 ^ s.wishes.length) (ha : acceptedS s (set : Nat) = 0) : acceptedS x (set : Nat) = 0 :=
  (accepted_zero h.okx (by rw [h.nw]; exact hset)).2 (h.refused ((accepted_zero h.ok hset).1 ha))
theorem Mo.cov {s x : Store} (_ : Mo s x) (set : Nat) {f g : Nat → Int} (hfg : ∀ k, k < s.sheets.length → lackS x set k (g k) ≤ lackS s set k (f k)) {n : Nat} (hn : n ≤ s.sheets.length) (hc : covTo s set f n = true) : covTo x set g n = true := by
  induction n with
  | zero => rfl
  | succ n ih =>
    rw [covTo_succ, Bool.and_eq_true] at hc ⊢
    refine ⟨ih (by omega) hc.1, ?_⟩
    have h1 := hfg n (by omega)
    have h2 := lackS_ge x set n (g n)
    have h3 : lackS s set n (f n) = 0 := by simpa using hc.2
    simp; omega
theorem accepted_set {s : Store} {st : Int} (ha : acceptedS s st = 0) : ∃ set : Nat, st = (set : Nat) ∧ set < 2 ^ s.wishes.length ∧ storeS s = true := by
  rcases check_cases s st with ⟨hc, -⟩ | ⟨hc, -⟩ | ⟨hc, hs, h0, h1⟩
  · unfold acceptedS at ha; rw [hc] at ha; simp at ha
  · unfold acceptedS at ha; rw [hc] at ha; simp at ha
  · refine ⟨st.toNat, by omega, ?_, hs⟩
    unfold powI at h1; omega
/-- With more, no set is covered less, and its profit is no less. -/
theorem Mo.said {s x : Store} (h : Mo s x) {st : Int} (ha : acceptedS s st = 0) : acceptedS x st = 0 ∧ (surelyS s st = true → surelyS x st = true) ∧ (canS s st = true → canS x st = true) ∧ (profitS s st).1 ≤ (profitS x st).1 ∧ (profitS s st).2 ≤ (profitS x st).2 := by
  obtain ⟨set, rfl, hlt, -⟩ := accepted_set ha
  have hx := h.accepted hlt ha
  refine ⟨hx, fun hc => ?_, fun hc => ?_, ?_, ?_⟩
  · unfold surelyS at hc ⊢
    rw [ha] at hc; rw [hx, h.ls]
    simp only [decide_true, Bool.true_and] at hc ⊢
    exact h.cov set (fun k hk => (h.lackLo set hk).1) (Nat.le_refl _) hc
  · unfold canS at hc ⊢
    rw [ha] at hc; rw [hx, h.ls]
    simp only [decide_true, Bool.true_and] at hc ⊢
    exact h.cov set (fun k hk => (h.lackLo set hk).2) (Nat.le_refl _) hc
  · rw [profit_zero ha, profit_zero hx]; exact (h.gainLo set).1
  · rw [profit_zero ha, profit_zero hx]; exact (h.gainLo set).2
/-- An order more, at the end. -/
def Lg (s : Store) (y : Wish) (x : Store) : Prop := ∃ A c, x = { s with wishes := s.wishes ++ [y], A4 := A, c4 := c }
theorem Lg.nw {s x : Store} {y : Wish} (h : Lg s y x) : x.wishes.length = s.wishes.length + 1 := by obtain ⟨A, c, rfl⟩ := h; simp
theorem Lg.same {s x : Store} {y : Wish} (h : Lg s y x) : x.sheets = s.sheets ∧ x.lics = s.lics ∧ x.makes = s.makes := by obtain ⟨A, c, rfl⟩ := h; exact ⟨rfl, rfl, rfl⟩
theorem Lg.wish {s x : Store} {y : Wish} (h : Lg s y x) {i : Nat} (hi : i < s.wishes.length) : wishAt x i = wishAt s i := by
  obtain ⟨A, c, rfl⟩ := h
  unfold wishAt
  simp only [List.getD_eq_getElem?_getD]
  rw [List.getElem?_append_left hi]
theorem Lg.make {s x : Store} {y : Wish} (h : Lg s y x) {i : Nat} (hi : i < s.wishes.length) : makeAt x i = makeAt s i ∧ licAt x i = licAt s i := by
  have e : makeAt x i = makeAt s i := by unfold makeAt; rw [h.wish hi, h.same.2.2]
  exact ⟨e, by unfold licAt; rw [e, h.same.2.1]⟩
theorem no_last {n set : Nat} (h : set < 2 ^ n) : has set n = false := by unfold has; exact Nat.testBit_lt_two_pow h
theorem Lg.take {s x : Store} {y : Wish} (h : Lg s y x) {set : Nat} (hset : set < 2 ^ s.wishes.length) (k : Nat) : takeS x set k = takeS s set k := by
  unfold takeS takeTo
  rw [h.nw, sumTo_split, no_last hset, if_neg (by simp)]
  rw [sumTo_congr (g := fun i => if has set i = true then (wishAt s i).many * takeAt s i k else 0) (fun i hi => by unfold takeAt; rw [h.wish hi, (h.make hi).1])]
  omega
theorem Lg.refused {s x : Store} {y : Wish} (h : Lg s y x) {set : Nat} (hset : set < 2 ^ s.wishes.length) (hy : refusedS s set < 0) : refusedS x set < 0 := by
  rw [refused_iff] at hy ⊢
  intro j hj hb
  rw [h.nw] at hj
  by_cases e : j = s.wishes.length
  · subst e; rw [no_last hset] at hb; cases hb
  · have hj' : j < s.wishes.length := by omega
    have h1 := hy j hj' hb
    have e2 : ∀ p, usedTo x set (j + 1) p = usedTo s set (j + 1) p := fun p => by
      unfold usedTo; exact sumTo_congr fun i hi => by rw [h.wish (by omega), (h.make (by omega)).1]
    unfold okAt at h1 ⊢
    rw [e2, h.wish hj', (h.make hj').1, (h.make hj').2]; exact h1
theorem Lg.gain {s x : Store} {y : Wish} (h : Lg s y x) {set : Nat} (hset : set < 2 ^ s.wishes.length) : G x set = G s set := by
  have e1 : gainTo x set x.wishes.length = gainTo s set s.wishes.length := by
    unfold gainTo
    rw [h.nw, sumTo_split, no_last hset, if_neg (by simp)]
    rw [sumTo_congr (g := fun i => if has set i = true then (wishAt s i).many * ((wishAt s i).price - (licAt s i).fee) - (wishAt s i).ship else 0) (fun i hi => by rw [h.wish hi, (h.make hi).2])]
    omega
  have e2 : loAt x = loAt s := by funext k; unfold loAt sheetAt; rw [h.same.1]
  have e3 : costTo x set (loAt s) x.sheets.length = costTo s set (loAt s) s.sheets.length := by
    rw [h.same.1]; unfold costTo
    refine sumTo_congr fun k _ => ?_
    have : sheetAt x k = sheetAt s k := by unfold sheetAt; rw [h.same.1]
    rw [this]; unfold lackS; rw [h.take hset]
  unfold G gainS; rw [e2, e1, e3]
theorem Lg.best {s x : Store} {y : Wish} (h : Lg s y x) : G s (bestS s) ≤ G x (bestS x) := by
  have hb := best_lt s
  have h2 := best_ge x (y := bestS s) (by rw [h.nw, Nat.pow_succ]; omega) (h.refused hb (best_ok s))
  have h3 := h.gain hb
  omega
/-- The store that is rich, and the one that is cheap. -/
def richSheet (b : Int) (x : Sheet) : Sheet := ⟨min 100000 (x.lo + b), min 100000 (x.hi + b), x.cost⟩
def richLic (b : Int) (x : Licence) : Licence := ⟨min 1000 (x.copies + b), x.lo, x.hi, x.fee⟩
def cheapSheet (b : Int) (x : Sheet) : Sheet := ⟨x.lo, x.hi, max 0 (x.cost - b)⟩
def cheapLic (b : Int) (x : Licence) : Licence := ⟨x.copies, x.lo, x.hi, max 0 (x.fee - b)⟩
theorem getD_set {α : Type} (l : List α) (k j : Nat) (y d : α) (hk : k < l.length) : (l.set k y).getD j d = if j = k then y else l.getD j d := by
  simp only [List.getD_eq_getElem?_getD, List.getElem?_set]
  by_cases e : j = k
  · subst e; rw [if_pos rfl, if_pos rfl, if_pos hk]; rfl
  · rw [if_neg e, if_neg (fun h => e h.symm)]
theorem more_ok {s : Store} (ok : Ok s) {k p : Nat} {y : Sheet} {z : Licence} (A1 A2 : Option Addr) (c1 c2 : Nat) (hy : 0 ≤ y.lo ∧ y.lo ≤ y.hi ∧ y.hi ≤ 100000 ∧ 0 ≤ y.cost ∧ y.cost ≤ 10000) (hz : 0 ≤ z.copies ∧ z.copies ≤ 1000 ∧ 0 ≤ z.lo ∧ z.lo ≤ z.hi ∧ z.hi ≤ 1048576 ∧ 0 ≤ z.fee ∧ z.fee ≤ 10000) :
    Ok { s with sheets := s.sheets.set k y, lics := s.lics.set p z, A1 := A1, A2 := A2, c1 := c1, c2 := c2 } := by
  refine ⟨by simpa using ok.ns, by simpa using ok.nl, ok.nm, ok.nw, fun x hx => ?_, fun x hx => ?_, fun x hx => ?_, ok.wish⟩
  · rcases List.mem_or_eq_of_mem_set hx with hx | rfl
    · exact ok.sheet x hx
    · exact hy
  · rcases List.mem_or_eq_of_mem_set hx with hx | rfl
    · exact ok.lic x hx
    · exact hz
  · have := ok.make x hx
    simpa using this
theorem rich_mo {s : Store} (ok : Ok s) {k p : Nat} (hk : k < s.sheets.length) (hp : p < s.lics.length) {b : Int} (hb : 0 ≤ b) (A1 A2 : Option Addr) (c1 c2 : Nat) :
    Mo s { s with sheets := s.sheets.set k (richSheet b (sheetAt s k)), lics := s.lics.set p (richLic b (s.lics.getD p ⟨0, 0, 0, 0⟩)), A1 := A1, A2 := A2, c1 := c1, c2 := c2 } := by
  have h1 := ok.sheet _ (sheetAt_mem hk)
  have h2 := ok.lic (s.lics.getD p ⟨0, 0, 0, 0⟩) (by rw [List.getD_eq_getElem?_getD, List.getElem?_eq_getElem hp]; exact List.getElem_mem hp)
  refine ⟨rfl, rfl, by simp, ok, more_ok ok A1 A2 c1 c2 (by unfold richSheet; dsimp only; omega) (by unfold richLic; dsimp only; omega), fun j hj => ?_, fun q => ?_⟩
  · unfold loAt hiAt sheetAt
    dsimp only
    rw [getD_set _ _ _ _ _ hk]
    by_cases e : j = k
    · subst e; rw [if_pos rfl]; unfold sheetAt at h1; unfold richSheet; dsimp only; omega
    · rw [if_neg e]; omega
  · dsimp only
    rw [getD_set _ _ _ _ _ hp]
    by_cases e : q = p
    · subst e; rw [if_pos rfl]; unfold richLic; dsimp only; omega
    · rw [if_neg e]; omega
theorem cheap_mo {s : Store} (ok : Ok s) {k p : Nat} (hk : k < s.sheets.length) (hp : p < s.lics.length) {b : Int} (hb : 0 ≤ b) (A1 A2 : Option Addr) (c1 c2 : Nat) :
    Mo s { s with sheets := s.sheets.set k (cheapSheet b (sheetAt s k)), lics := s.lics.set p (cheapLic b (s.lics.getD p ⟨0, 0, 0, 0⟩)), A1 := A1, A2 := A2, c1 := c1, c2 := c2 } := by
  have h1 := ok.sheet _ (sheetAt_mem hk)
  have h2 := ok.lic (s.lics.getD p ⟨0, 0, 0, 0⟩) (by rw [List.getD_eq_getElem?_getD, List.getElem?_eq_getElem hp]; exact List.getElem_mem hp)
  refine ⟨rfl, rfl, by simp, ok, more_ok ok A1 A2 c1 c2 (by unfold cheapSheet; dsimp only; omega) (by unfold cheapLic; dsimp only; omega), fun j hj => ?_, fun q => ?_⟩
  · unfold loAt hiAt sheetAt
    dsimp only
    rw [getD_set _ _ _ _ _ hk]
    by_cases e : j = k
    · subst e; rw [if_pos rfl]; unfold sheetAt at h1; unfold cheapSheet; dsimp only; omega
    · rw [if_neg e]; omega
  · dsimp only
    rw [getD_set _ _ _ _ _ hp]
    by_cases e : q = p
    · subst e; rw [if_pos rfl]; unfold cheapLic; dsimp only; omega
    · rw [if_neg e]; omega
theorem addr_add (b o j : Nat) : (⟨b, o, none⟩ : Addr).add j = ⟨b, o + j, none⟩ := by unfold Addr.add; split <;> simp_all
theorem flat_split {α : Type} {size : Nat} {cells : α → List Value} (hs : ∀ x, (cells x).length = size) : ∀ (l : List α) (j : Nat) (u : Value), (l.flatMap cells)[j]? = some u → ∃ k r x, j = k * size + r ∧ l[k]? = some x ∧ (cells x)[r]? = some u
  | [], j, u, h => by simp at h
  | x :: l, j, u, h => by
    rw [List.flatMap_cons] at h
    by_cases hj : j < size
    · rw [List.getElem?_append_left (by rw [hs]; exact hj)] at h
      exact ⟨0, j, x, by omega, rfl, h⟩
    · rw [List.getElem?_append_right (by rw [hs]; omega), hs] at h
      obtain ⟨k, r, y, e, h1, h2⟩ := flat_split hs l _ u h
      exact ⟨k + 1, r, y, by rw [Nat.succ_mul]; omega, h1, h2⟩
theorem flat_len {α : Type} {size : Nat} {cells : α → List Value} (hs : ∀ x, (cells x).length = size) (l : List α) : (l.flatMap cells).length = l.length * size := by
  induction l with
  | nil => simp
  | cons x l ih => rw [List.flatMap_cons, List.length_append, ih, hs, List.length_cons, Nat.succ_mul]; omega
theorem at_flat {α : Type} {size : Nat} {cells : α → List Value} (hs : ∀ x, (cells x).length = size) {W : World} {B b o : Nat} {l : List α} (h : At W B size cells (some ⟨b, o, none⟩) l) : ∀ j u, (l.flatMap cells)[j]? = some u → W.cell? ((⟨b, o, none⟩ : Addr).add j) = some u := by
  intro j u hj
  obtain ⟨k, r, x, e, h1, h2⟩ := flat_split hs l j u hj
  obtain ⟨b', o', e', -, hc⟩ := h k x h1
  injection e' with e'
  injection e' with e1 e2
  subst e1 e2
  rw [addr_add, e]
  have := hc r u h2
  rw [← this]; congr 2; omega
theorem own_at {α : Type} {size : Nat} {cells : α → List Value} (hs : ∀ x, (cells x).length = size) {W : World} {base n g cap : Nat} {e : TypeId} {l : List α} (h : W.ownsRow base e size (.slice (some ⟨g, 0, none⟩) n cap) n (l.flatMap cells)) : At W W.heap.size size cells (some ⟨g, 0, none⟩) l := by
  obtain ⟨A, c, hv, hc⟩ := own_form h
  injection hv with hv _ _
  intro k x hx
  refine ⟨g, 0, rfl, (h.lt g rfl).2, fun j u hu => ?_⟩
  obtain ⟨b, hA, -, -, h1⟩ := hc (k * size + j) u (flat_get hs l k j x u hx hu)
  rw [← hv] at hA
  injection hA with hA
  injection hA with hA
  subst hA
  rw [← h1]; congr 2; omega
theorem row_five {W : World} {g : Nat} {a b c d f : Value} {t : TypeId} {fr : Nat × Nat} (h : W.heap[g]? = some (.cells #[a, b, c, d, f] t fr)) : ∀ j u, [a, b, c, d, f][j]? = some u → W.cell? ((⟨g, 0, none⟩ : Addr).add j) = some u := by
  intro j u hj
  rw [addr_add, Nat.zero_add, cell_of_row W g _ _ _ _ h]
  simpa using hj
theorem sz_drewA (W : World) : W.drew.heap.size = W.heap.size := rfl
theorem lt_heapA {W : World} {b : Nat} {x : Obj} (h : W.heap[b]? = some x) : b < W.heap.size := (Array.getElem?_eq_some_iff.1 h).1
theorem al_newA {V W : World} (_ : Below V.heap.size V W) (o : Obj) : (W.alloc o).heap[W.heap.size]? = some o := heap_alloc_new W o
theorem al_oldA {W : World} {b : Nat} {x : Obj} (h : W.heap[b]? = some x) (o : Obj) : (W.alloc o).heap[b]? = some x := (Below.heap_alloc _ _ _ (lt_heapA h)).trans h
theorem own_empty {V W : World} (h : Below V.heap.size V W) (e : TypeId) (size : Nat) : (W.alloc (.cells #[] e)).ownsRow V.heap.size e size (.slice (some ⟨W.heap.size, 0, none⟩) 0 0) 0 [] := World.ownsRow_made W #[] 0 h.size (by unfold maxLen; omega) (by simp)
theorem grow_below {V W W' : World} {v : Value} (h : Below V.heap.size V W) (hg : W.grownBy W' v.ownBlock) (hr : ∀ k, v.ownBlock = some k → V.heap.size ≤ k) : Below V.heap.size V W' := h.grown hg h.size hr
theorem wish_len (x : Wish) : x.cells.length = 5 := rfl
theorem wish_info : (Tryd.prog.info? 57).map (fun i => (i.zero, i.size, i.bytes)) = some (some (.agg #[.int .i64 0, .int .i64 0, .int .i64 0, .int .i64 0, .int .i64 0]), 5, 40) := by kernel_rfl
theorem cell_set {W : World} {g o : Nat} {v u : Value} (h : W.cell? ⟨g, o, none⟩ = some u) (p : Nat) : (W.setCell ⟨g, o, none⟩ v).cell? ⟨g, p, none⟩ = if p = o then some v else W.cell? ⟨g, p, none⟩ := by
  by_cases e : p = o
  · subst e; rw [if_pos rfl]; exact World.cell?_setCell_same' _ _ _ (by rw [h]; rfl)
  · rw [if_neg e]; exact World.cell?_setCell_other _ _ _ _ (by intro e'; injection e' with _ e2; exact e e2.symm)
theorem own_setCellA {w : World} {base : Nat} {e : TypeId} {size : Nat} {v : Value} {n : Nat} {xs : List Value} (h : w.ownsRow base e size v n xs) {b : Nat} (hb : b < base) (o : Nat) (x : Value) : (w.setCell ⟨b, o, none⟩ x).ownsRow base e size v n xs := by
  refine ⟨h.1, h.2.imp id ?_⟩
  rintro ⟨g, cap, cur, hv, hg, hh, r⟩
  exact ⟨g, cap, cur, hv, hg, by unfold World.setCell; rw [Array.getElem?_modify, if_neg (by show ¬ b = g; omega)]; exact hh, r⟩
theorem row_grown {W W' : World} {b c o n k : Nat} {x : Obj} (hg : W.grownBy W' (Value.slice (some ⟨c, o, none⟩) n k).ownBlock) (h : W.heap[b]? = some x) (hne : b ≠ c) : W'.heap[b]? = some x := (hg.block b (lt_heapA h) (by intro e; exact hne (Option.some.inj e))).trans h
theorem at_five {W : World} {B g : Nat} {l : List Wish} (h : At W B 5 Wish.cells (some ⟨g, 0, none⟩) l) {k : Nat} {y : Wish} (hk : l[k]? = some y) : W.cell? ⟨g, k * 5, none⟩ = some (.int .i64 y.puz) ∧ W.cell? ⟨g, k * 5 + 1, none⟩ = some (.int .i64 y.many) ∧ W.cell? ⟨g, k * 5 + 2, none⟩ = some (.int .i64 y.hour) ∧ W.cell? ⟨g, k * 5 + 3, none⟩ = some (.int .i64 y.price) ∧ W.cell? ⟨g, k * 5 + 4, none⟩ = some (.int .i64 y.ship) := by
  obtain ⟨b', o', e', -, hc⟩ := h k y hk
  injection e' with e'
  injection e' with e1 e2
  subst e1 e2
  simp only [Nat.zero_add] at hc
  exact ⟨hc 0 _ rfl, hc 1 _ rfl, hc 2 _ rfl, hc 3 _ rfl, hc 4 _ rfl⟩
theorem own_row {W : World} {base g n cap size : Nat} {e : TypeId} {xs : List Value} (h : W.ownsRow base e size (.slice (some ⟨g, 0, none⟩) n cap) n xs) (hn : 0 < n) : ∃ cur, W.heap[g]? = some (.cells cur e (0, 0)) := by
  rcases h.2 with ⟨-, h0⟩ | ⟨g', c', cur, hv, -, hh, -⟩
  · omega
  · injection hv with hv _ _
    injection hv with hv
    injection hv with hv
    subst hv
    exact ⟨cur, hh⟩
def set5 (W : World) (g o : Nat) (y : Wish) : World := ((((W.setCell ⟨g, o, none⟩ (.int .i64 y.puz)).setCell ⟨g, o + 1, none⟩ (.int .i64 y.many)).setCell ⟨g, o + 2, none⟩ (.int .i64 y.hour)).setCell ⟨g, o + 3, none⟩ (.int .i64 y.price)).setCell ⟨g, o + 4, none⟩ (.int .i64 y.ship)
theorem set5_cell {W : World} {g o : Nat} {y z : Wish} (h0 : W.cell? ⟨g, o, none⟩ = some (.int .i64 z.puz)) (h1 : W.cell? ⟨g, o + 1, none⟩ = some (.int .i64 z.many)) (h2 : W.cell? ⟨g, o + 2, none⟩ = some (.int .i64 z.hour)) (h3 : W.cell? ⟨g, o + 3, none⟩ = some (.int .i64 z.price)) (h4 : W.cell? ⟨g, o + 4, none⟩ = some (.int .i64 z.ship)) (p : Nat) :
    (set5 W g o y).cell? ⟨g, p, none⟩ = if p = o + 4 then some (.int .i64 y.ship) else if p = o + 3 then some (.int .i64 y.price) else if p = o + 2 then some (.int .i64 y.hour) else if p = o + 1 then some (.int .i64 y.many) else if p = o then some (.int .i64 y.puz) else W.cell? ⟨g, p, none⟩ := by
  have k1 := cell_set (v := .int .i64 y.puz) h0
  have e1 := (k1 (o + 1)).trans ((if_neg (by omega)).trans h1)
  have k2 := cell_set (v := .int .i64 y.many) e1
  have e2 := (k2 (o + 2)).trans ((if_neg (by omega)).trans ((k1 (o + 2)).trans ((if_neg (by omega)).trans h2)))
  have k3 := cell_set (v := .int .i64 y.hour) e2
  have e3 := (k3 (o + 3)).trans ((if_neg (by omega)).trans ((k2 (o + 3)).trans ((if_neg (by omega)).trans ((k1 (o + 3)).trans ((if_neg (by omega)).trans h3)))))
  have k4 := cell_set (v := .int .i64 y.price) e3
  have e4 := (k4 (o + 4)).trans ((if_neg (by omega)).trans ((k3 (o + 4)).trans ((if_neg (by omega)).trans ((k2 (o + 4)).trans ((if_neg (by omega)).trans ((k1 (o + 4)).trans ((if_neg (by omega)).trans h4)))))))
  have k5 := cell_set (v := .int .i64 y.ship) e4
  unfold set5
  rw [k5, k4, k3, k2, k1]
theorem set5_below {W V : World} {B g o : Nat} {y : Wish} (h : Below B V W) (hg : B ≤ g) : Below B V (set5 W g o y) := ((((h.setCell hg _).setCell hg _).setCell hg _).setCell hg _).setCell hg _
theorem set5_row {W : World} {g o b : Nat} {y : Wish} {x : Obj} (h : W.heap[b]? = some x) (hne : g ≠ b) : (set5 W g o y).heap[b]? = some x := by
  have k : ∀ (U : World) (q : Nat) (u : Value), U.heap[b]? = some x → (U.setCell ⟨g, q, none⟩ u).heap[b]? = some x := fun U q u hU => by
    unfold World.setCell; rw [Array.getElem?_modify, if_neg (by show ¬ g = b; exact hne)]; exact hU
  exact k _ _ _ (k _ _ _ (k _ _ _ (k _ _ _ (k _ _ _ h))))
theorem at_set5 {W : World} {B g i : Nat} {l : List Wish} {y z : Wish} (h : At W B 5 Wish.cells (some ⟨g, 0, none⟩) l) (hz : l[i]? = some z) : At (set5 W g (i * 5) y) B 5 Wish.cells (some ⟨g, 0, none⟩) (l.set i y) := by
  obtain ⟨h0, h1, h2, h3, h4⟩ := at_five h hz
  have hs := set5_cell (y := y) h0 h1 h2 h3 h4
  have hi := (List.getElem?_eq_some_iff.1 hz).1
  obtain ⟨bb, ob, eb, hlt, -⟩ := h i z hz
  injection eb with eb
  injection eb with eb1 eb2
  subst eb1 eb2
  intro k x hk
  refine ⟨g, 0, rfl, hlt, fun j u hu => ?_⟩
  have hj : j < 5 := (List.getElem?_eq_some_iff.1 hu).1
  rw [Nat.zero_add, hs]
  rw [List.getElem?_set] at hk
  by_cases e : i = k
  · subst e
    rw [if_pos rfl, if_pos hi] at hk
    obtain rfl := Option.some.inj hk
    match j, hj, hu with
    | 0, _, hu => rw [if_neg (by omega), if_neg (by omega), if_neg (by omega), if_neg (by omega), if_pos (by omega)]; exact hu
    | 1, _, hu => rw [if_neg (by omega), if_neg (by omega), if_neg (by omega), if_pos (by omega)]; exact hu
    | 2, _, hu => rw [if_neg (by omega), if_neg (by omega), if_pos (by omega)]; exact hu
    | 3, _, hu => rw [if_neg (by omega), if_pos (by omega)]; exact hu
    | 4, _, hu => rw [if_pos (by omega)]; exact hu
  · rw [if_neg e] at hk
    obtain ⟨b', o', e', -, hc⟩ := h k x hk
    injection e' with e'
    injection e' with e1 e2
    subst e1 e2
    rw [if_neg (by omega), if_neg (by omega), if_neg (by omega), if_neg (by omega), if_neg (by omega)]
    have := hc j u hu
    rwa [Nat.zero_add] at this
theorem own_row' {W : World} {base g n cap size : Nat} {e : TypeId} {xs : List Value} (h : W.ownsRow base e size (.slice (some ⟨g, 0, none⟩) n cap) n xs) : ∃ cur, W.heap[g]? = some (.cells cur e (0, 0)) := by
  rcases h.2 with ⟨h0, -⟩ | ⟨g', c', cur, hv, -, hh, -⟩
  · cases h0
  · injection hv with hv _ _
    injection hv with hv
    injection hv with hv
    subst hv
    exact ⟨cur, hh⟩
theorem own_blk {W W' : World} {base g n cap size : Nat} {e : TypeId} {xs : List Value} (h : W.ownsRow base e size (.slice (some ⟨g, 0, none⟩) n cap) n xs) (hk : W'.heap[g]? = W.heap[g]?) : W'.ownsRow base e size (.slice (some ⟨g, 0, none⟩) n cap) n xs := by
  refine ⟨h.1, h.2.imp id ?_⟩
  rintro ⟨g', c', cur, hv, hg, hh, r⟩
  have hv' := hv
  injection hv' with hv' _ _
  injection hv' with hv'
  injection hv' with hv'
  subst hv'
  exact ⟨g, c', cur, hv, hg, hk.trans hh, r⟩
theorem own_ne {W : World} {base base' g c n n' k k' size size' : Nat} {e e' : TypeId} {xs xs' : List Value} (h : W.ownsRow base e size (.slice (some ⟨g, 0, none⟩) n k) n xs) (h' : W.ownsRow base' e' size' (.slice (some ⟨c, 0, none⟩) n' k') n' xs') (hee : e ≠ e') : g ≠ c := by
  obtain ⟨a, ha⟩ := own_row' h
  obtain ⟨a', ha'⟩ := own_row' h'
  intro e1
  subst e1
  rw [ha] at ha'
  injection ha' with ha'
  injection ha' with _ h2 _
  exact hee h2
theorem own_grown {W W' : World} {base g c n n' k k' size size' : Nat} {e e' : TypeId} {xs xs' : List Value} (h : W.ownsRow base e size (.slice (some ⟨g, 0, none⟩) n k) n xs) (h' : W.ownsRow base e' size' (.slice (some ⟨c, 0, none⟩) n' k') n' xs') (hg : W.grownBy W' (Value.slice (some ⟨c, 0, none⟩) n' k').ownBlock) (hee : e ≠ e') : W'.ownsRow base e size (.slice (some ⟨g, 0, none⟩) n k) n xs :=
  own_blk h (hg.block g (h.lt g rfl).2 (by intro e1; exact own_ne h h' hee (Option.some.inj e1)))
theorem row4_set0 {w : World} {g : Nat} {a b c d : Value} {t : TypeId} {fr : Nat × Nat} (h : w.heap[g]? = some (.cells #[a, b, c, d] t fr)) (x : Value) : (w.setCell ⟨g, 0, none⟩ x).heap[g]? = some (.cells #[x, b, c, d] t fr) := by
  unfold World.setCell; rw [Array.getElem?_modify, if_pos rfl, h]; rfl
theorem row4_set1 {w : World} {g : Nat} {a b c d : Value} {t : TypeId} {fr : Nat × Nat} (h : w.heap[g]? = some (.cells #[a, b, c, d] t fr)) (x : Value) : (w.setCell ⟨g, 1, none⟩ x).heap[g]? = some (.cells #[a, x, c, d] t fr) := by
  unfold World.setCell; rw [Array.getElem?_modify, if_pos rfl, h]; rfl
theorem blk_set {w : World} {g k : Nat} (hne : g ≠ k) (i : Nat) (x : Value) : (w.setCell ⟨g, i, none⟩ x).heap[k]? = w.heap[k]? := by
  unfold World.setCell; rw [Array.getElem?_modify, if_neg (by show ¬ g = k; exact hne)]
theorem sheet_len (x : Sheet) : x.cells.length = 3 := rfl
theorem lic_len (x : Licence) : x.cells.length = 4 := rfl
theorem sheet_infoA : (Tryd.prog.info? 54).map (fun i => (i.zero, i.size, i.bytes)) = some (some (.agg #[.int .i64 0, .int .i64 0, .int .i64 0]), 3, 24) := by kernel_rfl
theorem lic_info : (Tryd.prog.info? 59).map (fun i => (i.zero, i.size, i.bytes)) = some (some (.agg #[.int .i64 0, .int .i64 0, .int .i64 0, .int .i64 0]), 4, 32) := by kernel_rfl
theorem sheet_one {l : List Sheet} : ∀ u ∈ l.flatMap Sheet.cells, u.oneCell' = true := fun u hu => by
  obtain ⟨x, -, hx⟩ := List.mem_flatMap.1 hu
  simp [Sheet.cells] at hx
  rcases hx with rfl | rfl | rfl <;> rfl
theorem lic_one {l : List Licence} : ∀ u ∈ l.flatMap Licence.cells, u.oneCell' = true := fun u hu => by
  obtain ⟨x, -, hx⟩ := List.mem_flatMap.1 hu
  simp [Licence.cells] at hx
  rcases hx with rfl | rfl | rfl | rfl <;> rfl
/-- A list in a block of its own. -/
def OA {α : Type} (W : World) (e : TypeId) (size : Nat) (cells : α → List Value) (g : Nat) (l : List α) : Prop := At W W.heap.size size cells (some ⟨g, 0, none⟩) l ∧ ∃ cur, W.heap[g]? = some (.cells cur e (0, 0))
theorem own_oa {α : Type} {size : Nat} {cells : α → List Value} (hs : ∀ x, (cells x).length = size) {W : World} {base n g cap : Nat} {e : TypeId} {l : List α} (h : W.ownsRow base e size (.slice (some ⟨g, 0, none⟩) n cap) n (l.flatMap cells)) : OA W e size cells g l := ⟨own_at hs h, own_row' h⟩
theorem OA.blk {α : Type} {W W' : World} {e : TypeId} {size : Nat} {cells : α → List Value} {g : Nat} {l : List α} (h : OA W e size cells g l) (hk : W'.heap[g]? = W.heap[g]?) (hz : W.heap.size ≤ W'.heap.size) : OA W' e size cells g l := by
  refine ⟨fun k x hx => ?_, by obtain ⟨cur, hc⟩ := h.2; exact ⟨cur, hk.trans hc⟩⟩
  obtain ⟨b, o, e1, hlt, hc⟩ := h.1 k x hx
  refine ⟨b, o, e1, Nat.lt_of_lt_of_le hlt hz, fun j u hu => ?_⟩
  rw [← hc j u hu]
  injection e1 with e1
  injection e1 with e1 e2
  subst e1 e2
  exact World.cell?_of_block hk
theorem OA.upd {α : Type} {W W' : World} {e : TypeId} {size : Nat} {cells : α → List Value} {g k : Nat} {l : List α} {y z : α} (h : OA W e size cells g l) (hs : ∀ x, (cells x).length = size) (hz : l[k]? = some z) (hsz : W'.heap.size = W.heap.size) (hrow : ∃ cur, W'.heap[g]? = some (.cells cur e (0, 0)))
    (hnew : ∀ j u, (cells y)[j]? = some u → W'.cell? ⟨g, k * size + j, none⟩ = some u) (hold : ∀ q, (q < k * size ∨ k * size + size ≤ q) → W'.cell? ⟨g, q, none⟩ = W.cell? ⟨g, q, none⟩) : OA W' e size cells g (l.set k y) := by
  refine ⟨fun i x hx => ?_, hrow⟩
  have hi := (List.getElem?_eq_some_iff.1 hz).1
  obtain ⟨b, o, e1, hlt, -⟩ := h.1 k z hz
  injection e1 with e1
  injection e1 with e1 e2
  subst e1 e2
  rw [List.getElem?_set] at hx
  refine ⟨_, _, rfl, by rw [hsz]; exact hlt, fun j u hu => ?_⟩
  have hj : j < size := by rw [← hs x]; exact (List.getElem?_eq_some_iff.1 hu).1
  rw [Nat.zero_add]
  by_cases e : k = i
  · subst e
    rw [if_pos rfl, if_pos hi] at hx
    obtain rfl := Option.some.inj hx
    exact hnew j u hu
  · rw [if_neg e] at hx
    obtain ⟨b', o', e', -, hc⟩ := h.1 i x hx
    injection e' with e'
    injection e' with e1 e2
    subst e1 e2
    have h1 := hc j u hu
    rw [Nat.zero_add] at h1
    rw [hold, h1]
    rcases Nat.lt_or_ge i k with hlt | hge
    · left
      have : (i + 1) * size ≤ k * size := Nat.mul_le_mul_right size hlt
      rw [Nat.succ_mul] at this; omega
    · right
      have : (k + 1) * size ≤ i * size := Nat.mul_le_mul_right size (by omega)
      rw [Nat.succ_mul] at this; omega
theorem OA.cellAt {α : Type} {W : World} {e : TypeId} {size : Nat} {cells : α → List Value} {g k : Nat} {l : List α} {z : α} (h : OA W e size cells g l) (hz : l[k]? = some z) {j : Nat} {u : Value} (hu : (cells z)[j]? = some u) : W.cell? ⟨g, k * size + j, none⟩ = some u := by
  obtain ⟨b', o', e', -, hc⟩ := h.1 k z hz
  injection e' with e'
  injection e' with e1 e2
  subst e1 e2
  have := hc j u hu
  rwa [Nat.zero_add] at this
theorem OA.ice {α : Type} {W : World} {e : TypeId} {size : Nat} {cells : α → List Value} {g : Nat} {l : List α} (h : OA W e size cells g l) (o : Nat) : W.frozen? ⟨g, o, none⟩ = false := by
  obtain ⟨cur, hc⟩ := h.2; exact frozen_of_row W g o _ _ hc
theorem OA.lt {α : Type} {W : World} {e : TypeId} {size : Nat} {cells : α → List Value} {g : Nat} {l : List α} (h : OA W e size cells g l) : g < W.heap.size := by obtain ⟨cur, hc⟩ := h.2; exact lt_heapA hc
theorem OA.ne {α β : Type} {W : World} {e e' : TypeId} {size size' : Nat} {cells : α → List Value} {cells' : β → List Value} {g g' : Nat} {l : List α} {l' : List β} (h : OA W e size cells g l) (h' : OA W e' size' cells' g' l') (hee : e ≠ e') : g ≠ g' := by
  obtain ⟨a, ha⟩ := h.2
  obtain ⟨a', ha'⟩ := h'.2
  intro e1
  subst e1
  rw [ha] at ha'
  injection ha' with ha'
  injection ha' with _ h2 _
  exact hee h2
theorem row_setAny {w : World} {g i : Nat} {t : TypeId} (h : ∃ cur, w.heap[g]? = some (.cells cur t (0, 0))) (x : Value) : ∃ cur, (w.setCell ⟨g, i, none⟩ x).heap[g]? = some (.cells cur t (0, 0)) := by
  obtain ⟨cur, hc⟩ := h
  unfold World.setCell; rw [Array.getElem?_modify, if_pos rfl, hc]; exact ⟨_, rfl⟩
/-- The two copies of the store, and their lists, each in a block of its own. -/
structure Bd (s : Store) (V4 : World) (b1 b2 g1 c1 g2 c2 g3 c3 g4 c4 : Nat) (l1 : List Sheet) (l2 : List Licence) (l3 : List Sheet) (l4 : List Licence) (W : World) : Prop where
  r1 : W.heap[b1]? = some (.cells #[.slice (some ⟨g1, 0, none⟩) s.sheets.length c1, .slice (some ⟨g2, 0, none⟩) s.lics.length c2, .slice s.A3 s.makes.length s.c3, .slice s.A4 s.wishes.length s.c4] 27 (0, 0))
  r2 : W.heap[b2]? = some (.cells #[.slice (some ⟨g3, 0, none⟩) s.sheets.length c3, .slice (some ⟨g4, 0, none⟩) s.lics.length c4, .slice s.A3 s.makes.length s.c3, .slice s.A4 s.wishes.length s.c4] 27 (0, 0))
  o1 : OA W 54 3 Sheet.cells g1 l1
  o2 : OA W 59 4 Licence.cells g2 l2
  o3 : OA W 54 3 Sheet.cells g3 l3
  o4 : OA W 59 4 Licence.cells g4 l4
  bl : Below V4.heap.size V4 W
  n13 : g1 ≠ g3
  n24 : g2 ≠ g4
  m1 : V4.heap.size ≤ g1
  m2 : V4.heap.size ≤ g2
  m3 : V4.heap.size ≤ g3
  m4 : V4.heap.size ≤ g4
section
variable {s : Store} {V4 : World} {b1 b2 g1 c1 g2 c2 g3 c3 g4 c4 : Nat} {l1 l1' : List Sheet} {l2 l2' : List Licence} {l3 l3' : List Sheet} {l4 l4' : List Licence} {W W' : World}
theorem row_oa {α : Type} {g b : Nat} {e : TypeId} {size : Nat} {cells : α → List Value} {l : List α} {cur : Array Value} (h : OA W e size cells g l) (hr : W.heap[b]? = some (.cells cur 27 (0, 0))) (he : e ≠ 27) : b ≠ g := by
  obtain ⟨a, ha⟩ := h.2
  intro e1
  subst e1
  rw [ha] at hr
  injection hr with hr
  injection hr with _ h2 _
  exact he h2
theorem Bd.next (h : Bd s V4 b1 b2 g1 c1 g2 c2 g3 c3 g4 c4 l1 l2 l3 l4 W) (hb : Below W.heap.size W W') : Bd s V4 b1 b2 g1 c1 g2 c2 g3 c3 g4 c4 l1 l2 l3 l4 W' :=
  ⟨(hb.block _ (lt_heapA h.r1)).trans h.r1, (hb.block _ (lt_heapA h.r2)).trans h.r2, h.o1.blk (hb.block _ h.o1.lt) hb.size, h.o2.blk (hb.block _ h.o2.lt) hb.size, h.o3.blk (hb.block _ h.o3.lt) hb.size, h.o4.blk (hb.block _ h.o4.lt) hb.size, h.bl.trans (hb.mono h.bl.size), h.n13, h.n24, h.m1, h.m2, h.m3, h.m4⟩
theorem Bd.set1 (h : Bd s V4 b1 b2 g1 c1 g2 c2 g3 c3 g4 c4 l1 l2 l3 l4 W) (hb : Below V4.heap.size V4 W') (hz : W.heap.size ≤ W'.heap.size) (hk : ∀ q, q < W.heap.size → q ≠ g1 → W'.heap[q]? = W.heap[q]?) (ho : OA W' 54 3 Sheet.cells g1 l1') : Bd s V4 b1 b2 g1 c1 g2 c2 g3 c3 g4 c4 l1' l2 l3 l4 W' :=
  ⟨(hk _ (lt_heapA h.r1) (row_oa h.o1 h.r1 (by decide))).trans h.r1, (hk _ (lt_heapA h.r2) (row_oa h.o1 h.r2 (by decide))).trans h.r2, ho, h.o2.blk (hk _ h.o2.lt (h.o2.ne h.o1 (by decide))) hz, h.o3.blk (hk _ h.o3.lt (Ne.symm h.n13)) hz, h.o4.blk (hk _ h.o4.lt (h.o4.ne h.o1 (by decide))) hz, hb, h.n13, h.n24, h.m1, h.m2, h.m3, h.m4⟩
theorem Bd.set2 (h : Bd s V4 b1 b2 g1 c1 g2 c2 g3 c3 g4 c4 l1 l2 l3 l4 W) (hb : Below V4.heap.size V4 W') (hz : W.heap.size ≤ W'.heap.size) (hk : ∀ q, q < W.heap.size → q ≠ g2 → W'.heap[q]? = W.heap[q]?) (ho : OA W' 59 4 Licence.cells g2 l2') : Bd s V4 b1 b2 g1 c1 g2 c2 g3 c3 g4 c4 l1 l2' l3 l4 W' :=
  ⟨(hk _ (lt_heapA h.r1) (row_oa h.o2 h.r1 (by decide))).trans h.r1, (hk _ (lt_heapA h.r2) (row_oa h.o2 h.r2 (by decide))).trans h.r2, h.o1.blk (hk _ h.o1.lt (h.o1.ne h.o2 (by decide))) hz, ho, h.o3.blk (hk _ h.o3.lt (h.o3.ne h.o2 (by decide))) hz, h.o4.blk (hk _ h.o4.lt (Ne.symm h.n24)) hz, hb, h.n13, h.n24, h.m1, h.m2, h.m3, h.m4⟩
theorem Bd.set3 (h : Bd s V4 b1 b2 g1 c1 g2 c2 g3 c3 g4 c4 l1 l2 l3 l4 W) (hb : Below V4.heap.size V4 W') (hz : W.heap.size ≤ W'.heap.size) (hk : ∀ q, q < W.heap.size → q ≠ g3 → W'.heap[q]? = W.heap[q]?) (ho : OA W' 54 3 Sheet.cells g3 l3') : Bd s V4 b1 b2 g1 c1 g2 c2 g3 c3 g4 c4 l1 l2 l3' l4 W' :=
  ⟨(hk _ (lt_heapA h.r1) (row_oa h.o3 h.r1 (by decide))).trans h.r1, (hk _ (lt_heapA h.r2) (row_oa h.o3 h.r2 (by decide))).trans h.r2, h.o1.blk (hk _ h.o1.lt h.n13) hz, h.o2.blk (hk _ h.o2.lt (h.o2.ne h.o3 (by decide))) hz, ho, h.o4.blk (hk _ h.o4.lt (h.o4.ne h.o3 (by decide))) hz, hb, h.n13, h.n24, h.m1, h.m2, h.m3, h.m4⟩
theorem Bd.set4 (h : Bd s V4 b1 b2 g1 c1 g2 c2 g3 c3 g4 c4 l1 l2 l3 l4 W) (hb : Below V4.heap.size V4 W') (hz : W.heap.size ≤ W'.heap.size) (hk : ∀ q, q < W.heap.size → q ≠ g4 → W'.heap[q]? = W.heap[q]?) (ho : OA W' 59 4 Licence.cells g4 l4') : Bd s V4 b1 b2 g1 c1 g2 c2 g3 c3 g4 c4 l1 l2 l3 l4' W' :=
  ⟨(hk _ (lt_heapA h.r1) (row_oa h.o4 h.r1 (by decide))).trans h.r1, (hk _ (lt_heapA h.r2) (row_oa h.o4 h.r2 (by decide))).trans h.r2, h.o1.blk (hk _ h.o1.lt (h.o1.ne h.o4 (by decide))) hz, h.o2.blk (hk _ h.o2.lt h.n24) hz, h.o3.blk (hk _ h.o3.lt (h.o3.ne h.o4 (by decide))) hz, ho, hb, h.n13, h.n24, h.m1, h.m2, h.m3, h.m4⟩
/-- One cell of an element is set. -/
theorem OA.set1 {α : Type} {e : TypeId} {size : Nat} {cells : α → List Value} {g k i : Nat} {l : List α} {y z : α} {x u : Value} (h : OA W e size cells g l) (hs : ∀ x, (cells x).length = size) (hz : l[k]? = some z) (hi : i < size) (hu : (cells z)[i]? = some u) (hy : cells y = (cells z).set i x) : OA (W.setCell ⟨g, k * size + i, none⟩ x) e size cells g (l.set k y) := by
  have hc := cell_set (v := x) (h.cellAt hz hu)
  refine h.upd hs hz (by rw [World.size_setCell]) (row_setAny h.2 x) (fun j v hj => ?_) (fun q hq => ?_)
  · rw [hc]
    rw [hy, List.getElem?_set] at hj
    by_cases e1 : i = j
    · subst e1
      rw [if_pos rfl, if_pos (by rw [hs]; exact hi)] at hj
      rw [if_pos rfl, hj]
    · rw [if_neg e1] at hj
      rw [if_neg (by omega)]
      exact h.cellAt hz hj
  · rw [hc, if_neg (by omega)]
theorem OA.set2 {α : Type} {e : TypeId} {size : Nat} {cells : α → List Value} {g k : Nat} {l : List α} {y z : α} {x0 x1 u0 u1 : Value} (h : OA W e size cells g l) (hs : ∀ x, (cells x).length = size) (hz : l[k]? = some z) (hi : 1 < size) (hu0 : (cells z)[0]? = some u0) (hu1 : (cells z)[1]? = some u1) (hy : cells y = ((cells z).set 0 x0).set 1 x1) : OA ((W.setCell ⟨g, k * size, none⟩ x0).setCell ⟨g, k * size + 1, none⟩ x1) e size cells g (l.set k y) := by
  have h0 := h.cellAt hz hu0
  rw [Nat.add_zero] at h0
  have hc0 := cell_set (v := x0) h0
  have h1 := (hc0 (k * size + 1)).trans ((if_neg (by omega)).trans (h.cellAt hz hu1))
  have hc := cell_set (v := x1) h1
  refine h.upd hs hz (by rw [World.size_setCell, World.size_setCell]) (row_setAny (row_setAny h.2 x0) x1) (fun j v hj => ?_) (fun q hq => ?_)
  · rw [hc, hc0]
    rw [hy, List.getElem?_set, List.getElem?_set] at hj
    by_cases e1 : 1 = j
    · subst e1
      rw [if_pos rfl, if_pos (by rw [List.length_set, hs]; exact hi)] at hj
      rw [if_pos rfl, hj]
    · rw [if_neg e1] at hj
      rw [if_neg (by omega)]
      by_cases e0 : 0 = j
      · subst e0
        rw [if_pos rfl, if_pos (by rw [hs]; omega)] at hj
        rw [if_pos (by omega), hj]
      · rw [if_neg e0] at hj
        rw [if_neg (by omega)]
        exact h.cellAt hz hj
  · rw [hc, if_neg (by omega), hc0, if_neg (by omega)]
/-- The copy, read as a store. -/
theorem copy_store {g1 g2 c1 c2 b1 : Nat} (hs : StoreAt W W.heap.size s) (o1 : OA W 54 3 Sheet.cells g1 l1) (o2 : OA W 59 4 Licence.cells g2 l2) (n1 : l1.length = s.sheets.length) (n2 : l2.length = s.lics.length)
    (r1 : W.heap[b1]? = some (.cells #[.slice (some ⟨g1, 0, none⟩) s.sheets.length c1, .slice (some ⟨g2, 0, none⟩) s.lics.length c2, .slice s.A3 s.makes.length s.c3, .slice s.A4 s.wishes.length s.c4] 27 (0, 0))) :
    ∃ x : Store, x = { s with sheets := l1, lics := l2, A1 := some ⟨g1, 0, none⟩, c1 := c1, A2 := some ⟨g2, 0, none⟩, c2 := c2 } ∧ StoreAt W W.heap.size x ∧ SBox W b1 x := by
  refine ⟨_, rfl, ⟨o1.1, o2.1, hs.makes, hs.takes, hs.wishes, by show l1.length ≤ _; rw [n1]; exact hs.l1, by show l2.length ≤ _; rw [n2]; exact hs.l2, hs.l3, hs.l4⟩, ⟨lt_heapA r1, (cell_of_row W _ 0 _ _ _ r1).trans ?_, (cell_of_row W _ 1 _ _ _ r1).trans ?_, (cell_of_row W _ 2 _ _ _ r1).trans rfl, (cell_of_row W _ 3 _ _ _ r1).trans rfl⟩⟩
  · show some _ = some (Value.slice _ l1.length _); rw [n1]; rfl
  · show some _ = some (Value.slice _ l2.length _); rw [n2]; rfl
end
theorem run_append_zero {P : Program} {w : World} (base : Nat) (t ty e : TypeId) (i : TypeInfo) (size : Nat) (ht : P.underlying t = some (.slice e)) (hi : P.info? e = some i) (v : Value) (n : Nat) (xs : List Value) (hown : w.ownsRow base e size v n xs) (A : Option Addr) (c : Nat) :
    (Builtin.append_ #[t, t] ty #[v, .slice A 0 c]).run P w = .ok v w := by
  rcases hown.2 with ⟨rfl, rfl⟩ | ⟨g, cap, cur, rfl, _, _, hnc, _⟩
  · cases A <;> simp [Builtin.append_, run_underlying ht, sizeOf, typeInfo, hi, Builtin.lenOf, Builtin.firstCells, loadCells, loadCellsFrom]
  · cases A <;> simp [Builtin.append_, run_underlying ht, sizeOf, typeInfo, hi, Builtin.lenOf, Builtin.firstCells, hnc, storeCells, loadCells, loadCellsFrom]
theorem step_append_zero {P : Program} {w : World} {ops : Array Oper} {o : Oper} {a : Act} {K : Act → World → Prop} {Q : Exit → Act → World → Prop} {E : Prop} (hgd : o.guard = none) (s x : Operand) (t : TypeId)
    (ho : o.op = .call { callee := .builtin .append, args := #[s, x], argTypes := #[t, t] }) (base : Nat) (e : TypeId) (i : TypeInfo) (size : Nat) (ht : P.underlying t = some (.slice e)) (hi : P.info? e = some i)
    (v : Value) (n : Nat) (xs : List Value) (hs : a.eval s = v) (hown : w.ownsRow base e size v n xs) (A : Option Addr) (c : Nat) (hx : a.eval x = .slice A 0 c) (h : K (a.put o.dst v) w) : if Region.wanted o (yielded ops a.tmps) = true then Oper.wp P o a w K Q else E := by
  have hw : Region.wanted o (yielded ops a.tmps) = true := by simp [Region.wanted, hgd]
  rw [if_pos hw]
  have hr := run_append_zero (P := P) (w := w) base t o.type e i size ht hi v n xs hown A c
  unfold Oper.wp execOp
  simp only [ho, resolve, invoke, builtin, Sem.run_bind, Sem.run_pure, Result.andThen_ok, List.map_toArray, List.map_cons, List.map_nil, hs, hx, hr]
  exact h
theorem step_store_rowA {P : Program} {ops : Array Oper} {o : Oper} {a : Act} {w : World} {K : Act → World → Prop} {Q : Exit → Act → World → Prop} {E : Prop} (hgd : o.guard = none) (ty : TypeId) (x y : Operand) (ho : o.op = .store ty x y)
    (g : Nat) (cells : Array Value) (hx : a.eval x = .pointer (some ⟨g, 0, none⟩)) (hy : a.eval y = .agg cells)
    (t : TypeId) (old : Array Value) (hg : w.heap[g]? = some (.cells old t (0, 0))) (hi : (P.info? ty).map (·.size) = some cells.size)
    (hold : old.size = cells.size) (h1 : cells.all (·.oneCell') = true)
    (h : K (a.put o.dst undef) (w.setRow g cells)) : if Region.wanted o (yielded ops a.tmps) = true then Oper.wp P o a w K Q else E := by
  have hw : Region.wanted o (yielded ops a.tmps) = true := by simp [Region.wanted, hgd]
  rw [if_pos hw]
  exact wp_store_row ty x y ho g cells hx hy t old hg hi hold h1 h
/-- Two copies of the store, each in a block of its own. -/
def M6 (s : Store) (V : World) (s14 s15 : Value) (W : World) : Prop := ∃ b14 b15, s14 = .pointer (some ⟨b14, 0, none⟩) ∧ s15 = .pointer (some ⟨b15, 0, none⟩) ∧ V.heap.size ≤ b14 ∧ V.heap.size ≤ b15 ∧ b14 ≠ b15 ∧ W.heap[b14]? = some (.cells #[.slice s.A1 s.sheets.length s.c1, .slice s.A2 s.lics.length s.c2, .slice s.A3 s.makes.length s.c3, .slice s.A4 s.wishes.length s.c4] 27 (0, 0)) ∧ W.heap[b15]? = some (.cells #[.slice s.A1 s.sheets.length s.c1, .slice s.A2 s.lics.length s.c2, .slice s.A3 s.makes.length s.c3, .slice s.A4 s.wishes.length s.c4] 27 (0, 0)) ∧ Below V.heap.size V W
theorem row4_set3 {w : World} {g : Nat} {a b c d : Value} {t : TypeId} {fr : Nat × Nat} (h : w.heap[g]? = some (.cells #[a, b, c, d] t fr)) (x : Value) : (w.setCell ⟨g, 3, none⟩ x).heap[g]? = some (.cells #[a, b, c, x] t fr) := by
  unfold World.setCell; rw [Array.getElem?_modify, if_pos rfl, h]; rfl
def mask18 : List (Option Nat) := [none, none, none, none, none, none, none, none, none, none, some 10, none, none, none, none, none, none, none, none, none, none, none, none, none, some 24, some 25, some 26, some 27, some 28, some 29, some 30, some 31, some 32, some 33, none, none, none, none, none, none, none, none, none, none, none, none, none, none, none, none, none, none, none, none, none, none, none, none, none, none, none, none, none, none, none, none, none, none, none, none, none, none, none, none, none, none, none, none, none, none, none, none, none, none, none, none, none, none, none, none, none, none, none, none, none, none, none, none, none, none, none, none, none, none, none, none, none, none, none, none, none, none, none, none, none, none, none, none, none, none, none, none, none, none, none, none, none, none, none, none, none, none, none, none, none, none, none, none, none, none, none, none, none, none, none, none, none, none, none, none, none, none, none, none, none, none, none, none, none, none, none, none, none, none, none, none, none, none, none, none, some 170, some 171, some 172, some 173, some 174, some 175, some 176, some 177, some 178, some 179, some 180, some 181, some 182, some 183, some 184, some 185, some 186, some 187, some 188, some 189, some 190, some 191, some 192, some 193, some 194, some 195, some 196, some 197, some 198, some 199, some 200, some 201, some 202, some 203, some 204, some 205, some 206, some 207, some 208, some 209, some 210, some 211, some 212, some 213, some 214, some 215, some 216, some 217, some 218, some 219, some 220, some 221, some 222, some 223, some 224, some 225, some 226, some 227, some 228, some 229, some 230, some 231, some 232, some 233, some 234, some 235, some 236, some 237, some 238, some 239, some 240, some 241, some 242, some 243, some 244, some 245, some 246, some 247, none, none, none, none, none, none, none, none, none, none, none, none, none, none, none, none, none, none, none, none, none, none, none, none, none, none, none, none, none, none, none, none, none, none, none, none, none, none]
def R18M (V : World) (i : Value) (W : World) : Prop := ∃ n : Nat, n ≤ 2 ∧ i = .int .i64 n ∧ Below V.heap.size V W
/-- What the longer list of orders leaves. -/
def MoreR (s : Store) (y : Wish) (V : World) (g34 : Nat) (W : World) : Prop := ∃ x, Lg s y x ∧ SBox W g34 x ∧ StoreAt W W.heap.size x ∧ Below V.heap.size V W
theorem MoreR.end {s : Store} {y : Wish} {V V18 W : World} {g34 g cap : Nat} (hs : StoreAt V V.heap.size s) (hV : Below V.heap.size V V18) (hc : Below V18.heap.size V18 W) (hg : V.heap.size ≤ g34) (hlt : g34 < V18.heap.size) (hr : W.heap[g34]? = some (.cells #[.slice s.A1 s.sheets.length s.c1, .slice s.A2 s.lics.length s.c2, .slice s.A3 s.makes.length s.c3, .slice s.A4 s.wishes.length s.c4] 27 (0, 0)))
    (ho : W.ownsRow V18.heap.size 57 5 (.slice (some ⟨g, 0, none⟩) (s.wishes.length + 1) cap) (s.wishes.length + 1) ((s.wishes ++ [y]).flatMap Wish.cells)) (hn : s.wishes.length ≤ 9) :
    MoreR s y V g34 (W.setCell ⟨g34, 3, none⟩ (.slice (some ⟨g, 0, none⟩) (s.wishes.length + 1) cap)) := by
  have hb : Below V.heap.size V (W.setCell ⟨g34, 3, none⟩ (.slice (some ⟨g, 0, none⟩) (s.wishes.length + 1) cap)) := (hV.trans (hc.mono hV.size)).setCell (p := ⟨g34, 3, none⟩) hg _
  have h1 := hs.next hb
  have hat := own_at wish_len (own_setCellA ho hlt 3 (.slice (some ⟨g, 0, none⟩) (s.wishes.length + 1) cap))
  have r := row4_set3 hr (.slice (some ⟨g, 0, none⟩) (s.wishes.length + 1) cap)
  refine ⟨{ s with wishes := s.wishes ++ [y], A4 := some ⟨g, 0, none⟩, c4 := cap }, ⟨_, _, rfl⟩, ⟨lt_heapA r, (cell_of_row _ _ 0 _ _ _ r).trans rfl, (cell_of_row _ _ 1 _ _ _ r).trans rfl, (cell_of_row _ _ 2 _ _ _ r).trans rfl, (cell_of_row _ _ 3 _ _ _ r).trans ?_⟩, ⟨h1.sheets, h1.lics, h1.makes, h1.takes, hat, h1.l1, h1.l2, h1.l3, ?_⟩, hb⟩
  · show some _ = some (Value.slice _ (s.wishes ++ [y]).length _); rw [List.length_append]; rfl
  · show (s.wishes ++ [y]).length ≤ _; rw [List.length_append]; show s.wishes.length + 1 ≤ _; omega
/-- The world behind the copies. -/
structure MW (s xr xc : Store) (y : Wish) (bs b1 b2 : Nat) (W : World) : Prop where
  aw : AwW s bs W
  yb : WBox W (bs + 1) y
  x1 : SBox W b1 xr
  x2 : SBox W b2 xc
  s1 : StoreAt W W.heap.size xr
  s2 : StoreAt W W.heap.size xc
theorem MW.next {s xr xc : Store} {y : Wish} {bs b1 b2 : Nat} {W W' : World} (h : MW s xr xc y bs b1 b2 W) (hb : Below W.heap.size W W') : MW s xr xc y bs b1 b2 W' := ⟨h.aw.next hb, h.yb.next hb, h.x1.next hb, h.x2.next hb, h.s1.next hb, h.s2.next hb⟩
theorem accept_x {x : Store} (ok : Ok x) (W : World) (hr : StoreAt W W.heap.size x) : Calls Tryd.prog 26 #[.agg #[.slice x.A1 x.sheets.length x.c1, .slice x.A2 x.lics.length x.c2, .slice x.A3 x.makes.length x.c3, .slice x.A4 x.wishes.length x.c4]] W (Ret3 (.int .i64 (acSet x)) (.int .i64 (G x (bestS x))) (.int .i64 0) W) := by
  have := Accept26_any x W hr
  rw [show acS x = 0 from if_pos ((ok_iff x).2 ok), show acGain x = G x (bestS x) from if_pos ((ok_iff x).2 ok)] at this; exact this
/-- One store's copies of the sheets and the licences. -/
def Mc (s : Store) (V4 V : World) (b : Nat) (W : World) : Prop := ∃ gS cS gL cL, W.heap[b]? = some (.cells #[.slice (some ⟨gS, 0, none⟩) s.sheets.length cS, .slice (some ⟨gL, 0, none⟩) s.lics.length cL, .slice s.A3 s.makes.length s.c3, .slice s.A4 s.wishes.length s.c4] 27 (0, 0)) ∧
  W.ownsRow V.heap.size 54 3 (.slice (some ⟨gS, 0, none⟩) s.sheets.length cS) s.sheets.length (s.sheets.flatMap Sheet.cells) ∧ W.ownsRow V.heap.size 59 4 (.slice (some ⟨gL, 0, none⟩) s.lics.length cL) s.lics.length (s.lics.flatMap Licence.cells) ∧
  (∀ k, k < V.heap.size → k ≠ b → W.heap[k]? = V.heap[k]?) ∧ Below V4.heap.size V4 W ∧ V.heap.size ≤ W.heap.size
theorem Mc.end {s : Store} {V4 V W : World} {b g1 c1 g2 c2 : Nat} (hb : V4.heap.size ≤ b) (hlt : b < V.heap.size) (hB : Below V4.heap.size V4 V) (hc : Below V.heap.size V W) (hr : W.heap[b]? = some (.cells #[.slice s.A1 s.sheets.length s.c1, .slice s.A2 s.lics.length s.c2, .slice s.A3 s.makes.length s.c3, .slice s.A4 s.wishes.length s.c4] 27 (0, 0)))
    (hS : W.ownsRow V.heap.size 54 3 (.slice (some ⟨g1, 0, none⟩) s.sheets.length c1) s.sheets.length (s.sheets.flatMap Sheet.cells)) (hL : W.ownsRow V.heap.size 59 4 (.slice (some ⟨g2, 0, none⟩) s.lics.length c2) s.lics.length (s.lics.flatMap Licence.cells)) :
    Mc s V4 V b ((W.setCell ⟨b, 0, none⟩ (.slice (some ⟨g1, 0, none⟩) s.sheets.length c1)).setCell ⟨b, 1, none⟩ (.slice (some ⟨g2, 0, none⟩) s.lics.length c2)) := by
  refine ⟨g1, c1, g2, c2, row4_set1 (row4_set0 hr _) _, own_setCellA (own_setCellA hS hlt 0 _) hlt 1 _, own_setCellA (own_setCellA hL hlt 0 _) hlt 1 _, fun k hk hne => ?_, ((hB.trans (hc.mono hB.size)).setCell (p := ⟨b, 0, none⟩) hb _).setCell (p := ⟨b, 1, none⟩) hb _, ?_⟩
  · rw [blk_set (Ne.symm hne), blk_set (Ne.symm hne)]; exact hc.block k hk
  · rw [World.size_setCell, World.size_setCell]; exact hc.size
/-- A region of a code. -/
def regCode (n : Nat) : Code → Option Code
  | .region m ops d => if m = n then some (.region m ops d) else none
  | .loop c => regCode n c
  | .seq a b => match regCode n a with
    | some c => some c
    | none => regCode n b
  | .block _ c => regCode n c
  | .scope c => regCode n c
  | .cond _ a b => match regCode n a with
    | some c => some c
    | none => regCode n b
  | _ => none
noncomputable def moreReg : Code := ((Tryd.f10.body.bind (regCode 31)).getD .skip)
set_option maxRecDepth 100000 in
set_option maxHeartbeats 40000000 in
theorem more31E {s xr xc : Store} {y : Wish} {bs b14 b15 : Nat} {wr V18 : World} {u0 u1 u2 u3 u4 u6 u8 u9 u10 u11 u12 u13 u14 u15 u16 u17 u18 u19 u20 u21 u22 u23 u24 u25 u26 u27 u28 u29 u30 u31 u32 u33 u35 u36 u37 u38 u39 u40 u41 u42 u43 u44 u45 u46 u47 u48 u49 u50 u51 u52 u53 u54 u55 u56 u57 u58 u59 u60 u61 u62 u63 u64 u65 u66 u67 u68 u69 u70 u71 u72 u73 u74 u75 u76 u77 u78 u79 u80 u81 u82 u83 u84 u85 u86 u87 u88 u89 u90 u91 u92 u93 u94 u95 u96 u97 u98 u99 u100 u101 u102 u103 u104 u105 u106 u107 u108 u109 u110 u111 u112 u113 u114 u115 u116 u117 u118 u119 u120 u121 u122 u123 u124 u125 u126 u127 u128 u129 u130 u131 u132 u133 u134 u135 u136 u137 u138 u139 u140 u141 u142 u143 u144 u145 u146 u147 u148 u149 u150 u151 u152 u153 u154 u155 u156 u157 u158 u159 u160 u161 u162 u163 u164 u165 u166 u167 u168 u169 u170 u171 u172 u173 u174 u175 u176 u177 u178 u179 u180 u181 u182 u183 u184 u185 u186 u187 u188 u189 u190 u191 u192 u193 u194 u195 u196 u197 u198 u199 u200 u201 u202 u203 u204 u205 u206 u207 u208 u209 u210 u211 u212 u213 u214 u215 u216 u217 u218 u219 u220 u221 u222 u223 u224 u225 u226 u227 u228 u229 u230 u231 u232 u233 u234 u235 u236 u237 u238 u239 u240 u241 u242 u243 u244 u245 u246 u247 u248 u249 u250 u251 u252 u253 u254 u255 u256 u257 u258 u259 u260 u261 u262 u263 u264 u265 u266 u267 u268 u269 u270 u271 u272 u273 u274 u275 u276 u277 u278 u279 u280 u281 u282 u283 u284 u285 : Value} {Q : Exit → Act → World → Prop}
    (K17 : Hid (MW s xr xc y bs b14 b15 wr)) (K18 : Hid (MW s xr xc y bs b14 b15 V18)) (hB18 : Below wr.heap.size wr V18) (r34 : V18.heap[wr.heap.size]? = some (.cells #[.slice s.A1 s.sheets.length s.c1, .slice s.A2 s.lics.length s.c2, .slice s.A3 s.makes.length s.c3, .slice s.A4 s.wishes.length s.c4] 27 (0, 0))) (hlt : wr.heap.size < V18.heap.size) (hyl : bs + 1 < wr.heap.size) (hw0 : s.wishes.length = 0)
    (hQ : ∀ (y254 y255 y256 y257 y258 y259 y260 y261 : Value) (W : World), MoreR s y wr wr.heap.size W → Q .normal ⟨#[u0, u1, u2, u3, u4, .pointer (some ⟨bs, 0, none⟩), u6, .pointer (some ⟨bs + 1, 0, none⟩), u8, u9, u10, u11, u12, u13, u14, u15, u16, u17, u18, u19, u20, u21, u22, u23, u24, u25, u26, u27, u28, u29, u30, u31, u32, u33, .pointer (some ⟨wr.heap.size, 0, none⟩), u35, u36, u37, u38, u39, u40, u41, u42, u43, u44, u45, u46, u47, u48, u49, u50, u51, u52, u53, u54, u55, u56, u57, u58, u59, u60, u61, u62, u63, u64, u65, u66, u67, u68, u69, u70, u71, u72, u73, u74, u75, u76, u77, u78, u79, u80, u81, u82, u83, u84, u85, u86, u87, u88, u89, u90, u91, u92, u93, u94, u95, u96, u97, u98, u99, u100, u101, u102, u103, u104, u105, u106, u107, u108, u109, u110, u111, u112, u113, u114, u115, u116, u117, u118, u119, u120, u121, u122, u123, u124, u125, u126, u127, u128, u129, u130, u131, u132, u133, u134, u135, u136, u137, u138, u139, u140, u141, u142, u143, u144, u145, u146, u147, u148, u149, u150, u151, u152, u153, u154, u155, u156, u157, u158, u159, u160, u161, u162, u163, u164, u165, u166, u167, u168, u169, u170, u171, u172, u173, u174, u175, u176, u177, u178, u179, u180, u181, u182, u183, u184, u185, u186, u187, u188, u189, u190, u191, u192, u193, u194, u195, u196, u197, u198, u199, u200, u201, u202, u203, u204, u205, u206, u207, u208, u209, u210, u211, u212, u213, u214, u215, u216, u217, u218, u219, u220, u221, u222, u223, u224, u225, u226, u227, u228, u229, u230, u231, u232, u233, u234, u235, u236, u237, u238, u239, u240, u241, u242, u243, u244, u245, u246, u247, u248, u249, u250, u251, u252, u253, y254, y255, y256, y257, y258, y259, y260, y261, u262, u263, u264, u265, u266, u267, u268, u269, u270, u271, u272, u273, u274, u275, u276, u277, u278, u279, u280, u281, u282, u283, u284, u285], []⟩ W) : moreReg.wp Tryd.prog Q ⟨#[u0, u1, u2, u3, u4, .pointer (some ⟨bs, 0, none⟩), u6, .pointer (some ⟨bs + 1, 0, none⟩), u8, u9, u10, u11, u12, u13, u14, u15, u16, u17, u18, u19, u20, u21, u22, u23, u24, u25, u26, u27, u28, u29, u30, u31, u32, u33, .pointer (some ⟨wr.heap.size, 0, none⟩), u35, u36, u37, u38, u39, u40, u41, u42, u43, u44, u45, u46, u47, u48, u49, u50, u51, u52, u53, u54, u55, u56, u57, u58, u59, u60, u61, u62, u63, u64, u65, u66, u67, u68, u69, u70, u71, u72, u73, u74, u75, u76, u77, u78, u79, u80, u81, u82, u83, u84, u85, u86, u87, u88, u89, u90, u91, u92, u93, u94, u95, u96, u97, u98, u99, u100, u101, u102, u103, u104, u105, u106, u107, u108, u109, u110, u111, u112, u113, u114, u115, u116, u117, u118, u119, u120, u121, u122, u123, u124, u125, u126, u127, u128, u129, u130, u131, u132, u133, u134, u135, u136, u137, u138, u139, u140, u141, u142, u143, u144, u145, u146, u147, u148, u149, u150, u151, u152, u153, u154, u155, u156, u157, u158, u159, u160, u161, u162, u163, u164, u165, u166, u167, u168, u169, u170, u171, u172, u173, u174, u175, u176, u177, u178, u179, u180, u181, u182, u183, u184, u185, u186, u187, u188, u189, u190, u191, u192, u193, u194, u195, u196, u197, u198, u199, u200, u201, u202, u203, u204, u205, u206, u207, u208, u209, u210, u211, u212, u213, u214, u215, u216, u217, u218, u219, u220, u221, u222, u223, u224, u225, u226, u227, u228, u229, u230, u231, u232, u233, u234, u235, u236, u237, u238, u239, u240, u241, u242, u243, u244, u245, u246, u247, u248, u249, u250, u251, u252, u253, u254, u255, u256, u257, u258, u259, u260, u261, u262, u263, u264, u265, u266, u267, u268, u269, u270, u271, u272, u273, u274, u275, u276, u277, u278, u279, u280, u281, u282, u283, u284, u285], []⟩ V18 := by
  conv => arg 2; whnf
  obtain ⟨iw, hi, hz0, hz1, hz2⟩ := info_parts wish_info
  have hp3 := K18.out.aw.bx.c3
  rw [hw0] at hp3
  have HW0 := Lib.hid hw0
  clear hw0
  have HO := Lib.hid (show ∀ u ∈ s.wishes.flatMap Wish.cells, u.oneCell' = true from fun u hu => by
    obtain ⟨x, -, hx⟩ := List.mem_flatMap.1 hu
    simp [Wish.cells] at hx
    rcases hx with rfl | rfl | rfl | rfl | rfl <;> rfl)
  obtain ⟨-, u0, u1, u2, u3, u4⟩ := id K18.out.yb
  have HS := Lib.hid (show ∀ W : World, (∀ b o, b < wr.heap.size → W.cell? ⟨b, o, none⟩ = V18.cell? ⟨b, o, none⟩) → (W.cell? ⟨bs, 3, none⟩ = some (.slice s.A4 0 s.c4) ∧ W.cell? ⟨bs + 1, 0, none⟩ = some (.int .i64 y.puz) ∧ W.cell? ⟨bs + 1, 1, none⟩ = some (.int .i64 y.many) ∧ W.cell? ⟨bs + 1, 2, none⟩ = some (.int .i64 y.hour) ∧ W.cell? ⟨bs + 1, 3, none⟩ = some (.int .i64 y.price) ∧ W.cell? ⟨bs + 1, 4, none⟩ = some (.int .i64 y.ship)) from fun W h => ⟨(h _ _ (by omega)).trans hp3, (h _ _ hyl).trans u0, (h _ _ hyl).trans u1, (h _ _ hyl).trans u2, (h _ _ hyl).trans u3, (h _ _ hyl).trans u4⟩)
  clear hp3 u0 u1 u2 u3 u4
  have hc : Below V18.heap.size V18 V18.drew := (Below.refl _ _).drew
  refine wp_region_noPanic ?_
  refine wp_region_held_drew (S := (fun W => (W.cell? ⟨bs, 3, none⟩ = some (.slice s.A4 0 s.c4) ∧ W.cell? ⟨bs + 1, 0, none⟩ = some (.int .i64 y.puz) ∧ W.cell? ⟨bs + 1, 1, none⟩ = some (.int .i64 y.many) ∧ W.cell? ⟨bs + 1, 2, none⟩ = some (.int .i64 y.hour) ∧ W.cell? ⟨bs + 1, 3, none⟩ = some (.int .i64 y.price) ∧ W.cell? ⟨bs + 1, 4, none⟩ = some (.int .i64 y.ship)))) (by as_aux_lemma => kernel_rfl) ?_ (fun hHeld => ?_)
  · (try dsimp only); exact HS.out _ (fun b o hlt => (bcell hc).1 _ _ (by omega))
  refine htake (i := 1) (v := ?v1) rfl (by as_aux_lemma => kernel_rfl) (by as_aux_lemma => kernel_rfl) (by as_aux_lemma => kernel_rfl) (fun _ _ _ h => h) (Or.inl ⟨by rfl, ?hy1⟩) (by assumption) ?_
  case hy1 => (intro w hSw; (try dsimp only at hSw); go_simp; try (with_reducible rfl))
  try simp only [Act.put, List.setIfInBounds_toArray, List.set_cons_zero, List.set_cons_succ]
  refine htake (i := 2) (v := ?v2) rfl (by as_aux_lemma => kernel_rfl) (by as_aux_lemma => kernel_rfl) (by as_aux_lemma => kernel_rfl) (fun _ _ _ h => h) (Or.inl ⟨by rfl, ?hy2⟩) (by assumption) ?_
  case hy2 => (intro w hSw; (try dsimp only at hSw); go_simp; try (with_reducible rfl))
  try simp only [Act.put, List.setIfInBounds_toArray, List.set_cons_zero, List.set_cons_succ]
  refine htake (i := 4) (v := ?v3) rfl (by as_aux_lemma => kernel_rfl) (by as_aux_lemma => kernel_rfl) (by as_aux_lemma => kernel_rfl) (fun _ _ _ h => h) (Or.inl ⟨by rfl, ?hy3⟩) (by assumption) ?_
  case hy3 => (intro w hSw; (try dsimp only at hSw); go_simp; try (with_reducible rfl))
  try simp only [Act.put, List.setIfInBounds_toArray, List.set_cons_zero, List.set_cons_succ]
  refine wpAnyH_ready (rs := [0, 5]) (by as_aux_lemma => kernel_rfl) (by simp) ?_
  refine hcons rfl (fun K hK => ?_) (hcons rfl (fun K hK => ?_) (AllReadyH.nil))
  go_simp
  have hown := own_empty hc 57 5; (try replace h5 := al_oldA h5 (.cells #[] 57)); replace hc := hc.alloc hc.size (.cells #[] 57); (try simp only [World.size_alloc] at hown); (try simp only [sz_drewA] at hown)
  refine hK.out _ _ ?_ (fun hHeld => ?_)
  · (try dsimp only); exact HS.out _ (fun b o hlt => (bcell hc).1 _ _ (by omega))
  clear hK K
  try simp only [Act.put, List.setIfInBounds_toArray, List.set_cons_zero, List.set_cons_succ]
  refine wpAnyH_ready (rs := [3, 5]) (by as_aux_lemma => kernel_rfl) (by simp) ?_
  refine hcons rfl (fun K hK => ?_) (hcons rfl (fun K hK => ?_) (AllReadyH.nil))
  (refine step_append_zero rfl (.tmp 254) (.tmp 256) 25 rfl V18.heap.size 57 iw 5 Tryd.underlying25 hi (.slice (some ⟨_, 0, none⟩) 0 0) 0 [] rfl hown s.A4 s.c4 rfl ?_)
  refine hK.out _ _ ?_ (fun hHeld => ?_)
  · (try dsimp only); exact HS.out _ (fun b o hlt => (bcell hc).1 _ _ (by omega))
  clear hK K
  try simp only [Act.put, List.setIfInBounds_toArray, List.set_cons_zero, List.set_cons_succ]
  refine wpAnyH_ready (rs := [5]) (by as_aux_lemma => kernel_rfl) (by simp) ?_
  refine hcons rfl (fun K hK => ?_) (AllReadyH.nil)
  go_simp
  have h5 := al_newA hc (.cells #[.int .i64 y.puz, .int .i64 y.many, .int .i64 y.hour, .int .i64 y.price, .int .i64 y.ship] 57); (try replace hown := hown.alloc (.cells #[.int .i64 y.puz, .int .i64 y.many, .int .i64 y.hour, .int .i64 y.price, .int .i64 y.ship] 57)); replace hc := hc.alloc hc.size (.cells #[.int .i64 y.puz, .int .i64 y.many, .int .i64 y.hour, .int .i64 y.price, .int .i64 y.ship] 57); (try simp only [World.size_alloc] at h5); (try simp only [sz_drewA] at h5)
  refine hK.out _ _ ?_ (fun hHeld => ?_)
  · (try dsimp only); exact HS.out _ (fun b o hlt => (bcell hc).1 _ _ (by omega))
  clear hK K
  try simp only [Act.put, List.setIfInBounds_toArray, List.set_cons_zero, List.set_cons_succ]
  refine wpAnyH_ready (rs := [6]) (by as_aux_lemma => kernel_rfl) (by simp) ?_
  refine hcons rfl (fun K hK => ?_) (AllReadyH.nil)
  (refine step_append_lies _ rfl (.tmp 257) (.tmp 259) 25 rfl V18.heap.size 57 iw (.agg #[.int .i64 0, .int .i64 0, .int .i64 0, .int .i64 0, .int .i64 0]) 5 40 Tryd.underlying25 hi hz0 hz1 hz2 rfl (by decide) (.slice (some ⟨_, 0, none⟩) 0 0) 0 [] rfl hown ⟨_, 0, none⟩ 1 1 [.int .i64 y.puz, .int .i64 y.many, .int .i64 y.hour, .int .i64 y.price, .int .i64 y.ship] rfl rfl (row_five h5) (by simp [Value.oneCell']) (by omega) (by unfold maxLen; omega) (by omega) hc.size _ rfl ?_); intro g6 cap6 w6 hown6 hgrow6 hgg6 hlt6; replace hc := grow_below hc hgrow6 (fun k hk => (hown.lt k hk).1); have q12 := (hc.block wr.heap.size hlt).trans r34; have cf3 : w6.frozen? ⟨wr.heap.size, 3, none⟩ = false := frozen_of_row w6 _ 3 _ _ q12; have cc3 : w6.cell? ⟨wr.heap.size, 3, none⟩ = some (.slice s.A4 s.wishes.length s.c4) := (cell_of_row w6 _ 3 _ _ _ q12).trans rfl
  refine hK.out _ _ ?_ (fun hHeld => ?_)
  · (try dsimp only); exact HS.out _ (fun b o hlt => (bcell hc).1 _ _ (by omega))
  clear hK K
  try simp only [Act.put, List.setIfInBounds_toArray, List.set_cons_zero, List.set_cons_succ]
  refine htake (i := 7) (v := ?v4) rfl (by as_aux_lemma => kernel_rfl) (by as_aux_lemma => kernel_rfl) (by as_aux_lemma => kernel_rfl) (fun _ _ _ h => h) (Or.inl ⟨by rfl, ?hy4⟩) (by assumption) ?_
  case hy4 => (intro w hSw; (try dsimp only at hSw); go_simp; try (with_reducible rfl))
  try simp only [Act.put, List.setIfInBounds_toArray, List.set_cons_zero, List.set_cons_succ]
  refine wpAnyH_ready (rs := [8]) (by as_aux_lemma => kernel_rfl) (by simp) ?_
  refine hcons rfl (fun K hK => ?_) (AllReadyH.nil)
  go_simp
  skip
  refine hK.out _ _ ?_ (fun hHeld => ?_)
  · (try dsimp only); exact HS.out _ (fun b o hlt => (World.cell?_setCell_other _ _ _ _ (by intro e; injection e with e; omega)).trans ((bcell hc).1 _ _ (by omega)))
  clear hK K
  try simp only [Act.put, List.setIfInBounds_toArray, List.set_cons_zero, List.set_cons_succ]
  refine wpAnyH_done (by as_aux_lemma => kernel_rfl) ?_ _
  refine NoPanic.normal ?_
  rotate_left
  go_simp
  have h5 := al_newA hc (.cells #[.int .i64 y.puz, .int .i64 y.many, .int .i64 y.hour, .int .i64 y.price, .int .i64 y.ship] 57); (try replace hown := hown.alloc (.cells #[.int .i64 y.puz, .int .i64 y.many, .int .i64 y.hour, .int .i64 y.price, .int .i64 y.ship] 57)); replace hc := hc.alloc hc.size (.cells #[.int .i64 y.puz, .int .i64 y.many, .int .i64 y.hour, .int .i64 y.price, .int .i64 y.ship] 57); (try simp only [World.size_alloc] at h5); (try simp only [sz_drewA] at h5)
  refine hK.out _ _ ?_ (fun hHeld => ?_)
  · (try dsimp only); exact HS.out _ (fun b o hlt => (bcell hc).1 _ _ (by omega))
  clear hK K
  try simp only [Act.put, List.setIfInBounds_toArray, List.set_cons_zero, List.set_cons_succ]
  refine wpAnyH_ready (rs := [3]) (by as_aux_lemma => kernel_rfl) (by simp) ?_
  refine hcons rfl (fun K hK => ?_) (AllReadyH.nil)
  (refine step_append_zero rfl (.tmp 254) (.tmp 256) 25 rfl V18.heap.size 57 iw 5 Tryd.underlying25 hi (.slice (some ⟨_, 0, none⟩) 0 0) 0 [] rfl hown s.A4 s.c4 rfl ?_)
  refine hK.out _ _ ?_ (fun hHeld => ?_)
  · (try dsimp only); exact HS.out _ (fun b o hlt => (bcell hc).1 _ _ (by omega))
  clear hK K
  try simp only [Act.put, List.setIfInBounds_toArray, List.set_cons_zero, List.set_cons_succ]
  refine wpAnyH_ready (rs := [6]) (by as_aux_lemma => kernel_rfl) (by simp) ?_
  refine hcons rfl (fun K hK => ?_) (AllReadyH.nil)
  (refine step_append_lies _ rfl (.tmp 257) (.tmp 259) 25 rfl V18.heap.size 57 iw (.agg #[.int .i64 0, .int .i64 0, .int .i64 0, .int .i64 0, .int .i64 0]) 5 40 Tryd.underlying25 hi hz0 hz1 hz2 rfl (by decide) (.slice (some ⟨_, 0, none⟩) 0 0) 0 [] rfl hown ⟨_, 0, none⟩ 1 1 [.int .i64 y.puz, .int .i64 y.many, .int .i64 y.hour, .int .i64 y.price, .int .i64 y.ship] rfl rfl (row_five h5) (by simp [Value.oneCell']) (by omega) (by unfold maxLen; omega) (by omega) hc.size _ rfl ?_); intro g6 cap6 w6 hown6 hgrow6 hgg6 hlt6; replace hc := grow_below hc hgrow6 (fun k hk => (hown.lt k hk).1); have q12 := (hc.block wr.heap.size hlt).trans r34; have cf3 : w6.frozen? ⟨wr.heap.size, 3, none⟩ = false := frozen_of_row w6 _ 3 _ _ q12; have cc3 : w6.cell? ⟨wr.heap.size, 3, none⟩ = some (.slice s.A4 s.wishes.length s.c4) := (cell_of_row w6 _ 3 _ _ _ q12).trans rfl
  refine hK.out _ _ ?_ (fun hHeld => ?_)
  · (try dsimp only); exact HS.out _ (fun b o hlt => (bcell hc).1 _ _ (by omega))
  clear hK K
  try simp only [Act.put, List.setIfInBounds_toArray, List.set_cons_zero, List.set_cons_succ]
  refine htake (i := 7) (v := ?v5) rfl (by as_aux_lemma => kernel_rfl) (by as_aux_lemma => kernel_rfl) (by as_aux_lemma => kernel_rfl) (fun _ _ _ h => h) (Or.inl ⟨by rfl, ?hy5⟩) (by assumption) ?_
  case hy5 => (intro w hSw; (try dsimp only at hSw); go_simp; try (with_reducible rfl))
  try simp only [Act.put, List.setIfInBounds_toArray, List.set_cons_zero, List.set_cons_succ]
  refine wpAnyH_ready (rs := [8]) (by as_aux_lemma => kernel_rfl) (by simp) ?_
  refine hcons rfl (fun K hK => ?_) (AllReadyH.nil)
  go_simp
  skip
  refine hK.out _ _ ?_ (fun hHeld => ?_)
  · (try dsimp only); exact HS.out _ (fun b o hlt => (World.cell?_setCell_other _ _ _ _ (by intro e; injection e with e; omega)).trans ((bcell hc).1 _ _ (by omega)))
  clear hK K
  try simp only [Act.put, List.setIfInBounds_toArray, List.set_cons_zero, List.set_cons_succ]
  refine wpAnyH_done (by as_aux_lemma => kernel_rfl) ?_ _
  refine NoPanic.normal ?_
  rotate_left
  go_simp
  have h5 := al_newA hc (.cells #[.int .i64 y.puz, .int .i64 y.many, .int .i64 y.hour, .int .i64 y.price, .int .i64 y.ship] 57); (try replace hown := hown.alloc (.cells #[.int .i64 y.puz, .int .i64 y.many, .int .i64 y.hour, .int .i64 y.price, .int .i64 y.ship] 57)); replace hc := hc.alloc hc.size (.cells #[.int .i64 y.puz, .int .i64 y.many, .int .i64 y.hour, .int .i64 y.price, .int .i64 y.ship] 57); (try simp only [World.size_alloc] at h5); (try simp only [sz_drewA] at h5)
  refine hK.out _ _ ?_ (fun hHeld => ?_)
  · (try dsimp only); exact HS.out _ (fun b o hlt => (bcell hc).1 _ _ (by omega))
  clear hK K
  try simp only [Act.put, List.setIfInBounds_toArray, List.set_cons_zero, List.set_cons_succ]
  refine wpAnyH_ready (rs := [0]) (by as_aux_lemma => kernel_rfl) (by simp) ?_
  refine hcons rfl (fun K hK => ?_) (AllReadyH.nil)
  go_simp
  have hown := own_empty hc 57 5; (try replace h5 := al_oldA h5 (.cells #[] 57)); replace hc := hc.alloc hc.size (.cells #[] 57); (try simp only [World.size_alloc] at hown); (try simp only [sz_drewA] at hown)
  refine hK.out _ _ ?_ (fun hHeld => ?_)
  · (try dsimp only); exact HS.out _ (fun b o hlt => (bcell hc).1 _ _ (by omega))
  clear hK K
  try simp only [Act.put, List.setIfInBounds_toArray, List.set_cons_zero, List.set_cons_succ]
  refine wpAnyH_ready (rs := [3]) (by as_aux_lemma => kernel_rfl) (by simp) ?_
  refine hcons rfl (fun K hK => ?_) (AllReadyH.nil)
  (refine step_append_zero rfl (.tmp 254) (.tmp 256) 25 rfl V18.heap.size 57 iw 5 Tryd.underlying25 hi (.slice (some ⟨_, 0, none⟩) 0 0) 0 [] rfl hown s.A4 s.c4 rfl ?_)
  refine hK.out _ _ ?_ (fun hHeld => ?_)
  · (try dsimp only); exact HS.out _ (fun b o hlt => (bcell hc).1 _ _ (by omega))
  clear hK K
  try simp only [Act.put, List.setIfInBounds_toArray, List.set_cons_zero, List.set_cons_succ]
  refine wpAnyH_ready (rs := [6]) (by as_aux_lemma => kernel_rfl) (by simp) ?_
  refine hcons rfl (fun K hK => ?_) (AllReadyH.nil)
  (refine step_append_lies _ rfl (.tmp 257) (.tmp 259) 25 rfl V18.heap.size 57 iw (.agg #[.int .i64 0, .int .i64 0, .int .i64 0, .int .i64 0, .int .i64 0]) 5 40 Tryd.underlying25 hi hz0 hz1 hz2 rfl (by decide) (.slice (some ⟨_, 0, none⟩) 0 0) 0 [] rfl hown ⟨_, 0, none⟩ 1 1 [.int .i64 y.puz, .int .i64 y.many, .int .i64 y.hour, .int .i64 y.price, .int .i64 y.ship] rfl rfl (row_five h5) (by simp [Value.oneCell']) (by omega) (by unfold maxLen; omega) (by omega) hc.size _ rfl ?_); intro g6 cap6 w6 hown6 hgrow6 hgg6 hlt6; replace hc := grow_below hc hgrow6 (fun k hk => (hown.lt k hk).1); have q12 := (hc.block wr.heap.size hlt).trans r34; have cf3 : w6.frozen? ⟨wr.heap.size, 3, none⟩ = false := frozen_of_row w6 _ 3 _ _ q12; have cc3 : w6.cell? ⟨wr.heap.size, 3, none⟩ = some (.slice s.A4 s.wishes.length s.c4) := (cell_of_row w6 _ 3 _ _ _ q12).trans rfl
  refine hK.out _ _ ?_ (fun hHeld => ?_)
  · (try dsimp only); exact HS.out _ (fun b o hlt => (bcell hc).1 _ _ (by omega))
  clear hK K
  try simp only [Act.put, List.setIfInBounds_toArray, List.set_cons_zero, List.set_cons_succ]
  refine htake (i := 7) (v := ?v6) rfl (by as_aux_lemma => kernel_rfl) (by as_aux_lemma => kernel_rfl) (by as_aux_lemma => kernel_rfl) (fun _ _ _ h => h) (Or.inl ⟨by rfl, ?hy6⟩) (by assumption) ?_
  case hy6 => (intro w hSw; (try dsimp only at hSw); go_simp; try (with_reducible rfl))
  try simp only [Act.put, List.setIfInBounds_toArray, List.set_cons_zero, List.set_cons_succ]
  refine wpAnyH_ready (rs := [8]) (by as_aux_lemma => kernel_rfl) (by simp) ?_
  refine hcons rfl (fun K hK => ?_) (AllReadyH.nil)
  go_simp
  skip
  refine hK.out _ _ ?_ (fun hHeld => ?_)
  · (try dsimp only); exact HS.out _ (fun b o hlt => (World.cell?_setCell_other _ _ _ _ (by intro e; injection e with e; omega)).trans ((bcell hc).1 _ _ (by omega)))
  clear hK K
  try simp only [Act.put, List.setIfInBounds_toArray, List.set_cons_zero, List.set_cons_succ]
  refine wpAnyH_done (by as_aux_lemma => kernel_rfl) ?_ _
  refine NoPanic.normal ?_
  iterate 10 (try clear hHeld)
  all_goals
    refine hQ _ _ _ _ _ _ _ _ _ ?_
    have hw0 := HW0.out
    have el : s.wishes = [] := List.eq_nil_of_length_eq_zero hw0
    have ho : w6.ownsRow V18.heap.size 57 5 (.slice (some ⟨g6, 0, none⟩) (s.wishes.length + 1) cap6) (s.wishes.length + 1) ((s.wishes ++ [y]).flatMap Wish.cells) := by rw [el]; exact hown6
    have h1 := MoreR.end K17.out.aw.st hB18 hc (Nat.le_refl _) hlt q12 ho (by omega)
    rw [hw0] at h1
    exact h1
set_option maxRecDepth 100000 in
set_option maxHeartbeats 40000000 in
theorem more31F {s xr xc : Store} {y : Wish} {bs b14 b15 : Nat} {wr V18 : World} {u0 u1 u2 u3 u4 u6 u8 u9 u10 u11 u12 u13 u14 u15 u16 u17 u18 u19 u20 u21 u22 u23 u24 u25 u26 u27 u28 u29 u30 u31 u32 u33 u35 u36 u37 u38 u39 u40 u41 u42 u43 u44 u45 u46 u47 u48 u49 u50 u51 u52 u53 u54 u55 u56 u57 u58 u59 u60 u61 u62 u63 u64 u65 u66 u67 u68 u69 u70 u71 u72 u73 u74 u75 u76 u77 u78 u79 u80 u81 u82 u83 u84 u85 u86 u87 u88 u89 u90 u91 u92 u93 u94 u95 u96 u97 u98 u99 u100 u101 u102 u103 u104 u105 u106 u107 u108 u109 u110 u111 u112 u113 u114 u115 u116 u117 u118 u119 u120 u121 u122 u123 u124 u125 u126 u127 u128 u129 u130 u131 u132 u133 u134 u135 u136 u137 u138 u139 u140 u141 u142 u143 u144 u145 u146 u147 u148 u149 u150 u151 u152 u153 u154 u155 u156 u157 u158 u159 u160 u161 u162 u163 u164 u165 u166 u167 u168 u169 u170 u171 u172 u173 u174 u175 u176 u177 u178 u179 u180 u181 u182 u183 u184 u185 u186 u187 u188 u189 u190 u191 u192 u193 u194 u195 u196 u197 u198 u199 u200 u201 u202 u203 u204 u205 u206 u207 u208 u209 u210 u211 u212 u213 u214 u215 u216 u217 u218 u219 u220 u221 u222 u223 u224 u225 u226 u227 u228 u229 u230 u231 u232 u233 u234 u235 u236 u237 u238 u239 u240 u241 u242 u243 u244 u245 u246 u247 u248 u249 u250 u251 u252 u253 u254 u255 u256 u257 u258 u259 u260 u261 u262 u263 u264 u265 u266 u267 u268 u269 u270 u271 u272 u273 u274 u275 u276 u277 u278 u279 u280 u281 u282 u283 u284 u285 : Value} {Q : Exit → Act → World → Prop}
    (K17 : Hid (MW s xr xc y bs b14 b15 wr)) (K18 : Hid (MW s xr xc y bs b14 b15 V18)) (hB18 : Below wr.heap.size wr V18) (r34 : V18.heap[wr.heap.size]? = some (.cells #[.slice s.A1 s.sheets.length s.c1, .slice s.A2 s.lics.length s.c2, .slice s.A3 s.makes.length s.c3, .slice s.A4 s.wishes.length s.c4] 27 (0, 0))) (hlt : wr.heap.size < V18.heap.size) (hyl : bs + 1 < wr.heap.size) (hn9 : ¬ 9 ≤ s.wishes.length) (hw0 : ¬ s.wishes.length = 0)
    (hQ : ∀ (y254 y255 y256 y257 y258 y259 y260 y261 : Value) (W : World), MoreR s y wr wr.heap.size W → Q .normal ⟨#[u0, u1, u2, u3, u4, .pointer (some ⟨bs, 0, none⟩), u6, .pointer (some ⟨bs + 1, 0, none⟩), u8, u9, u10, u11, u12, u13, u14, u15, u16, u17, u18, u19, u20, u21, u22, u23, u24, u25, u26, u27, u28, u29, u30, u31, u32, u33, .pointer (some ⟨wr.heap.size, 0, none⟩), u35, u36, u37, u38, u39, u40, u41, u42, u43, u44, u45, u46, u47, u48, u49, u50, u51, u52, u53, u54, u55, u56, u57, u58, u59, u60, u61, u62, u63, u64, u65, u66, u67, u68, u69, u70, u71, u72, u73, u74, u75, u76, u77, u78, u79, u80, u81, u82, u83, u84, u85, u86, u87, u88, u89, u90, u91, u92, u93, u94, u95, u96, u97, u98, u99, u100, u101, u102, u103, u104, u105, u106, u107, u108, u109, u110, u111, u112, u113, u114, u115, u116, u117, u118, u119, u120, u121, u122, u123, u124, u125, u126, u127, u128, u129, u130, u131, u132, u133, u134, u135, u136, u137, u138, u139, u140, u141, u142, u143, u144, u145, u146, u147, u148, u149, u150, u151, u152, u153, u154, u155, u156, u157, u158, u159, u160, u161, u162, u163, u164, u165, u166, u167, u168, u169, u170, u171, u172, u173, u174, u175, u176, u177, u178, u179, u180, u181, u182, u183, u184, u185, u186, u187, u188, u189, u190, u191, u192, u193, u194, u195, u196, u197, u198, u199, u200, u201, u202, u203, u204, u205, u206, u207, u208, u209, u210, u211, u212, u213, u214, u215, u216, u217, u218, u219, u220, u221, u222, u223, u224, u225, u226, u227, u228, u229, u230, u231, u232, u233, u234, u235, u236, u237, u238, u239, u240, u241, u242, u243, u244, u245, u246, u247, u248, u249, u250, u251, u252, u253, y254, y255, y256, y257, y258, y259, y260, y261, u262, u263, u264, u265, u266, u267, u268, u269, u270, u271, u272, u273, u274, u275, u276, u277, u278, u279, u280, u281, u282, u283, u284, u285], []⟩ W) : moreReg.wp Tryd.prog Q ⟨#[u0, u1, u2, u3, u4, .pointer (some ⟨bs, 0, none⟩), u6, .pointer (some ⟨bs + 1, 0, none⟩), u8, u9, u10, u11, u12, u13, u14, u15, u16, u17, u18, u19, u20, u21, u22, u23, u24, u25, u26, u27, u28, u29, u30, u31, u32, u33, .pointer (some ⟨wr.heap.size, 0, none⟩), u35, u36, u37, u38, u39, u40, u41, u42, u43, u44, u45, u46, u47, u48, u49, u50, u51, u52, u53, u54, u55, u56, u57, u58, u59, u60, u61, u62, u63, u64, u65, u66, u67, u68, u69, u70, u71, u72, u73, u74, u75, u76, u77, u78, u79, u80, u81, u82, u83, u84, u85, u86, u87, u88, u89, u90, u91, u92, u93, u94, u95, u96, u97, u98, u99, u100, u101, u102, u103, u104, u105, u106, u107, u108, u109, u110, u111, u112, u113, u114, u115, u116, u117, u118, u119, u120, u121, u122, u123, u124, u125, u126, u127, u128, u129, u130, u131, u132, u133, u134, u135, u136, u137, u138, u139, u140, u141, u142, u143, u144, u145, u146, u147, u148, u149, u150, u151, u152, u153, u154, u155, u156, u157, u158, u159, u160, u161, u162, u163, u164, u165, u166, u167, u168, u169, u170, u171, u172, u173, u174, u175, u176, u177, u178, u179, u180, u181, u182, u183, u184, u185, u186, u187, u188, u189, u190, u191, u192, u193, u194, u195, u196, u197, u198, u199, u200, u201, u202, u203, u204, u205, u206, u207, u208, u209, u210, u211, u212, u213, u214, u215, u216, u217, u218, u219, u220, u221, u222, u223, u224, u225, u226, u227, u228, u229, u230, u231, u232, u233, u234, u235, u236, u237, u238, u239, u240, u241, u242, u243, u244, u245, u246, u247, u248, u249, u250, u251, u252, u253, u254, u255, u256, u257, u258, u259, u260, u261, u262, u263, u264, u265, u266, u267, u268, u269, u270, u271, u272, u273, u274, u275, u276, u277, u278, u279, u280, u281, u282, u283, u284, u285], []⟩ V18 := by
  conv => arg 2; whnf
  obtain ⟨iw, hi, hz0, hz1, hz2⟩ := info_parts wish_info
  have hp3 := K18.out.aw.bx.c3
  obtain ⟨bw, ow, e4, -⟩ := K18.out.aw.st.wishC (i := 0) (by omega)
  rw [e4] at hp3
  have hat := K18.out.aw.st.wishes
  rw [e4] at hat
  have HN := Lib.hid (fun (W : World) (h : Below V18.heap.size V18 W) => at_flat wish_len (hat.below h))
  clear hat e4
  have HO := Lib.hid (show ∀ u ∈ s.wishes.flatMap Wish.cells, u.oneCell' = true from fun u hu => by
    obtain ⟨x, -, hx⟩ := List.mem_flatMap.1 hu
    simp [Wish.cells] at hx
    rcases hx with rfl | rfl | rfl | rfl | rfl <;> rfl)
  obtain ⟨-, u0, u1, u2, u3, u4⟩ := id K18.out.yb
  have HS := Lib.hid (show ∀ W : World, (∀ b o, b < wr.heap.size → W.cell? ⟨b, o, none⟩ = V18.cell? ⟨b, o, none⟩) → (W.cell? ⟨bs, 3, none⟩ = some (.slice (some ⟨bw, ow, none⟩) s.wishes.length s.c4) ∧ W.cell? ⟨bs + 1, 0, none⟩ = some (.int .i64 y.puz) ∧ W.cell? ⟨bs + 1, 1, none⟩ = some (.int .i64 y.many) ∧ W.cell? ⟨bs + 1, 2, none⟩ = some (.int .i64 y.hour) ∧ W.cell? ⟨bs + 1, 3, none⟩ = some (.int .i64 y.price) ∧ W.cell? ⟨bs + 1, 4, none⟩ = some (.int .i64 y.ship)) from fun W h => ⟨(h _ _ (by omega)).trans hp3, (h _ _ hyl).trans u0, (h _ _ hyl).trans u1, (h _ _ hyl).trans u2, (h _ _ hyl).trans u3, (h _ _ hyl).trans u4⟩)
  clear hp3 u0 u1 u2 u3 u4
  have hc : Below V18.heap.size V18 V18.drew := (Below.refl _ _).drew
  refine wp_region_noPanic ?_
  refine wp_region_held_drew (S := (fun W => (W.cell? ⟨bs, 3, none⟩ = some (.slice (some ⟨bw, ow, none⟩) s.wishes.length s.c4) ∧ W.cell? ⟨bs + 1, 0, none⟩ = some (.int .i64 y.puz) ∧ W.cell? ⟨bs + 1, 1, none⟩ = some (.int .i64 y.many) ∧ W.cell? ⟨bs + 1, 2, none⟩ = some (.int .i64 y.hour) ∧ W.cell? ⟨bs + 1, 3, none⟩ = some (.int .i64 y.price) ∧ W.cell? ⟨bs + 1, 4, none⟩ = some (.int .i64 y.ship)))) (by as_aux_lemma => kernel_rfl) ?_ (fun hHeld => ?_)
  · (try dsimp only); exact HS.out _ (fun b o hlt => (bcell hc).1 _ _ (by omega))
  refine htake (i := 1) (v := ?v7) rfl (by as_aux_lemma => kernel_rfl) (by as_aux_lemma => kernel_rfl) (by as_aux_lemma => kernel_rfl) (fun _ _ _ h => h) (Or.inl ⟨by rfl, ?hy7⟩) (by assumption) ?_
  case hy7 => (intro w hSw; (try dsimp only at hSw); go_simp; try (with_reducible rfl))
  try simp only [Act.put, List.setIfInBounds_toArray, List.set_cons_zero, List.set_cons_succ]
  refine htake (i := 2) (v := ?v8) rfl (by as_aux_lemma => kernel_rfl) (by as_aux_lemma => kernel_rfl) (by as_aux_lemma => kernel_rfl) (fun _ _ _ h => h) (Or.inl ⟨by rfl, ?hy8⟩) (by assumption) ?_
  case hy8 => (intro w hSw; (try dsimp only at hSw); go_simp; try (with_reducible rfl))
  try simp only [Act.put, List.setIfInBounds_toArray, List.set_cons_zero, List.set_cons_succ]
  refine htake (i := 4) (v := ?v9) rfl (by as_aux_lemma => kernel_rfl) (by as_aux_lemma => kernel_rfl) (by as_aux_lemma => kernel_rfl) (fun _ _ _ h => h) (Or.inl ⟨by rfl, ?hy9⟩) (by assumption) ?_
  case hy9 => (intro w hSw; (try dsimp only at hSw); go_simp; try (with_reducible rfl))
  try simp only [Act.put, List.setIfInBounds_toArray, List.set_cons_zero, List.set_cons_succ]
  refine wpAnyH_ready (rs := [0, 5]) (by as_aux_lemma => kernel_rfl) (by simp) ?_
  refine hcons rfl (fun K hK => ?_) (hcons rfl (fun K hK => ?_) (AllReadyH.nil))
  go_simp
  have hown := own_empty hc 57 5; (try replace h5 := al_oldA h5 (.cells #[] 57)); replace hc := hc.alloc hc.size (.cells #[] 57); (try simp only [World.size_alloc] at hown); (try simp only [sz_drewA] at hown)
  refine hK.out _ _ ?_ (fun hHeld => ?_)
  · (try dsimp only); exact HS.out _ (fun b o hlt => (bcell hc).1 _ _ (by omega))
  clear hK K
  try simp only [Act.put, List.setIfInBounds_toArray, List.set_cons_zero, List.set_cons_succ]
  refine wpAnyH_ready (rs := [3, 5]) (by as_aux_lemma => kernel_rfl) (by simp) ?_
  refine hcons rfl (fun K hK => ?_) (hcons rfl (fun K hK => ?_) (AllReadyH.nil))
  (refine step_append_lies _ rfl (.tmp 254) (.tmp 256) 25 rfl V18.heap.size 57 iw (.agg #[.int .i64 0, .int .i64 0, .int .i64 0, .int .i64 0, .int .i64 0]) 5 40 Tryd.underlying25 hi hz0 hz1 hz2 rfl (by decide) (.slice (some ⟨_, 0, none⟩) 0 0) 0 [] rfl hown ⟨bw, ow, none⟩ s.wishes.length s.c4 (s.wishes.flatMap Wish.cells) rfl (flat_len wish_len _) (HN.out _ hc) HO.out (by omega) (by unfold maxLen; omega) (by omega) hc.size _ rfl ?_); intro g cap w3 hown3 hgrow hgg hlt3; (try replace h5 := row_grown hgrow h5 (by omega)); replace hc := grow_below hc hgrow (fun k hk => (hown.lt k hk).1); replace hown := hown3; simp only [Nat.zero_add, List.nil_append] at hown; clear hgrow hgg hown3; (try simp only [Nat.zero_add])
  refine hK.out _ _ ?_ (fun hHeld => ?_)
  · (try dsimp only); exact HS.out _ (fun b o hlt => (bcell hc).1 _ _ (by omega))
  clear hK K
  try simp only [Act.put, List.setIfInBounds_toArray, List.set_cons_zero, List.set_cons_succ]
  refine wpAnyH_ready (rs := [5]) (by as_aux_lemma => kernel_rfl) (by simp) ?_
  refine hcons rfl (fun K hK => ?_) (AllReadyH.nil)
  go_simp
  have h5 := al_newA hc (.cells #[.int .i64 y.puz, .int .i64 y.many, .int .i64 y.hour, .int .i64 y.price, .int .i64 y.ship] 57); (try replace hown := hown.alloc (.cells #[.int .i64 y.puz, .int .i64 y.many, .int .i64 y.hour, .int .i64 y.price, .int .i64 y.ship] 57)); replace hc := hc.alloc hc.size (.cells #[.int .i64 y.puz, .int .i64 y.many, .int .i64 y.hour, .int .i64 y.price, .int .i64 y.ship] 57); (try simp only [World.size_alloc] at h5); (try simp only [sz_drewA] at h5)
  refine hK.out _ _ ?_ (fun hHeld => ?_)
  · (try dsimp only); exact HS.out _ (fun b o hlt => (bcell hc).1 _ _ (by omega))
  clear hK K
  try simp only [Act.put, List.setIfInBounds_toArray, List.set_cons_zero, List.set_cons_succ]
  refine wpAnyH_ready (rs := [6]) (by as_aux_lemma => kernel_rfl) (by simp) ?_
  refine hcons rfl (fun K hK => ?_) (AllReadyH.nil)
  (refine step_append_lies _ rfl (.tmp 257) (.tmp 259) 25 rfl V18.heap.size 57 iw (.agg #[.int .i64 0, .int .i64 0, .int .i64 0, .int .i64 0, .int .i64 0]) 5 40 Tryd.underlying25 hi hz0 hz1 hz2 rfl (by decide) (.slice (some ⟨g, 0, none⟩) s.wishes.length cap) s.wishes.length (s.wishes.flatMap Wish.cells) rfl hown ⟨_, 0, none⟩ 1 1 [.int .i64 y.puz, .int .i64 y.many, .int .i64 y.hour, .int .i64 y.price, .int .i64 y.ship] rfl rfl (row_five h5) (by simp [Value.oneCell']) (by omega) (by unfold maxLen; omega) (by omega) hc.size _ rfl ?_); intro g6 cap6 w6 hown6 hgrow6 hgg6 hlt6; replace hc := grow_below hc hgrow6 (fun k hk => (hown.lt k hk).1); have q12 := (hc.block wr.heap.size hlt).trans r34; have cf3 : w6.frozen? ⟨wr.heap.size, 3, none⟩ = false := frozen_of_row w6 _ 3 _ _ q12; have cc3 : w6.cell? ⟨wr.heap.size, 3, none⟩ = some (.slice s.A4 s.wishes.length s.c4) := (cell_of_row w6 _ 3 _ _ _ q12).trans rfl
  refine hK.out _ _ ?_ (fun hHeld => ?_)
  · (try dsimp only); exact HS.out _ (fun b o hlt => (bcell hc).1 _ _ (by omega))
  clear hK K
  try simp only [Act.put, List.setIfInBounds_toArray, List.set_cons_zero, List.set_cons_succ]
  refine htake (i := 7) (v := ?v10) rfl (by as_aux_lemma => kernel_rfl) (by as_aux_lemma => kernel_rfl) (by as_aux_lemma => kernel_rfl) (fun _ _ _ h => h) (Or.inl ⟨by rfl, ?hy10⟩) (by assumption) ?_
  case hy10 => (intro w hSw; (try dsimp only at hSw); go_simp; try (with_reducible rfl))
  try simp only [Act.put, List.setIfInBounds_toArray, List.set_cons_zero, List.set_cons_succ]
  refine wpAnyH_ready (rs := [8]) (by as_aux_lemma => kernel_rfl) (by simp) ?_
  refine hcons rfl (fun K hK => ?_) (AllReadyH.nil)
  go_simp
  skip
  refine hK.out _ _ ?_ (fun hHeld => ?_)
  · (try dsimp only); exact HS.out _ (fun b o hlt => (World.cell?_setCell_other _ _ _ _ (by intro e; injection e with e; omega)).trans ((bcell hc).1 _ _ (by omega)))
  clear hK K
  try simp only [Act.put, List.setIfInBounds_toArray, List.set_cons_zero, List.set_cons_succ]
  refine wpAnyH_done (by as_aux_lemma => kernel_rfl) ?_ _
  refine NoPanic.normal ?_
  rotate_left
  go_simp
  have h5 := al_newA hc (.cells #[.int .i64 y.puz, .int .i64 y.many, .int .i64 y.hour, .int .i64 y.price, .int .i64 y.ship] 57); (try replace hown := hown.alloc (.cells #[.int .i64 y.puz, .int .i64 y.many, .int .i64 y.hour, .int .i64 y.price, .int .i64 y.ship] 57)); replace hc := hc.alloc hc.size (.cells #[.int .i64 y.puz, .int .i64 y.many, .int .i64 y.hour, .int .i64 y.price, .int .i64 y.ship] 57); (try simp only [World.size_alloc] at h5); (try simp only [sz_drewA] at h5)
  refine hK.out _ _ ?_ (fun hHeld => ?_)
  · (try dsimp only); exact HS.out _ (fun b o hlt => (bcell hc).1 _ _ (by omega))
  clear hK K
  try simp only [Act.put, List.setIfInBounds_toArray, List.set_cons_zero, List.set_cons_succ]
  refine wpAnyH_ready (rs := [3]) (by as_aux_lemma => kernel_rfl) (by simp) ?_
  refine hcons rfl (fun K hK => ?_) (AllReadyH.nil)
  (refine step_append_lies _ rfl (.tmp 254) (.tmp 256) 25 rfl V18.heap.size 57 iw (.agg #[.int .i64 0, .int .i64 0, .int .i64 0, .int .i64 0, .int .i64 0]) 5 40 Tryd.underlying25 hi hz0 hz1 hz2 rfl (by decide) (.slice (some ⟨_, 0, none⟩) 0 0) 0 [] rfl hown ⟨bw, ow, none⟩ s.wishes.length s.c4 (s.wishes.flatMap Wish.cells) rfl (flat_len wish_len _) (HN.out _ hc) HO.out (by omega) (by unfold maxLen; omega) (by omega) hc.size _ rfl ?_); intro g cap w3 hown3 hgrow hgg hlt3; (try replace h5 := row_grown hgrow h5 (by omega)); replace hc := grow_below hc hgrow (fun k hk => (hown.lt k hk).1); replace hown := hown3; simp only [Nat.zero_add, List.nil_append] at hown; clear hgrow hgg hown3; (try simp only [Nat.zero_add])
  refine hK.out _ _ ?_ (fun hHeld => ?_)
  · (try dsimp only); exact HS.out _ (fun b o hlt => (bcell hc).1 _ _ (by omega))
  clear hK K
  try simp only [Act.put, List.setIfInBounds_toArray, List.set_cons_zero, List.set_cons_succ]
  refine wpAnyH_ready (rs := [6]) (by as_aux_lemma => kernel_rfl) (by simp) ?_
  refine hcons rfl (fun K hK => ?_) (AllReadyH.nil)
  (refine step_append_lies _ rfl (.tmp 257) (.tmp 259) 25 rfl V18.heap.size 57 iw (.agg #[.int .i64 0, .int .i64 0, .int .i64 0, .int .i64 0, .int .i64 0]) 5 40 Tryd.underlying25 hi hz0 hz1 hz2 rfl (by decide) (.slice (some ⟨g, 0, none⟩) s.wishes.length cap) s.wishes.length (s.wishes.flatMap Wish.cells) rfl hown ⟨_, 0, none⟩ 1 1 [.int .i64 y.puz, .int .i64 y.many, .int .i64 y.hour, .int .i64 y.price, .int .i64 y.ship] rfl rfl (row_five h5) (by simp [Value.oneCell']) (by omega) (by unfold maxLen; omega) (by omega) hc.size _ rfl ?_); intro g6 cap6 w6 hown6 hgrow6 hgg6 hlt6; replace hc := grow_below hc hgrow6 (fun k hk => (hown.lt k hk).1); have q12 := (hc.block wr.heap.size hlt).trans r34; have cf3 : w6.frozen? ⟨wr.heap.size, 3, none⟩ = false := frozen_of_row w6 _ 3 _ _ q12; have cc3 : w6.cell? ⟨wr.heap.size, 3, none⟩ = some (.slice s.A4 s.wishes.length s.c4) := (cell_of_row w6 _ 3 _ _ _ q12).trans rfl
  refine hK.out _ _ ?_ (fun hHeld => ?_)
  · (try dsimp only); exact HS.out _ (fun b o hlt => (bcell hc).1 _ _ (by omega))
  clear hK K
  try simp only [Act.put, List.setIfInBounds_toArray, List.set_cons_zero, List.set_cons_succ]
  refine htake (i := 7) (v := ?v11) rfl (by as_aux_lemma => kernel_rfl) (by as_aux_lemma => kernel_rfl) (by as_aux_lemma => kernel_rfl) (fun _ _ _ h => h) (Or.inl ⟨by rfl, ?hy11⟩) (by assumption) ?_
  case hy11 => (intro w hSw; (try dsimp only at hSw); go_simp; try (with_reducible rfl))
  try simp only [Act.put, List.setIfInBounds_toArray, List.set_cons_zero, List.set_cons_succ]
  refine wpAnyH_ready (rs := [8]) (by as_aux_lemma => kernel_rfl) (by simp) ?_
  refine hcons rfl (fun K hK => ?_) (AllReadyH.nil)
  go_simp
  skip
  refine hK.out _ _ ?_ (fun hHeld => ?_)
  · (try dsimp only); exact HS.out _ (fun b o hlt => (World.cell?_setCell_other _ _ _ _ (by intro e; injection e with e; omega)).trans ((bcell hc).1 _ _ (by omega)))
  clear hK K
  try simp only [Act.put, List.setIfInBounds_toArray, List.set_cons_zero, List.set_cons_succ]
  refine wpAnyH_done (by as_aux_lemma => kernel_rfl) ?_ _
  refine NoPanic.normal ?_
  rotate_left
  go_simp
  have h5 := al_newA hc (.cells #[.int .i64 y.puz, .int .i64 y.many, .int .i64 y.hour, .int .i64 y.price, .int .i64 y.ship] 57); (try replace hown := hown.alloc (.cells #[.int .i64 y.puz, .int .i64 y.many, .int .i64 y.hour, .int .i64 y.price, .int .i64 y.ship] 57)); replace hc := hc.alloc hc.size (.cells #[.int .i64 y.puz, .int .i64 y.many, .int .i64 y.hour, .int .i64 y.price, .int .i64 y.ship] 57); (try simp only [World.size_alloc] at h5); (try simp only [sz_drewA] at h5)
  refine hK.out _ _ ?_ (fun hHeld => ?_)
  · (try dsimp only); exact HS.out _ (fun b o hlt => (bcell hc).1 _ _ (by omega))
  clear hK K
  try simp only [Act.put, List.setIfInBounds_toArray, List.set_cons_zero, List.set_cons_succ]
  refine wpAnyH_ready (rs := [0]) (by as_aux_lemma => kernel_rfl) (by simp) ?_
  refine hcons rfl (fun K hK => ?_) (AllReadyH.nil)
  go_simp
  have hown := own_empty hc 57 5; (try replace h5 := al_oldA h5 (.cells #[] 57)); replace hc := hc.alloc hc.size (.cells #[] 57); (try simp only [World.size_alloc] at hown); (try simp only [sz_drewA] at hown)
  refine hK.out _ _ ?_ (fun hHeld => ?_)
  · (try dsimp only); exact HS.out _ (fun b o hlt => (bcell hc).1 _ _ (by omega))
  clear hK K
  try simp only [Act.put, List.setIfInBounds_toArray, List.set_cons_zero, List.set_cons_succ]
  refine wpAnyH_ready (rs := [3]) (by as_aux_lemma => kernel_rfl) (by simp) ?_
  refine hcons rfl (fun K hK => ?_) (AllReadyH.nil)
  (refine step_append_lies _ rfl (.tmp 254) (.tmp 256) 25 rfl V18.heap.size 57 iw (.agg #[.int .i64 0, .int .i64 0, .int .i64 0, .int .i64 0, .int .i64 0]) 5 40 Tryd.underlying25 hi hz0 hz1 hz2 rfl (by decide) (.slice (some ⟨_, 0, none⟩) 0 0) 0 [] rfl hown ⟨bw, ow, none⟩ s.wishes.length s.c4 (s.wishes.flatMap Wish.cells) rfl (flat_len wish_len _) (HN.out _ hc) HO.out (by omega) (by unfold maxLen; omega) (by omega) hc.size _ rfl ?_); intro g cap w3 hown3 hgrow hgg hlt3; (try replace h5 := row_grown hgrow h5 (by omega)); replace hc := grow_below hc hgrow (fun k hk => (hown.lt k hk).1); replace hown := hown3; simp only [Nat.zero_add, List.nil_append] at hown; clear hgrow hgg hown3; (try simp only [Nat.zero_add])
  refine hK.out _ _ ?_ (fun hHeld => ?_)
  · (try dsimp only); exact HS.out _ (fun b o hlt => (bcell hc).1 _ _ (by omega))
  clear hK K
  try simp only [Act.put, List.setIfInBounds_toArray, List.set_cons_zero, List.set_cons_succ]
  refine wpAnyH_ready (rs := [6]) (by as_aux_lemma => kernel_rfl) (by simp) ?_
  refine hcons rfl (fun K hK => ?_) (AllReadyH.nil)
  (refine step_append_lies _ rfl (.tmp 257) (.tmp 259) 25 rfl V18.heap.size 57 iw (.agg #[.int .i64 0, .int .i64 0, .int .i64 0, .int .i64 0, .int .i64 0]) 5 40 Tryd.underlying25 hi hz0 hz1 hz2 rfl (by decide) (.slice (some ⟨g, 0, none⟩) s.wishes.length cap) s.wishes.length (s.wishes.flatMap Wish.cells) rfl hown ⟨_, 0, none⟩ 1 1 [.int .i64 y.puz, .int .i64 y.many, .int .i64 y.hour, .int .i64 y.price, .int .i64 y.ship] rfl rfl (row_five h5) (by simp [Value.oneCell']) (by omega) (by unfold maxLen; omega) (by omega) hc.size _ rfl ?_); intro g6 cap6 w6 hown6 hgrow6 hgg6 hlt6; replace hc := grow_below hc hgrow6 (fun k hk => (hown.lt k hk).1); have q12 := (hc.block wr.heap.size hlt).trans r34; have cf3 : w6.frozen? ⟨wr.heap.size, 3, none⟩ = false := frozen_of_row w6 _ 3 _ _ q12; have cc3 : w6.cell? ⟨wr.heap.size, 3, none⟩ = some (.slice s.A4 s.wishes.length s.c4) := (cell_of_row w6 _ 3 _ _ _ q12).trans rfl
  refine hK.out _ _ ?_ (fun hHeld => ?_)
  · (try dsimp only); exact HS.out _ (fun b o hlt => (bcell hc).1 _ _ (by omega))
  clear hK K
  try simp only [Act.put, List.setIfInBounds_toArray, List.set_cons_zero, List.set_cons_succ]
  refine htake (i := 7) (v := ?v12) rfl (by as_aux_lemma => kernel_rfl) (by as_aux_lemma => kernel_rfl) (by as_aux_lemma => kernel_rfl) (fun _ _ _ h => h) (Or.inl ⟨by rfl, ?hy12⟩) (by assumption) ?_
  case hy12 => (intro w hSw; (try dsimp only at hSw); go_simp; try (with_reducible rfl))
  try simp only [Act.put, List.setIfInBounds_toArray, List.set_cons_zero, List.set_cons_succ]
  refine wpAnyH_ready (rs := [8]) (by as_aux_lemma => kernel_rfl) (by simp) ?_
  refine hcons rfl (fun K hK => ?_) (AllReadyH.nil)
  go_simp
  skip
  refine hK.out _ _ ?_ (fun hHeld => ?_)
  · (try dsimp only); exact HS.out _ (fun b o hlt => (World.cell?_setCell_other _ _ _ _ (by intro e; injection e with e; omega)).trans ((bcell hc).1 _ _ (by omega)))
  clear hK K
  try simp only [Act.put, List.setIfInBounds_toArray, List.set_cons_zero, List.set_cons_succ]
  refine wpAnyH_done (by as_aux_lemma => kernel_rfl) ?_ _
  refine NoPanic.normal ?_
  iterate 10 (try clear hHeld)
  all_goals
    refine hQ _ _ _ _ _ _ _ _ _ ?_
    have e : (s.wishes ++ [y]).flatMap Wish.cells = s.wishes.flatMap Wish.cells ++ [.int .i64 y.puz, .int .i64 y.many, .int .i64 y.hour, .int .i64 y.price, .int .i64 y.ship] := by rw [List.flatMap_append]; rfl
    exact MoreR.end K17.out.aw.st hB18 hc (Nat.le_refl _) hlt q12 (by rw [e]; exact hown6) (by omega)
/-- The body of the first loop of a code. -/
def firstLoop : Code → Option Code
  | .loop c => some c
  | .seq a b => match firstLoop a with
    | some c => some c
    | none => firstLoop b
  | .block _ c => firstLoop c
  | .scope c => firstLoop c
  | .cond _ a b => match firstLoop a with
    | some c => some c
    | none => firstLoop b
  | _ => none
noncomputable def moreBody : Code := ((Tryd.f10.body.bind firstLoop).getD .skip)
set_option maxRecDepth 100000 in
set_option maxHeartbeats 40000000 in
theorem more_arm0 {s xr xc : Store} {y : Wish} {st gx av ol oh : Int} {sv cv : Bool} {bs b14 b15 go : Nat} {V16 wr : World} {f : Nat → Value} {u0 u2 u3 u4 u5 u6 u7 u8 u9 u10 u11 u13 u16 u17 u18 u24 u25 u26 u27 u28 u29 u30 u31 u32 u33 u34 u35 u36 u37 u38 u39 u40 u41 u42 u43 u44 u45 u46 u47 u48 u49 u50 u51 u52 u53 u54 u55 u56 u57 u58 u59 u60 u61 u62 u63 u64 u65 u66 u67 u68 u69 u70 u71 u72 u73 u74 u75 u76 u77 u78 u79 u80 u81 u82 u83 u84 u85 u86 u87 u88 u89 u90 u91 u92 u93 u94 u95 u96 u97 u98 u99 u100 u101 u102 u103 u104 u105 u106 u107 u108 u109 u110 u111 u112 u113 u114 u115 u116 u117 u118 u119 u120 u121 u122 u123 u124 u125 u126 u127 u128 u129 u130 u131 u132 u133 u134 u135 u136 u137 u138 u139 u140 u141 u142 u143 u144 u145 u146 u147 u148 u149 u150 u151 u152 u153 u154 u155 u156 u157 u158 u159 u160 u161 u162 u163 u164 u165 u166 u167 u168 u169 u170 u171 u172 u173 u174 u175 u176 u177 u178 u179 u180 u181 u182 u183 u184 u185 u186 u187 u188 u189 u190 u191 u192 u193 u194 u195 u196 u197 u198 u199 u200 u201 u202 u203 u204 u205 u206 u207 u208 u209 u210 u211 u212 u213 u214 u215 u216 u217 u218 u219 u220 u221 u222 u223 u224 u225 u226 u227 u228 u229 u230 u231 u232 u233 u234 u235 u236 u237 u238 u239 u240 u241 u242 u243 u244 u245 u246 u247 u248 u249 u250 u251 u252 u253 u254 u255 u256 u257 u258 u259 u260 u261 u262 u263 u264 u265 u266 u267 u268 u269 u270 u271 u272 u273 u274 u275 u276 u277 u278 u279 u280 u281 u282 u283 u284 u285 : Value} {Q : Exit → Act → World → Prop}
    (K17 : Hid (MW s xr xc y bs b14 b15 wr)) (B17 : Hid (Below V16.heap.size V16 wr)) (Q17 : Hid (IBlk wr go 2 (two ol oh))) (HMR : Hid (Mo s xr)) (HGX : Hid (gx = G s (bestS s))) (HAV : Hid (av = acceptedS s st)) (HSV : Hid (sv = surelyS s st)) (HCV : Hid (cv = canS s st)) (HOL : Hid (profitS s st = (ol, oh))) (e24 : f 24 = .int .i64 0) :
    moreBody.wp Tryd.prog (Exit.then (fun a' w'' => EndM mask18 (fun g W => R18M V16 (g 24) W) (fun g _ => 2 - (intOf (g 24)).toNat) [u0, .int .i64 st, u2, u3, u4, u5, u6, u7, u8, u9, u10, u11, .int .i64 gx, u13, .pointer (some ⟨b14, 0, none⟩), .pointer (some ⟨b15, 0, none⟩), u16, u17, u18, .bool sv, .bool cv, .int .i64 av, .pointer (some ⟨go, 0, none⟩), .int .i64 av, u24, u25, u26, u27, u28, u29, u30, u31, u32, u33, u34, u35, u36, u37, u38, u39, u40, u41, u42, u43, u44, u45, u46, u47, u48, u49, u50, u51, u52, u53, u54, u55, u56, u57, u58, u59, u60, u61, u62, u63, u64, u65, u66, u67, u68, u69, u70, u71, u72, u73, u74, u75, u76, u77, u78, u79, u80, u81, u82, u83, u84, u85, u86, u87, u88, u89, u90, u91, u92, u93, u94, u95, u96, u97, u98, u99, u100, u101, u102, u103, u104, u105, u106, u107, u108, u109, u110, u111, u112, u113, u114, u115, u116, u117, u118, u119, u120, u121, u122, u123, u124, u125, u126, u127, u128, u129, u130, u131, u132, u133, u134, u135, u136, u137, u138, u139, u140, u141, u142, u143, u144, u145, u146, u147, u148, u149, u150, u151, u152, u153, u154, u155, u156, u157, u158, u159, u160, u161, u162, u163, u164, u165, u166, u167, u168, u169, u170, u171, u172, u173, u174, u175, u176, u177, u178, u179, u180, u181, u182, u183, u184, u185, u186, u187, u188, u189, u190, u191, u192, u193, u194, u195, u196, u197, u198, u199, u200, u201, u202, u203, u204, u205, u206, u207, u208, u209, u210, u211, u212, u213, u214, u215, u216, u217, u218, u219, u220, u221, u222, u223, u224, u225, u226, u227, u228, u229, u230, u231, u232, u233, u234, u235, u236, u237, u238, u239, u240, u241, u242, u243, u244, u245, u246, u247, u248, u249, u250, u251, u252, u253, u254, u255, u256, u257, u258, u259, u260, u261, u262, u263, u264, u265, u266, u267, u268, u269, u270, u271, u272, u273, u274, u275, u276, u277, u278, u279, u280, u281, u282, u283, u284, u285] [] f wr a' w'') Q) ⟨(mixF mask18 f [u0, .int .i64 st, u2, u3, u4, u5, u6, u7, u8, u9, u10, u11, .int .i64 gx, u13, .pointer (some ⟨b14, 0, none⟩), .pointer (some ⟨b15, 0, none⟩), u16, u17, u18, .bool sv, .bool cv, .int .i64 av, .pointer (some ⟨go, 0, none⟩), .int .i64 av, u24, u25, u26, u27, u28, u29, u30, u31, u32, u33, u34, u35, u36, u37, u38, u39, u40, u41, u42, u43, u44, u45, u46, u47, u48, u49, u50, u51, u52, u53, u54, u55, u56, u57, u58, u59, u60, u61, u62, u63, u64, u65, u66, u67, u68, u69, u70, u71, u72, u73, u74, u75, u76, u77, u78, u79, u80, u81, u82, u83, u84, u85, u86, u87, u88, u89, u90, u91, u92, u93, u94, u95, u96, u97, u98, u99, u100, u101, u102, u103, u104, u105, u106, u107, u108, u109, u110, u111, u112, u113, u114, u115, u116, u117, u118, u119, u120, u121, u122, u123, u124, u125, u126, u127, u128, u129, u130, u131, u132, u133, u134, u135, u136, u137, u138, u139, u140, u141, u142, u143, u144, u145, u146, u147, u148, u149, u150, u151, u152, u153, u154, u155, u156, u157, u158, u159, u160, u161, u162, u163, u164, u165, u166, u167, u168, u169, u170, u171, u172, u173, u174, u175, u176, u177, u178, u179, u180, u181, u182, u183, u184, u185, u186, u187, u188, u189, u190, u191, u192, u193, u194, u195, u196, u197, u198, u199, u200, u201, u202, u203, u204, u205, u206, u207, u208, u209, u210, u211, u212, u213, u214, u215, u216, u217, u218, u219, u220, u221, u222, u223, u224, u225, u226, u227, u228, u229, u230, u231, u232, u233, u234, u235, u236, u237, u238, u239, u240, u241, u242, u243, u244, u245, u246, u247, u248, u249, u250, u251, u252, u253, u254, u255, u256, u257, u258, u259, u260, u261, u262, u263, u264, u265, u266, u267, u268, u269, u270, u271, u272, u273, u274, u275, u276, u277, u278, u279, u280, u281, u282, u283, u284, u285]).toArray, []⟩ wr := by
  conv => arg 2; whnf
  simp only [mask18, mixF, e24]
  have E24 := Lib.hid e24
  clear e24
  obtain ⟨-, p0, p1, p2, p3⟩ := id K17.out.x1
  go_wp2_with fail
  clear p0 p1 p2 p3
  have K18 := Lib.hid (K17.out.next (nxA wr (.cells #[.slice xr.A1 xr.sheets.length xr.c1, .slice xr.A2 xr.lics.length xr.c2, .slice xr.A3 xr.makes.length xr.c3, .slice xr.A4 xr.wishes.length xr.c4] 27)))
  have B18 := Lib.hid (B17.out.trans ((nxA wr (.cells #[.slice xr.A1 xr.sheets.length xr.c1, .slice xr.A2 xr.lics.length xr.c2, .slice xr.A3 xr.makes.length xr.c3, .slice xr.A4 xr.wishes.length xr.c4] 27)).mono B17.out.size))
  have Q18 := Lib.hid (Q17.out.next (nxA wr (.cells #[.slice xr.A1 xr.sheets.length xr.c1, .slice xr.A2 xr.lics.length xr.c2, .slice xr.A3 xr.makes.length xr.c3, .slice xr.A4 xr.wishes.length xr.c4] 27)))
  have X18 := Lib.hid (SBox.new wr xr 27)
  clear K17 B17 Q17
  generalize (wr.alloc (.cells #[.slice xr.A1 xr.sheets.length xr.c1, .slice xr.A2 xr.lics.length xr.c2, .slice xr.A3 xr.makes.length xr.c3, .slice xr.A4 xr.wishes.length xr.c4] 27)) = V18 at *
  generalize wr.heap.size = g25 at *
  have hgn : gx ≤ G xr (bestS xr) := by rw [HGX.out]; exact HMR.out.best
  have HA := Lib.hid (accept_x HMR.out.okx V18 K18.out.s1)
  generalize G xr (bestS xr) = gn at hgn HA
  obtain ⟨ax, hax⟩ : ∃ z, z = acceptedS xr st := ⟨_, rfl⟩
  obtain ⟨sx, hsx⟩ : ∃ z, z = surelyS xr st := ⟨_, rfl⟩
  obtain ⟨cx, hcx⟩ : ∃ z, z = canS xr st := ⟨_, rfl⟩
  obtain ⟨nl, nh, hnn⟩ : ∃ u v, profitS xr st = (u, v) := ⟨_, _, rfl⟩
  have HSAID := Lib.hid (show av = 0 → ax = 0 ∧ (sv = true → sx = true) ∧ (cv = true → cx = true) ∧ ol ≤ nl ∧ oh ≤ nh from fun ha => by
    have h := HMR.out.said (HAV.out.symm.trans ha)
    rw [HOL.out, hnn, ← hax, ← hsx, ← hcx, ← HSV.out, ← HCV.out] at h
    exact h)
  have HC := Lib.hid (fun (W : World) (h1 : StoreAt W W.heap.size xr) (h2 : Env W) => (show Calls Tryd.prog 21 #[.agg #[.slice xr.A1 xr.sheets.length xr.c1, .slice xr.A2 xr.lics.length xr.c2, .slice xr.A3 xr.makes.length xr.c3, .slice xr.A4 xr.wishes.length xr.c4], .int .i64 st] W (Ret3 (.bool sx) (.bool cx) (.int .i64 ax) W) from by have := Covered21_any xr st W h1 h2; rw [← hax, ← hsx, ← hcx] at this; exact this))
  have HP := Lib.hid (fun (W : World) (h1 : StoreAt W W.heap.size xr) (h2 : Env W) => (show Calls Tryd.prog 23 #[.agg #[.slice xr.A1 xr.sheets.length xr.c1, .slice xr.A2 xr.lics.length xr.c2, .slice xr.A3 xr.makes.length xr.c3, .slice xr.A4 xr.wishes.length xr.c4], .int .i64 st] W (RetP (nl, nh) ax W) from by have := Profit23_any xr st W h1 h2; rw [← hax, hnn] at this; exact this))
  clear hax hsx hcx hnn
  refine HA.out.mono ?_
  rintro e V19 ⟨rfl, hb⟩
  have K19 := Lib.hid (K18.out.next hb)
  have B19 := Lib.hid (B18.out.trans (hb.mono B18.out.size))
  have Q19 := Lib.hid (Q18.out.next hb)
  have X19 := Lib.hid (X18.out.next hb)
  clear hb K18 B18 Q18 X18 HA
  obtain ⟨-, q0, q1, q2, q3⟩ := id X19.out
  go_wp2_with fail
  refine (HC.out V19 K19.out.s1 K19.out.aw.en).mono ?_
  rintro e V20 ⟨rfl, hb⟩
  have K20 := Lib.hid (K19.out.next hb)
  have B20 := Lib.hid (B19.out.trans (hb.mono B19.out.size))
  have Q20 := Lib.hid (Q19.out.next hb)
  have X20 := Lib.hid (X19.out.next hb)
  clear hb K19 B19 Q19 X19 q0 q1 q2 q3 HC
  obtain ⟨-, q0, q1, q2, q3⟩ := id X20.out
  go_wp2_with fail
  refine (HP.out V20 K20.out.s1 K20.out.aw.en).mono ?_
  rintro e V21 ⟨rfl, hb⟩
  dsimp only
  replace hb := hb.alloc hb.size (.cells #[.int .i64 nl, .int .i64 nh] 44)
  have N21 := Lib.hid (IBlk.span V21 nl nh 44)
  have B21 := Lib.hid (B20.out.trans (hb.mono B20.out.size))
  have Q21 := Lib.hid (Q20.out.next hb)
  clear hb K20 B20 Q20 X20 q0 q1 q2 q3 HP
  obtain ⟨n0, n1⟩ := IBlk2.cells N21.out
  obtain ⟨z0, z1⟩ := IBlk2.cells Q21.out
  have d1 : decide (gn < gx) = false := by simp; omega
  by_cases ha : av = 0
  · obtain ⟨rfl, hS, hC, hl, hh⟩ := HSAID.out ha
    clear HSAID HAV HSV HCV HOL HGX
    subst ha
    have d2 : decide (nl < ol) = false := by simp; omega
    have d3 : decide (nh < oh) = false := by simp; omega
    cases sv <;> cases sx <;> cases cv <;> cases cx <;> simp at hS hC <;> clear hS hC
    all_goals
      go_wp2_with fail
      refine endM (by kernel_rfl) (by kernel_rfl) ?_ ?_
      · exact ⟨1, by omega, (slotF_at rfl).trans (by go_num), B21.out⟩
      · (simp [slotF, intOf, E24.out])
  · have d0 : (av == 0) = false := by simpa using ha
    clear HSAID ha
    go_wp2_with fail
    refine endM (by kernel_rfl) (by kernel_rfl) ?_ ?_
    · exact ⟨1, by omega, (slotF_at rfl).trans (by go_num), B21.out⟩
    · (simp [slotF, intOf, E24.out])
set_option maxRecDepth 100000 in
set_option maxHeartbeats 40000000 in
theorem more_arm1 {s xr xc : Store} {y : Wish} {st gx av ol oh : Int} {sv cv : Bool} {bs b14 b15 go : Nat} {V16 wr : World} {f : Nat → Value} {u0 u2 u3 u4 u5 u6 u7 u8 u9 u10 u11 u13 u16 u17 u18 u24 u25 u26 u27 u28 u29 u30 u31 u32 u33 u34 u35 u36 u37 u38 u39 u40 u41 u42 u43 u44 u45 u46 u47 u48 u49 u50 u51 u52 u53 u54 u55 u56 u57 u58 u59 u60 u61 u62 u63 u64 u65 u66 u67 u68 u69 u70 u71 u72 u73 u74 u75 u76 u77 u78 u79 u80 u81 u82 u83 u84 u85 u86 u87 u88 u89 u90 u91 u92 u93 u94 u95 u96 u97 u98 u99 u100 u101 u102 u103 u104 u105 u106 u107 u108 u109 u110 u111 u112 u113 u114 u115 u116 u117 u118 u119 u120 u121 u122 u123 u124 u125 u126 u127 u128 u129 u130 u131 u132 u133 u134 u135 u136 u137 u138 u139 u140 u141 u142 u143 u144 u145 u146 u147 u148 u149 u150 u151 u152 u153 u154 u155 u156 u157 u158 u159 u160 u161 u162 u163 u164 u165 u166 u167 u168 u169 u170 u171 u172 u173 u174 u175 u176 u177 u178 u179 u180 u181 u182 u183 u184 u185 u186 u187 u188 u189 u190 u191 u192 u193 u194 u195 u196 u197 u198 u199 u200 u201 u202 u203 u204 u205 u206 u207 u208 u209 u210 u211 u212 u213 u214 u215 u216 u217 u218 u219 u220 u221 u222 u223 u224 u225 u226 u227 u228 u229 u230 u231 u232 u233 u234 u235 u236 u237 u238 u239 u240 u241 u242 u243 u244 u245 u246 u247 u248 u249 u250 u251 u252 u253 u254 u255 u256 u257 u258 u259 u260 u261 u262 u263 u264 u265 u266 u267 u268 u269 u270 u271 u272 u273 u274 u275 u276 u277 u278 u279 u280 u281 u282 u283 u284 u285 : Value} {Q : Exit → Act → World → Prop}
    (K17 : Hid (MW s xr xc y bs b14 b15 wr)) (B17 : Hid (Below V16.heap.size V16 wr)) (Q17 : Hid (IBlk wr go 2 (two ol oh))) (HMC : Hid (Mo s xc)) (HGX : Hid (gx = G s (bestS s))) (HAV : Hid (av = acceptedS s st)) (HSV : Hid (sv = surelyS s st)) (HCV : Hid (cv = canS s st)) (HOL : Hid (profitS s st = (ol, oh))) (e24 : f 24 = .int .i64 1) :
    moreBody.wp Tryd.prog (Exit.then (fun a' w'' => EndM mask18 (fun g W => R18M V16 (g 24) W) (fun g _ => 2 - (intOf (g 24)).toNat) [u0, .int .i64 st, u2, u3, u4, u5, u6, u7, u8, u9, u10, u11, .int .i64 gx, u13, .pointer (some ⟨b14, 0, none⟩), .pointer (some ⟨b15, 0, none⟩), u16, u17, u18, .bool sv, .bool cv, .int .i64 av, .pointer (some ⟨go, 0, none⟩), .int .i64 av, u24, u25, u26, u27, u28, u29, u30, u31, u32, u33, u34, u35, u36, u37, u38, u39, u40, u41, u42, u43, u44, u45, u46, u47, u48, u49, u50, u51, u52, u53, u54, u55, u56, u57, u58, u59, u60, u61, u62, u63, u64, u65, u66, u67, u68, u69, u70, u71, u72, u73, u74, u75, u76, u77, u78, u79, u80, u81, u82, u83, u84, u85, u86, u87, u88, u89, u90, u91, u92, u93, u94, u95, u96, u97, u98, u99, u100, u101, u102, u103, u104, u105, u106, u107, u108, u109, u110, u111, u112, u113, u114, u115, u116, u117, u118, u119, u120, u121, u122, u123, u124, u125, u126, u127, u128, u129, u130, u131, u132, u133, u134, u135, u136, u137, u138, u139, u140, u141, u142, u143, u144, u145, u146, u147, u148, u149, u150, u151, u152, u153, u154, u155, u156, u157, u158, u159, u160, u161, u162, u163, u164, u165, u166, u167, u168, u169, u170, u171, u172, u173, u174, u175, u176, u177, u178, u179, u180, u181, u182, u183, u184, u185, u186, u187, u188, u189, u190, u191, u192, u193, u194, u195, u196, u197, u198, u199, u200, u201, u202, u203, u204, u205, u206, u207, u208, u209, u210, u211, u212, u213, u214, u215, u216, u217, u218, u219, u220, u221, u222, u223, u224, u225, u226, u227, u228, u229, u230, u231, u232, u233, u234, u235, u236, u237, u238, u239, u240, u241, u242, u243, u244, u245, u246, u247, u248, u249, u250, u251, u252, u253, u254, u255, u256, u257, u258, u259, u260, u261, u262, u263, u264, u265, u266, u267, u268, u269, u270, u271, u272, u273, u274, u275, u276, u277, u278, u279, u280, u281, u282, u283, u284, u285] [] f wr a' w'') Q) ⟨(mixF mask18 f [u0, .int .i64 st, u2, u3, u4, u5, u6, u7, u8, u9, u10, u11, .int .i64 gx, u13, .pointer (some ⟨b14, 0, none⟩), .pointer (some ⟨b15, 0, none⟩), u16, u17, u18, .bool sv, .bool cv, .int .i64 av, .pointer (some ⟨go, 0, none⟩), .int .i64 av, u24, u25, u26, u27, u28, u29, u30, u31, u32, u33, u34, u35, u36, u37, u38, u39, u40, u41, u42, u43, u44, u45, u46, u47, u48, u49, u50, u51, u52, u53, u54, u55, u56, u57, u58, u59, u60, u61, u62, u63, u64, u65, u66, u67, u68, u69, u70, u71, u72, u73, u74, u75, u76, u77, u78, u79, u80, u81, u82, u83, u84, u85, u86, u87, u88, u89, u90, u91, u92, u93, u94, u95, u96, u97, u98, u99, u100, u101, u102, u103, u104, u105, u106, u107, u108, u109, u110, u111, u112, u113, u114, u115, u116, u117, u118, u119, u120, u121, u122, u123, u124, u125, u126, u127, u128, u129, u130, u131, u132, u133, u134, u135, u136, u137, u138, u139, u140, u141, u142, u143, u144, u145, u146, u147, u148, u149, u150, u151, u152, u153, u154, u155, u156, u157, u158, u159, u160, u161, u162, u163, u164, u165, u166, u167, u168, u169, u170, u171, u172, u173, u174, u175, u176, u177, u178, u179, u180, u181, u182, u183, u184, u185, u186, u187, u188, u189, u190, u191, u192, u193, u194, u195, u196, u197, u198, u199, u200, u201, u202, u203, u204, u205, u206, u207, u208, u209, u210, u211, u212, u213, u214, u215, u216, u217, u218, u219, u220, u221, u222, u223, u224, u225, u226, u227, u228, u229, u230, u231, u232, u233, u234, u235, u236, u237, u238, u239, u240, u241, u242, u243, u244, u245, u246, u247, u248, u249, u250, u251, u252, u253, u254, u255, u256, u257, u258, u259, u260, u261, u262, u263, u264, u265, u266, u267, u268, u269, u270, u271, u272, u273, u274, u275, u276, u277, u278, u279, u280, u281, u282, u283, u284, u285]).toArray, []⟩ wr := by
  conv => arg 2; whnf
  simp only [mask18, mixF, e24]
  have E24 := Lib.hid e24
  clear e24
  obtain ⟨-, p0, p1, p2, p3⟩ := id K17.out.x1
  obtain ⟨-, q0, q1, q2, q3⟩ := id (K17.out.next (nxA wr (.cells #[.slice xr.A1 xr.sheets.length xr.c1, .slice xr.A2 xr.lics.length xr.c2, .slice xr.A3 xr.makes.length xr.c3, .slice xr.A4 xr.wishes.length xr.c4] 27))).x2
  go_wp2_with fail
  clear p0 p1 p2 p3 q0 q1 q2 q3
  have K18 := Lib.hid (K17.out.next (nxA wr (.cells #[.slice xc.A1 xc.sheets.length xc.c1, .slice xc.A2 xc.lics.length xc.c2, .slice xc.A3 xc.makes.length xc.c3, .slice xc.A4 xc.wishes.length xc.c4] 27)))
  have B18 := Lib.hid (B17.out.trans ((nxA wr (.cells #[.slice xc.A1 xc.sheets.length xc.c1, .slice xc.A2 xc.lics.length xc.c2, .slice xc.A3 xc.makes.length xc.c3, .slice xc.A4 xc.wishes.length xc.c4] 27)).mono B17.out.size))
  have Q18 := Lib.hid (Q17.out.next (nxA wr (.cells #[.slice xc.A1 xc.sheets.length xc.c1, .slice xc.A2 xc.lics.length xc.c2, .slice xc.A3 xc.makes.length xc.c3, .slice xc.A4 xc.wishes.length xc.c4] 27)))
  have X18 := Lib.hid (SBox.new wr xc 27)
  clear K17 B17 Q17
  generalize (wr.alloc (.cells #[.slice xc.A1 xc.sheets.length xc.c1, .slice xc.A2 xc.lics.length xc.c2, .slice xc.A3 xc.makes.length xc.c3, .slice xc.A4 xc.wishes.length xc.c4] 27)) = V18 at *
  generalize wr.heap.size = g25 at *
  have hgn : gx ≤ G xc (bestS xc) := by rw [HGX.out]; exact HMC.out.best
  have HA := Lib.hid (accept_x HMC.out.okx V18 K18.out.s2)
  generalize G xc (bestS xc) = gn at hgn HA
  obtain ⟨ax, hax⟩ : ∃ z, z = acceptedS xc st := ⟨_, rfl⟩
  obtain ⟨sx, hsx⟩ : ∃ z, z = surelyS xc st := ⟨_, rfl⟩
  obtain ⟨cx, hcx⟩ : ∃ z, z = canS xc st := ⟨_, rfl⟩
  obtain ⟨nl, nh, hnn⟩ : ∃ u v, profitS xc st = (u, v) := ⟨_, _, rfl⟩
  have HSAID := Lib.hid (show av = 0 → ax = 0 ∧ (sv = true → sx = true) ∧ (cv = true → cx = true) ∧ ol ≤ nl ∧ oh ≤ nh from fun ha => by
    have h := HMC.out.said (HAV.out.symm.trans ha)
    rw [HOL.out, hnn, ← hax, ← hsx, ← hcx, ← HSV.out, ← HCV.out] at h
    exact h)
  have HC := Lib.hid (fun (W : World) (h1 : StoreAt W W.heap.size xc) (h2 : Env W) => (show Calls Tryd.prog 21 #[.agg #[.slice xc.A1 xc.sheets.length xc.c1, .slice xc.A2 xc.lics.length xc.c2, .slice xc.A3 xc.makes.length xc.c3, .slice xc.A4 xc.wishes.length xc.c4], .int .i64 st] W (Ret3 (.bool sx) (.bool cx) (.int .i64 ax) W) from by have := Covered21_any xc st W h1 h2; rw [← hax, ← hsx, ← hcx] at this; exact this))
  have HP := Lib.hid (fun (W : World) (h1 : StoreAt W W.heap.size xc) (h2 : Env W) => (show Calls Tryd.prog 23 #[.agg #[.slice xc.A1 xc.sheets.length xc.c1, .slice xc.A2 xc.lics.length xc.c2, .slice xc.A3 xc.makes.length xc.c3, .slice xc.A4 xc.wishes.length xc.c4], .int .i64 st] W (RetP (nl, nh) ax W) from by have := Profit23_any xc st W h1 h2; rw [← hax, hnn] at this; exact this))
  clear hax hsx hcx hnn
  refine HA.out.mono ?_
  rintro e V19 ⟨rfl, hb⟩
  have K19 := Lib.hid (K18.out.next hb)
  have B19 := Lib.hid (B18.out.trans (hb.mono B18.out.size))
  have Q19 := Lib.hid (Q18.out.next hb)
  have X19 := Lib.hid (X18.out.next hb)
  clear hb K18 B18 Q18 X18 HA
  obtain ⟨-, q0, q1, q2, q3⟩ := id X19.out
  go_wp2_with fail
  refine (HC.out V19 K19.out.s2 K19.out.aw.en).mono ?_
  rintro e V20 ⟨rfl, hb⟩
  have K20 := Lib.hid (K19.out.next hb)
  have B20 := Lib.hid (B19.out.trans (hb.mono B19.out.size))
  have Q20 := Lib.hid (Q19.out.next hb)
  have X20 := Lib.hid (X19.out.next hb)
  clear hb K19 B19 Q19 X19 q0 q1 q2 q3 HC
  obtain ⟨-, q0, q1, q2, q3⟩ := id X20.out
  go_wp2_with fail
  refine (HP.out V20 K20.out.s2 K20.out.aw.en).mono ?_
  rintro e V21 ⟨rfl, hb⟩
  dsimp only
  replace hb := hb.alloc hb.size (.cells #[.int .i64 nl, .int .i64 nh] 44)
  have N21 := Lib.hid (IBlk.span V21 nl nh 44)
  have B21 := Lib.hid (B20.out.trans (hb.mono B20.out.size))
  have Q21 := Lib.hid (Q20.out.next hb)
  clear hb K20 B20 Q20 X20 q0 q1 q2 q3 HP
  obtain ⟨n0, n1⟩ := IBlk2.cells N21.out
  obtain ⟨z0, z1⟩ := IBlk2.cells Q21.out
  have d1 : decide (gn < gx) = false := by simp; omega
  by_cases ha : av = 0
  · obtain ⟨rfl, hS, hC, hl, hh⟩ := HSAID.out ha
    clear HSAID HAV HSV HCV HOL HGX
    subst ha
    have d2 : decide (nl < ol) = false := by simp; omega
    have d3 : decide (nh < oh) = false := by simp; omega
    cases sv <;> cases sx <;> cases cv <;> cases cx <;> simp at hS hC <;> clear hS hC
    all_goals
      go_wp2_with fail
      refine endM (by kernel_rfl) (by kernel_rfl) ?_ ?_
      · exact ⟨2, by omega, (slotF_at rfl).trans (by go_num), B21.out⟩
      · (simp [slotF, intOf, E24.out])
  · have d0 : (av == 0) = false := by simpa using ha
    clear HSAID ha
    go_wp2_with fail
    refine endM (by kernel_rfl) (by kernel_rfl) ?_ ?_
    · exact ⟨2, by omega, (slotF_at rfl).trans (by go_num), B21.out⟩
    · (simp [slotF, intOf, E24.out])
set_option maxRecDepth 100000 in
set_option maxHeartbeats 40000000 in
theorem StockMore_walk (s : Store) (st : Int) (y : Wish) (wh bi : Int) (w : World) (hr : StoreAt w w.heap.size s) (he : Env w) (wf3 : (Lit.int .u8 wh).wf = true) (wf4 : (Lit.int .u8 bi).wf = true) : Calls Tryd.prog 10 #[.agg #[.slice s.A1 s.sheets.length s.c1, .slice s.A2 s.lics.length s.c2, .slice s.A3 s.makes.length s.c3, .slice s.A4 s.wishes.length s.c4], .int .i64 st, .agg #[.int .i64 y.puz, .int .i64 y.many, .int .i64 y.hour, .int .i64 y.price, .int .i64 y.ship], .int .u8 wh, .int .u8 bi] w (Ret (.bool true) w) := by
  have hb0 := nxA (w.alloc (.cells #[.slice s.A1 s.sheets.length s.c1, .slice s.A2 s.lics.length s.c2, .slice s.A3 s.makes.length s.c3, .slice s.A4 s.wishes.length s.c4] 27)) (.cells #[.int .i64 y.puz, .int .i64 y.many, .int .i64 y.hour, .int .i64 y.price, .int .i64 y.ship] 57)
  have K1 := Lib.hid ((AwW.start hr he 27).next hb0)
  have B1 := Lib.hid ((nxA w (.cells #[.slice s.A1 s.sheets.length s.c1, .slice s.A2 s.lics.length s.c2, .slice s.A3 s.makes.length s.c3, .slice s.A4 s.wishes.length s.c4] 27)).trans (hb0.mono (by simp)))
  have Y1 := Lib.hid (WBox.new (w := w.alloc (.cells #[.slice s.A1 s.sheets.length s.c1, .slice s.A2 s.lics.length s.c2, .slice s.A3 s.makes.length s.c3, .slice s.A4 s.wishes.length s.c4] 27)) (g := w.heap.size + 1) (by simp) y 57)
  obtain ⟨wn, rfl, hwn⟩ : ∃ q : Nat, wh = (q : Int) ∧ q < 256 := by
    simp [Lit.wf, IntKind.min, IntKind.max, IntKind.bits, IntKind.signed] at wf3
    exact ⟨wh.toNat, by omega, by omega⟩
  obtain ⟨bn, rfl, hbn⟩ : ∃ q : Nat, bi = (q : Int) ∧ q < 256 := by
    simp [Lit.wf, IntKind.min, IntKind.max, IntKind.bits, IntKind.signed] at wf4
    exact ⟨bi.toNat, by omega, by omega⟩
  clear hr he wf3 wf4 hb0
  have p0 := True.intro
  have p1 := True.intro
  have p2 := True.intro
  have p3 := True.intro
  go_enter Tryd.func10, Tryd.ntmps10
  go_wp2_with fail
  generalize ((w.alloc (.cells #[.slice s.A1 s.sheets.length s.c1, .slice s.A2 s.lics.length s.c2, .slice s.A3 s.makes.length s.c3, .slice s.A4 s.wishes.length s.c4] 27)).alloc (.cells #[.int .i64 y.puz, .int .i64 y.many, .int .i64 y.hour, .int .i64 y.price, .int .i64 y.ship] 57)) = V1 at *
  refine (far_any s V1 K1.out.st).mono ?_
  rintro e V2 ⟨rfl, hb⟩
  have K2 := Lib.hid (K1.out.next hb)
  have B2 := Lib.hid (B1.out.trans (hb.mono B1.out.size))
  have Y2 := Lib.hid (Y1.out.next hb)
  clear hb K1 B1 Y1 p0 p1 p2 p3
  obtain ⟨-, -, -, p0, p1, p2, p3⟩ := id K2.out
  cases hf : farS s
  rotate_left
  · go_wp2_with fail
    refine (awake_any V2 K2.out.en).mono ?_
    rintro e VZ ⟨rfl, hb⟩
    have BZ := Lib.hid (B2.out.trans (hb.mono B2.out.size))
    clear hb
    go_wp2
    go_ret
    exact ⟨rfl, BZ.out⟩
  clear hf
  go_wp2_with fail
  refine (Store_any s V2 K2.out.st).mono ?_
  rintro e V3 ⟨rfl, hb⟩
  have K3 := Lib.hid (K2.out.next hb)
  have B3 := Lib.hid (B2.out.trans (hb.mono B2.out.size))
  have Y3 := Lib.hid (Y2.out.next hb)
  clear hb K2 B2 Y2 p0 p1 p2 p3
  obtain ⟨-, -, -, p0, p1, p2, p3⟩ := id K3.out
  cases hs : storeS s
  · clear hs
    go_wp2_with fail
    refine (awake_any V3 K3.out.en).mono ?_
    rintro e VZ ⟨rfl, hb⟩
    have BZ := Lib.hid (B3.out.trans (hb.mono B3.out.size))
    clear hb
    go_wp2
    go_ret
    exact ⟨rfl, BZ.out⟩
  have Hok := Lib.hid ((ok_iff s).1 hs)
  clear hs
  obtain ⟨gx, hgx⟩ : ∃ gx : Int, gx = G s (bestS s) := ⟨_, rfl⟩
  have HGX := Lib.hid hgx
  clear hgx
  go_wp2_with fail
  refine (show Calls Tryd.prog 26 #[.agg #[.slice s.A1 s.sheets.length s.c1, .slice s.A2 s.lics.length s.c2, .slice s.A3 s.makes.length s.c3, .slice s.A4 s.wishes.length s.c4]] V3 (Ret3 (.int .i64 (acSet s)) (.int .i64 gx) (.int .i64 0) V3) from by have := Accept26_any s V3 K3.out.st; rw [show acS s = 0 from if_pos ((ok_iff s).2 Hok.out), show acGain s = gx from (if_pos ((ok_iff s).2 Hok.out)).trans HGX.out.symm] at this; exact this).mono ?_
  rintro e V4 ⟨rfl, hb⟩
  have K4 := Lib.hid (K3.out.next hb)
  have B4 := Lib.hid (B3.out.trans (hb.mono B3.out.size))
  have Y4 := Lib.hid (Y3.out.next hb)
  clear hb K3 B3 Y3 p0 p1 p2 p3
  obtain ⟨-, -, -, p0, p1, p2, p3⟩ := id K4.out
  go_upto_region 6 with fail
  clear p0 p1 p2 p3
  go_cut [14, 15] (fun s14 s15 wx => M6 s V4 s14 s15 wx)
  case first =>
    as_aux_lemma =>
      have hc : Below V4.heap.size V4 V4.drew := (Below.refl _ _).drew
      refine wp_region_noPanic ?_
      refine wp_region_held_drew (S := (fun W => (W.cell? ⟨w.heap.size, 0, none⟩ = some (.slice s.A1 s.sheets.length s.c1) ∧ W.cell? ⟨w.heap.size, 1, none⟩ = some (.slice s.A2 s.lics.length s.c2) ∧ W.cell? ⟨w.heap.size, 2, none⟩ = some (.slice s.A3 s.makes.length s.c3) ∧ W.cell? ⟨w.heap.size, 3, none⟩ = some (.slice s.A4 s.wishes.length s.c4)))) (by as_aux_lemma => kernel_rfl) ?_ (fun hHeld => ?_)
      · (try dsimp only); exact (K4.out.next hc).bx.four
      refine htake (i := 0) (v := ?v13) rfl (by as_aux_lemma => kernel_rfl) (by as_aux_lemma => kernel_rfl) (by as_aux_lemma => kernel_rfl) (fun _ _ _ h => h) (Or.inl ⟨by rfl, ?hy13⟩) (by assumption) ?_
      case hy13 => (intro w hSw; (try dsimp only at hSw); go_simp; try (with_reducible rfl))
      try simp only [Act.put, List.setIfInBounds_toArray, List.set_cons_zero, List.set_cons_succ]
      refine htake (i := 1) (v := ?v14) rfl (by as_aux_lemma => kernel_rfl) (by as_aux_lemma => kernel_rfl) (by as_aux_lemma => kernel_rfl) (fun _ _ _ h => h) (Or.inl ⟨by rfl, ?hy14⟩) (by assumption) ?_
      case hy14 => (intro w hSw; (try dsimp only at hSw); go_simp; try (with_reducible rfl))
      try simp only [Act.put, List.setIfInBounds_toArray, List.set_cons_zero, List.set_cons_succ]
      refine wpAnyH_ready (rs := [2, 3]) (by as_aux_lemma => kernel_rfl) (by simp) ?_
      refine hcons rfl (fun K hK => ?_) (hcons rfl (fun K hK => ?_) (AllReadyH.nil))
      go_simp
      have hx14 := al_newA hc (.cells #[.slice none 0 0, .slice none 0 0, .slice none 0 0, .slice none 0 0] 27); (try simp only [World.size_alloc] at hx14); (try simp only [sz_drewA] at hx14); (try replace hx15 := al_oldA hx15 (.cells #[.slice none 0 0, .slice none 0 0, .slice none 0 0, .slice none 0 0] 27)); replace hc := hc.alloc hc.size (.cells #[.slice none 0 0, .slice none 0 0, .slice none 0 0, .slice none 0 0] 27)
      refine hK.out _ _ ?_ (fun hHeld => ?_)
      · (try dsimp only); exact (K4.out.next hc).bx.four
      clear hK K
      try simp only [Act.put, List.setIfInBounds_toArray, List.set_cons_zero, List.set_cons_succ]
      refine wpAnyH_ready (rs := [3]) (by as_aux_lemma => kernel_rfl) (by simp) ?_
      refine hcons rfl (fun K hK => ?_) (AllReadyH.nil)
      go_simp
      have hx15 := al_newA hc (.cells #[.slice none 0 0, .slice none 0 0, .slice none 0 0, .slice none 0 0] 27); (try simp only [World.size_alloc] at hx15); (try simp only [sz_drewA] at hx15); (try replace hx14 := al_oldA hx14 (.cells #[.slice none 0 0, .slice none 0 0, .slice none 0 0, .slice none 0 0] 27)); replace hc := hc.alloc hc.size (.cells #[.slice none 0 0, .slice none 0 0, .slice none 0 0, .slice none 0 0] 27)
      refine hK.out _ _ ?_ (fun hHeld => ?_)
      · (try dsimp only); exact (K4.out.next hc).bx.four
      clear hK K
      try simp only [Act.put, List.setIfInBounds_toArray, List.set_cons_zero, List.set_cons_succ]
      refine wpAnyH_ready (rs := [4]) (by as_aux_lemma => kernel_rfl) (by simp) ?_
      refine hcons rfl (fun K hK => ?_) (AllReadyH.nil)
      refine step_store_rowA rfl 27 (.tmp 14) (.tmp 54) rfl _ _ rfl rfl 27 _ hx14 (by as_aux_lemma => kernel_rfl) rfl (by simp [Value.oneCell']) ?_
      refine hK.out _ _ ?_ (fun hHeld => ?_)
      · (try dsimp only); exact (K4.out.next (below_setRow hc (by omega) _)).bx.four
      clear hK K
      try simp only [Act.put]
      refine wpAnyH_ready (rs := [5]) (by as_aux_lemma => kernel_rfl) (by simp) ?_
      refine hcons rfl (fun K hK => ?_) (AllReadyH.nil)
      refine step_store_rowA rfl 27 (.tmp 15) (.tmp 55) rfl _ _ rfl rfl 27 _ ((setRow_other _ _ _ _ (by omega)).trans hx15) (by as_aux_lemma => kernel_rfl) rfl (by simp [Value.oneCell']) ?_
      refine hK.out _ _ ?_ (fun hHeld => ?_)
      · (try dsimp only); exact (K4.out.next (below_setRow (below_setRow hc (by omega) _) (by omega) _)).bx.four
      clear hK K
      try simp only [Act.put]
      refine wpAnyH_done (by as_aux_lemma => kernel_rfl) ?_ _
      refine NoPanic.normal ?_
      rotate_left
      go_simp
      have hx15 := al_newA hc (.cells #[.slice none 0 0, .slice none 0 0, .slice none 0 0, .slice none 0 0] 27); (try simp only [World.size_alloc] at hx15); (try simp only [sz_drewA] at hx15); (try replace hx14 := al_oldA hx14 (.cells #[.slice none 0 0, .slice none 0 0, .slice none 0 0, .slice none 0 0] 27)); replace hc := hc.alloc hc.size (.cells #[.slice none 0 0, .slice none 0 0, .slice none 0 0, .slice none 0 0] 27)
      refine hK.out _ _ ?_ (fun hHeld => ?_)
      · (try dsimp only); exact (K4.out.next hc).bx.four
      clear hK K
      try simp only [Act.put, List.setIfInBounds_toArray, List.set_cons_zero, List.set_cons_succ]
      refine wpAnyH_ready (rs := [2]) (by as_aux_lemma => kernel_rfl) (by simp) ?_
      refine hcons rfl (fun K hK => ?_) (AllReadyH.nil)
      go_simp
      have hx14 := al_newA hc (.cells #[.slice none 0 0, .slice none 0 0, .slice none 0 0, .slice none 0 0] 27); (try simp only [World.size_alloc] at hx14); (try simp only [sz_drewA] at hx14); (try replace hx15 := al_oldA hx15 (.cells #[.slice none 0 0, .slice none 0 0, .slice none 0 0, .slice none 0 0] 27)); replace hc := hc.alloc hc.size (.cells #[.slice none 0 0, .slice none 0 0, .slice none 0 0, .slice none 0 0] 27)
      refine hK.out _ _ ?_ (fun hHeld => ?_)
      · (try dsimp only); exact (K4.out.next hc).bx.four
      clear hK K
      try simp only [Act.put, List.setIfInBounds_toArray, List.set_cons_zero, List.set_cons_succ]
      refine wpAnyH_ready (rs := [4]) (by as_aux_lemma => kernel_rfl) (by simp) ?_
      refine hcons rfl (fun K hK => ?_) (AllReadyH.nil)
      refine step_store_rowA rfl 27 (.tmp 14) (.tmp 54) rfl _ _ rfl rfl 27 _ hx14 (by as_aux_lemma => kernel_rfl) rfl (by simp [Value.oneCell']) ?_
      refine hK.out _ _ ?_ (fun hHeld => ?_)
      · (try dsimp only); exact (K4.out.next (below_setRow hc (by omega) _)).bx.four
      clear hK K
      try simp only [Act.put]
      refine wpAnyH_ready (rs := [5]) (by as_aux_lemma => kernel_rfl) (by simp) ?_
      refine hcons rfl (fun K hK => ?_) (AllReadyH.nil)
      refine step_store_rowA rfl 27 (.tmp 15) (.tmp 55) rfl _ _ rfl rfl 27 _ ((setRow_other _ _ _ _ (by omega)).trans hx15) (by as_aux_lemma => kernel_rfl) rfl (by simp [Value.oneCell']) ?_
      refine hK.out _ _ ?_ (fun hHeld => ?_)
      · (try dsimp only); exact (K4.out.next (below_setRow (below_setRow hc (by omega) _) (by omega) _)).bx.four
      clear hK K
      try simp only [Act.put]
      refine wpAnyH_done (by as_aux_lemma => kernel_rfl) ?_ _
      refine NoPanic.normal ?_
      iterate 7 (try clear hHeld)
      all_goals
        go_wp2_with fail
        go_meet
        exact ⟨_, _, rfl, rfl, by omega, by omega, by omega, (setRow_other _ _ _ _ (by omega)).trans (setRow_heap _ _ _ _ _ _ hx14), setRow_heap _ _ _ _ _ _ ((setRow_other _ _ _ _ (by omega)).trans hx15), below_setRow (below_setRow hc (by omega) _) (by omega) _⟩
  case rest =>
    obtain ⟨b14, b15, rfl, rfl, n14, n15, hne, r14, r15, hb⟩ := hcut
    generalize wc = V5 at *
    have hblt : b14 < V5.heap.size := (Array.getElem?_eq_some_iff.1 r14).1
    have hblt2 : b15 < V5.heap.size := (Array.getElem?_eq_some_iff.1 r15).1
    have hz4 : w.heap.size < V4.heap.size := K4.out.bx.lt
    have hns := Hok.out.ns
    have hnl := Hok.out.nl
    obtain ⟨bS, oS, e1, hbS, -⟩ := K4.out.st.sheets.at (k := 0) (by omega) ⟨0, 0, 0⟩
    obtain ⟨bL, oL, e2, hbL, -⟩ := K4.out.st.lics.at (k := 0) (by omega) ⟨0, 0, 0, 0⟩
    have E1 := Lib.hid e1
    have E2 := Lib.hid e2
    clear e1 e2
    have hp0 := (K4.out.next hb).bx.c0
    have hp1 := (K4.out.next hb).bx.c1
    rw [E1.out] at hp0
    rw [E2.out] at hp1
    have hatS := (K4.out.next hb).st.sheets
    have hatL := (K4.out.next hb).st.lics
    rw [E1.out] at hatS
    rw [E2.out] at hatL
    obtain ⟨iS, hS0, hS1, hS2, hS3⟩ := info_parts sheet_infoA
    obtain ⟨iL, hL0, hL1, hL2, hL3⟩ := info_parts lic_info
    have hrow := r14
    have hB := hb
    have hsz5 := hb.size
    clear hb
    have HS := Lib.hid (show ∀ W : World, (∀ o, W.cell? ⟨w.heap.size, o, none⟩ = V5.cell? ⟨w.heap.size, o, none⟩) → (W.cell? ⟨w.heap.size, 0, none⟩ = some (.slice (some ⟨bS, oS, none⟩) s.sheets.length s.c1) ∧ W.cell? ⟨w.heap.size, 1, none⟩ = some (.slice (some ⟨bL, oL, none⟩) s.lics.length s.c2)) from fun W h => ⟨(h _).trans hp0, (h _).trans hp1⟩)
    have HNS := Lib.hid (fun (W : World) (h : Below V5.heap.size V5 W) => at_flat sheet_len (hatS.below h))
    have HNL := Lib.hid (fun (W : World) (h : Below V5.heap.size V5 W) => at_flat lic_len (hatL.below h))
    clear hatS hatL hp0 hp1
    go_upto_region 7 with fail
    go_cut [] (fun wx => Mc s V4 V5 b14 wx)
    case first =>
      as_aux_lemma =>
        have hc : Below V5.heap.size V5 V5.drew := (Below.refl _ _).drew
        have hwV : w.heap.size < V5.heap.size := by omega
        refine wp_region_noPanic ?_
        refine wp_region_held_drew (S := (fun W => (W.cell? ⟨w.heap.size, 0, none⟩ = some (.slice (some ⟨bS, oS, none⟩) s.sheets.length s.c1) ∧ W.cell? ⟨w.heap.size, 1, none⟩ = some (.slice (some ⟨bL, oL, none⟩) s.lics.length s.c2)))) (by as_aux_lemma => kernel_rfl) ?_ (fun hHeld => ?_)
        · (try dsimp only); exact HS.out _ (fun o => (bcell hc).1 _ _ hwV)
        refine htake (i := 1) (v := ?v15) rfl (by as_aux_lemma => kernel_rfl) (by as_aux_lemma => kernel_rfl) (by as_aux_lemma => kernel_rfl) (fun _ _ _ h => h) (Or.inl ⟨by rfl, ?hy15⟩) (by assumption) ?_
        case hy15 => (intro w hSw; (try dsimp only at hSw); go_simp; try (with_reducible rfl))
        try simp only [Act.put, List.setIfInBounds_toArray, List.set_cons_zero, List.set_cons_succ]
        refine htake (i := 2) (v := ?v16) rfl (by as_aux_lemma => kernel_rfl) (by as_aux_lemma => kernel_rfl) (by as_aux_lemma => kernel_rfl) (fun _ _ _ h => h) (Or.inl ⟨by rfl, ?hy16⟩) (by assumption) ?_
        case hy16 => (intro w hSw; (try dsimp only at hSw); go_simp; try (with_reducible rfl))
        try simp only [Act.put, List.setIfInBounds_toArray, List.set_cons_zero, List.set_cons_succ]
        refine htake (i := 5) (v := ?v17) rfl (by as_aux_lemma => kernel_rfl) (by as_aux_lemma => kernel_rfl) (by as_aux_lemma => kernel_rfl) (fun _ _ _ h => h) (Or.inl ⟨by rfl, ?hy17⟩) (by assumption) ?_
        case hy17 => (intro w hSw; (try dsimp only at hSw); go_simp; try (with_reducible rfl))
        try simp only [Act.put, List.setIfInBounds_toArray, List.set_cons_zero, List.set_cons_succ]
        refine htake (i := 6) (v := ?v18) rfl (by as_aux_lemma => kernel_rfl) (by as_aux_lemma => kernel_rfl) (by as_aux_lemma => kernel_rfl) (fun _ _ _ h => h) (Or.inl ⟨by rfl, ?hy18⟩) (by assumption) ?_
        case hy18 => (intro w hSw; (try dsimp only at hSw); go_simp; try (with_reducible rfl))
        try simp only [Act.put, List.setIfInBounds_toArray, List.set_cons_zero, List.set_cons_succ]
        refine wpAnyH_ready (rs := [0, 4]) (by as_aux_lemma => kernel_rfl) (by simp) ?_
        refine hcons rfl (fun K hK => ?_) (hcons rfl (fun K hK => ?_) (AllReadyH.nil))
        go_simp
        have hS := own_empty hc 54 3; (try simp only [World.size_alloc] at hS); (try simp only [sz_drewA] at hS); (try replace hL := hL.alloc (.cells #[] 54)); replace hc := hc.alloc hc.size (.cells #[] 54)
        refine hK.out _ _ ?_ (fun hHeld => ?_)
        · (try dsimp only); exact HS.out _ (fun o => (bcell hc).1 _ _ hwV)
        clear hK K
        try simp only [Act.put, List.setIfInBounds_toArray, List.set_cons_zero, List.set_cons_succ]
        refine wpAnyH_ready (rs := [3, 4]) (by as_aux_lemma => kernel_rfl) (by simp) ?_
        refine hcons rfl (fun K hK => ?_) (hcons rfl (fun K hK => ?_) (AllReadyH.nil))
        (refine step_append_lies _ rfl (.tmp 56) (.tmp 58) 22 rfl V5.heap.size 54 iS (.agg #[.int .i64 0, .int .i64 0, .int .i64 0]) 3 24 Tryd.underlying22 hS0 hS1 hS2 hS3 rfl (by decide) (.slice (some ⟨_, 0, none⟩) 0 0) 0 [] rfl hS ⟨bS, oS, none⟩ s.sheets.length s.c1 (s.sheets.flatMap Sheet.cells) rfl (flat_len sheet_len _) (HNS.out _ hc) sheet_one (by omega) (by unfold maxLen; omega) (by omega) hc.size _ rfl ?_); intro g1 cap1 w3 hown3 hgrow hgg hlt3; (try replace hL := own_grown hL hS hgrow (by decide)); replace hc := grow_below hc hgrow (fun k hk => (hS.lt k hk).1); replace hS := hown3; simp only [Nat.zero_add, List.nil_append] at hS; clear hgrow hgg hown3; (try simp only [Nat.zero_add])
        refine hK.out _ _ ?_ (fun hHeld => ?_)
        · (try dsimp only); exact HS.out _ (fun o => (bcell hc).1 _ _ hwV)
        clear hK K
        try simp only [Act.put, List.setIfInBounds_toArray, List.set_cons_zero, List.set_cons_succ]
        refine htake (i := 8) (v := ?v19) rfl (by as_aux_lemma => kernel_rfl) (by as_aux_lemma => kernel_rfl) (by as_aux_lemma => kernel_rfl) (fun _ _ _ h => h) (Or.inl ⟨by rfl, ?hy19⟩) (by assumption) ?_
        case hy19 => (intro w hSw; (try dsimp only at hSw); go_simp; try (with_reducible rfl))
        try simp only [Act.put, List.setIfInBounds_toArray, List.set_cons_zero, List.set_cons_succ]
        refine wpAnyH_ready (rs := [4]) (by as_aux_lemma => kernel_rfl) (by simp) ?_
        refine hcons rfl (fun K hK => ?_) (AllReadyH.nil)
        go_simp
        have hL := own_empty hc 59 4; (try simp only [World.size_alloc] at hL); (try simp only [sz_drewA] at hL); (try replace hS := hS.alloc (.cells #[] 59)); replace hc := hc.alloc hc.size (.cells #[] 59)
        refine hK.out _ _ ?_ (fun hHeld => ?_)
        · (try dsimp only); exact HS.out _ (fun o => (bcell hc).1 _ _ hwV)
        clear hK K
        try simp only [Act.put, List.setIfInBounds_toArray, List.set_cons_zero, List.set_cons_succ]
        refine wpAnyH_ready (rs := [7]) (by as_aux_lemma => kernel_rfl) (by simp) ?_
        refine hcons rfl (fun K hK => ?_) (AllReadyH.nil)
        (refine step_append_lies _ rfl (.tmp 60) (.tmp 62) 23 rfl V5.heap.size 59 iL (.agg #[.int .i64 0, .int .i64 0, .int .i64 0, .int .i64 0]) 4 32 Tryd.underlying23 hL0 hL1 hL2 hL3 rfl (by decide) (.slice (some ⟨_, 0, none⟩) 0 0) 0 [] rfl hL ⟨bL, oL, none⟩ s.lics.length s.c2 (s.lics.flatMap Licence.cells) rfl (flat_len lic_len _) (HNL.out _ hc) lic_one (by omega) (by unfold maxLen; omega) (by omega) hc.size _ rfl ?_); intro g2 cap2 w7 hown7 hgrow hgg hlt7; replace hS := own_grown hS hL hgrow (by decide); replace hc := grow_below hc hgrow (fun k hk => (hL.lt k hk).1); replace hL := hown7; simp only [Nat.zero_add, List.nil_append] at hL; clear hgrow hgg hown7; (try simp only [Nat.zero_add]); have q14 := (hc.block b14 hblt).trans hrow; have cc0 : w7.cell? ⟨b14, 0, none⟩ = some (.slice s.A1 s.sheets.length s.c1) := (cell_of_row w7 _ 0 _ _ _ q14).trans rfl; have cc1 : w7.cell? ⟨b14, 1, none⟩ = some (.slice s.A2 s.lics.length s.c2) := (cell_of_row w7 _ 1 _ _ _ q14).trans rfl; have cf0 : w7.frozen? ⟨b14, 0, none⟩ = false := frozen_of_row w7 _ 0 _ _ q14; have cf1 : w7.frozen? ⟨b14, 1, none⟩ = false := frozen_of_row w7 _ 1 _ _ q14
        refine hK.out _ _ ?_ (fun hHeld => ?_)
        · (try dsimp only); exact HS.out _ (fun o => (bcell hc).1 _ _ hwV)
        clear hK K
        try simp only [Act.put, List.setIfInBounds_toArray, List.set_cons_zero, List.set_cons_succ]
        refine wpAnyH_ready (rs := [9]) (by as_aux_lemma => kernel_rfl) (by simp) ?_
        refine hcons rfl (fun K hK => ?_) (AllReadyH.nil)
        go_simp
        skip
        refine hK.out _ _ ?_ (fun hHeld => ?_)
        · (try dsimp only); exact HS.out _ (fun o => (World.cell?_setCell_other _ _ _ _ (by intro e; injection e with e; omega)).trans ((bcell hc).1 _ _ hwV))
        clear hK K
        try simp only [Act.put, List.setIfInBounds_toArray, List.set_cons_zero, List.set_cons_succ]
        refine htake (i := 10) (v := ?v20) rfl (by as_aux_lemma => kernel_rfl) (by as_aux_lemma => kernel_rfl) (by as_aux_lemma => kernel_rfl) (fun _ _ _ h => h) (Or.inl ⟨by rfl, ?hy20⟩) (by assumption) ?_
        case hy20 => (intro w hSw; (try dsimp only at hSw); go_simp; try (with_reducible rfl))
        try simp only [Act.put, List.setIfInBounds_toArray, List.set_cons_zero, List.set_cons_succ]
        refine wpAnyH_ready (rs := [11]) (by as_aux_lemma => kernel_rfl) (by simp) ?_
        refine hcons rfl (fun K hK => ?_) (AllReadyH.nil)
        go_simp
        skip
        refine hK.out _ _ ?_ (fun hHeld => ?_)
        · (try dsimp only); exact HS.out _ (fun o => (World.cell?_setCell_other _ _ _ _ (by intro e; injection e with e; omega)).trans ((World.cell?_setCell_other _ _ _ _ (by intro e; injection e with e; omega)).trans ((bcell hc).1 _ _ hwV)))
        clear hK K
        try simp only [Act.put, List.setIfInBounds_toArray, List.set_cons_zero, List.set_cons_succ]
        refine wpAnyH_done (by as_aux_lemma => kernel_rfl) ?_ _
        refine NoPanic.normal ?_
        rotate_left
        go_simp
        have hL := own_empty hc 59 4; (try simp only [World.size_alloc] at hL); (try simp only [sz_drewA] at hL); (try replace hS := hS.alloc (.cells #[] 59)); replace hc := hc.alloc hc.size (.cells #[] 59)
        refine hK.out _ _ ?_ (fun hHeld => ?_)
        · (try dsimp only); exact HS.out _ (fun o => (bcell hc).1 _ _ hwV)
        clear hK K
        try simp only [Act.put, List.setIfInBounds_toArray, List.set_cons_zero, List.set_cons_succ]
        refine wpAnyH_ready (rs := [3]) (by as_aux_lemma => kernel_rfl) (by simp) ?_
        refine hcons rfl (fun K hK => ?_) (AllReadyH.nil)
        (refine step_append_lies _ rfl (.tmp 56) (.tmp 58) 22 rfl V5.heap.size 54 iS (.agg #[.int .i64 0, .int .i64 0, .int .i64 0]) 3 24 Tryd.underlying22 hS0 hS1 hS2 hS3 rfl (by decide) (.slice (some ⟨_, 0, none⟩) 0 0) 0 [] rfl hS ⟨bS, oS, none⟩ s.sheets.length s.c1 (s.sheets.flatMap Sheet.cells) rfl (flat_len sheet_len _) (HNS.out _ hc) sheet_one (by omega) (by unfold maxLen; omega) (by omega) hc.size _ rfl ?_); intro g1 cap1 w3 hown3 hgrow hgg hlt3; (try replace hL := own_grown hL hS hgrow (by decide)); replace hc := grow_below hc hgrow (fun k hk => (hS.lt k hk).1); replace hS := hown3; simp only [Nat.zero_add, List.nil_append] at hS; clear hgrow hgg hown3; (try simp only [Nat.zero_add])
        refine hK.out _ _ ?_ (fun hHeld => ?_)
        · (try dsimp only); exact HS.out _ (fun o => (bcell hc).1 _ _ hwV)
        clear hK K
        try simp only [Act.put, List.setIfInBounds_toArray, List.set_cons_zero, List.set_cons_succ]
        refine htake (i := 8) (v := ?v21) rfl (by as_aux_lemma => kernel_rfl) (by as_aux_lemma => kernel_rfl) (by as_aux_lemma => kernel_rfl) (fun _ _ _ h => h) (Or.inl ⟨by rfl, ?hy21⟩) (by assumption) ?_
        case hy21 => (intro w hSw; (try dsimp only at hSw); go_simp; try (with_reducible rfl))
        try simp only [Act.put, List.setIfInBounds_toArray, List.set_cons_zero, List.set_cons_succ]
        refine wpAnyH_ready (rs := [7]) (by as_aux_lemma => kernel_rfl) (by simp) ?_
        refine hcons rfl (fun K hK => ?_) (AllReadyH.nil)
        (refine step_append_lies _ rfl (.tmp 60) (.tmp 62) 23 rfl V5.heap.size 59 iL (.agg #[.int .i64 0, .int .i64 0, .int .i64 0, .int .i64 0]) 4 32 Tryd.underlying23 hL0 hL1 hL2 hL3 rfl (by decide) (.slice (some ⟨_, 0, none⟩) 0 0) 0 [] rfl hL ⟨bL, oL, none⟩ s.lics.length s.c2 (s.lics.flatMap Licence.cells) rfl (flat_len lic_len _) (HNL.out _ hc) lic_one (by omega) (by unfold maxLen; omega) (by omega) hc.size _ rfl ?_); intro g2 cap2 w7 hown7 hgrow hgg hlt7; replace hS := own_grown hS hL hgrow (by decide); replace hc := grow_below hc hgrow (fun k hk => (hL.lt k hk).1); replace hL := hown7; simp only [Nat.zero_add, List.nil_append] at hL; clear hgrow hgg hown7; (try simp only [Nat.zero_add]); have q14 := (hc.block b14 hblt).trans hrow; have cc0 : w7.cell? ⟨b14, 0, none⟩ = some (.slice s.A1 s.sheets.length s.c1) := (cell_of_row w7 _ 0 _ _ _ q14).trans rfl; have cc1 : w7.cell? ⟨b14, 1, none⟩ = some (.slice s.A2 s.lics.length s.c2) := (cell_of_row w7 _ 1 _ _ _ q14).trans rfl; have cf0 : w7.frozen? ⟨b14, 0, none⟩ = false := frozen_of_row w7 _ 0 _ _ q14; have cf1 : w7.frozen? ⟨b14, 1, none⟩ = false := frozen_of_row w7 _ 1 _ _ q14
        refine hK.out _ _ ?_ (fun hHeld => ?_)
        · (try dsimp only); exact HS.out _ (fun o => (bcell hc).1 _ _ hwV)
        clear hK K
        try simp only [Act.put, List.setIfInBounds_toArray, List.set_cons_zero, List.set_cons_succ]
        refine wpAnyH_ready (rs := [9]) (by as_aux_lemma => kernel_rfl) (by simp) ?_
        refine hcons rfl (fun K hK => ?_) (AllReadyH.nil)
        go_simp
        skip
        refine hK.out _ _ ?_ (fun hHeld => ?_)
        · (try dsimp only); exact HS.out _ (fun o => (World.cell?_setCell_other _ _ _ _ (by intro e; injection e with e; omega)).trans ((bcell hc).1 _ _ hwV))
        clear hK K
        try simp only [Act.put, List.setIfInBounds_toArray, List.set_cons_zero, List.set_cons_succ]
        refine htake (i := 10) (v := ?v22) rfl (by as_aux_lemma => kernel_rfl) (by as_aux_lemma => kernel_rfl) (by as_aux_lemma => kernel_rfl) (fun _ _ _ h => h) (Or.inl ⟨by rfl, ?hy22⟩) (by assumption) ?_
        case hy22 => (intro w hSw; (try dsimp only at hSw); go_simp; try (with_reducible rfl))
        try simp only [Act.put, List.setIfInBounds_toArray, List.set_cons_zero, List.set_cons_succ]
        refine wpAnyH_ready (rs := [11]) (by as_aux_lemma => kernel_rfl) (by simp) ?_
        refine hcons rfl (fun K hK => ?_) (AllReadyH.nil)
        go_simp
        skip
        refine hK.out _ _ ?_ (fun hHeld => ?_)
        · (try dsimp only); exact HS.out _ (fun o => (World.cell?_setCell_other _ _ _ _ (by intro e; injection e with e; omega)).trans ((World.cell?_setCell_other _ _ _ _ (by intro e; injection e with e; omega)).trans ((bcell hc).1 _ _ hwV)))
        clear hK K
        try simp only [Act.put, List.setIfInBounds_toArray, List.set_cons_zero, List.set_cons_succ]
        refine wpAnyH_done (by as_aux_lemma => kernel_rfl) ?_ _
        refine NoPanic.normal ?_
        rotate_left
        go_simp
        have hL := own_empty hc 59 4; (try simp only [World.size_alloc] at hL); (try simp only [sz_drewA] at hL); (try replace hS := hS.alloc (.cells #[] 59)); replace hc := hc.alloc hc.size (.cells #[] 59)
        refine hK.out _ _ ?_ (fun hHeld => ?_)
        · (try dsimp only); exact HS.out _ (fun o => (bcell hc).1 _ _ hwV)
        clear hK K
        try simp only [Act.put, List.setIfInBounds_toArray, List.set_cons_zero, List.set_cons_succ]
        refine wpAnyH_ready (rs := [0]) (by as_aux_lemma => kernel_rfl) (by simp) ?_
        refine hcons rfl (fun K hK => ?_) (AllReadyH.nil)
        go_simp
        have hS := own_empty hc 54 3; (try simp only [World.size_alloc] at hS); (try simp only [sz_drewA] at hS); (try replace hL := hL.alloc (.cells #[] 54)); replace hc := hc.alloc hc.size (.cells #[] 54)
        refine hK.out _ _ ?_ (fun hHeld => ?_)
        · (try dsimp only); exact HS.out _ (fun o => (bcell hc).1 _ _ hwV)
        clear hK K
        try simp only [Act.put, List.setIfInBounds_toArray, List.set_cons_zero, List.set_cons_succ]
        refine wpAnyH_ready (rs := [3]) (by as_aux_lemma => kernel_rfl) (by simp) ?_
        refine hcons rfl (fun K hK => ?_) (AllReadyH.nil)
        (refine step_append_lies _ rfl (.tmp 56) (.tmp 58) 22 rfl V5.heap.size 54 iS (.agg #[.int .i64 0, .int .i64 0, .int .i64 0]) 3 24 Tryd.underlying22 hS0 hS1 hS2 hS3 rfl (by decide) (.slice (some ⟨_, 0, none⟩) 0 0) 0 [] rfl hS ⟨bS, oS, none⟩ s.sheets.length s.c1 (s.sheets.flatMap Sheet.cells) rfl (flat_len sheet_len _) (HNS.out _ hc) sheet_one (by omega) (by unfold maxLen; omega) (by omega) hc.size _ rfl ?_); intro g1 cap1 w3 hown3 hgrow hgg hlt3; (try replace hL := own_grown hL hS hgrow (by decide)); replace hc := grow_below hc hgrow (fun k hk => (hS.lt k hk).1); replace hS := hown3; simp only [Nat.zero_add, List.nil_append] at hS; clear hgrow hgg hown3; (try simp only [Nat.zero_add])
        refine hK.out _ _ ?_ (fun hHeld => ?_)
        · (try dsimp only); exact HS.out _ (fun o => (bcell hc).1 _ _ hwV)
        clear hK K
        try simp only [Act.put, List.setIfInBounds_toArray, List.set_cons_zero, List.set_cons_succ]
        refine htake (i := 8) (v := ?v23) rfl (by as_aux_lemma => kernel_rfl) (by as_aux_lemma => kernel_rfl) (by as_aux_lemma => kernel_rfl) (fun _ _ _ h => h) (Or.inl ⟨by rfl, ?hy23⟩) (by assumption) ?_
        case hy23 => (intro w hSw; (try dsimp only at hSw); go_simp; try (with_reducible rfl))
        try simp only [Act.put, List.setIfInBounds_toArray, List.set_cons_zero, List.set_cons_succ]
        refine wpAnyH_ready (rs := [7]) (by as_aux_lemma => kernel_rfl) (by simp) ?_
        refine hcons rfl (fun K hK => ?_) (AllReadyH.nil)
        (refine step_append_lies _ rfl (.tmp 60) (.tmp 62) 23 rfl V5.heap.size 59 iL (.agg #[.int .i64 0, .int .i64 0, .int .i64 0, .int .i64 0]) 4 32 Tryd.underlying23 hL0 hL1 hL2 hL3 rfl (by decide) (.slice (some ⟨_, 0, none⟩) 0 0) 0 [] rfl hL ⟨bL, oL, none⟩ s.lics.length s.c2 (s.lics.flatMap Licence.cells) rfl (flat_len lic_len _) (HNL.out _ hc) lic_one (by omega) (by unfold maxLen; omega) (by omega) hc.size _ rfl ?_); intro g2 cap2 w7 hown7 hgrow hgg hlt7; replace hS := own_grown hS hL hgrow (by decide); replace hc := grow_below hc hgrow (fun k hk => (hL.lt k hk).1); replace hL := hown7; simp only [Nat.zero_add, List.nil_append] at hL; clear hgrow hgg hown7; (try simp only [Nat.zero_add]); have q14 := (hc.block b14 hblt).trans hrow; have cc0 : w7.cell? ⟨b14, 0, none⟩ = some (.slice s.A1 s.sheets.length s.c1) := (cell_of_row w7 _ 0 _ _ _ q14).trans rfl; have cc1 : w7.cell? ⟨b14, 1, none⟩ = some (.slice s.A2 s.lics.length s.c2) := (cell_of_row w7 _ 1 _ _ _ q14).trans rfl; have cf0 : w7.frozen? ⟨b14, 0, none⟩ = false := frozen_of_row w7 _ 0 _ _ q14; have cf1 : w7.frozen? ⟨b14, 1, none⟩ = false := frozen_of_row w7 _ 1 _ _ q14
        refine hK.out _ _ ?_ (fun hHeld => ?_)
        · (try dsimp only); exact HS.out _ (fun o => (bcell hc).1 _ _ hwV)
        clear hK K
        try simp only [Act.put, List.setIfInBounds_toArray, List.set_cons_zero, List.set_cons_succ]
        refine wpAnyH_ready (rs := [9]) (by as_aux_lemma => kernel_rfl) (by simp) ?_
        refine hcons rfl (fun K hK => ?_) (AllReadyH.nil)
        go_simp
        skip
        refine hK.out _ _ ?_ (fun hHeld => ?_)
        · (try dsimp only); exact HS.out _ (fun o => (World.cell?_setCell_other _ _ _ _ (by intro e; injection e with e; omega)).trans ((bcell hc).1 _ _ hwV))
        clear hK K
        try simp only [Act.put, List.setIfInBounds_toArray, List.set_cons_zero, List.set_cons_succ]
        refine htake (i := 10) (v := ?v24) rfl (by as_aux_lemma => kernel_rfl) (by as_aux_lemma => kernel_rfl) (by as_aux_lemma => kernel_rfl) (fun _ _ _ h => h) (Or.inl ⟨by rfl, ?hy24⟩) (by assumption) ?_
        case hy24 => (intro w hSw; (try dsimp only at hSw); go_simp; try (with_reducible rfl))
        try simp only [Act.put, List.setIfInBounds_toArray, List.set_cons_zero, List.set_cons_succ]
        refine wpAnyH_ready (rs := [11]) (by as_aux_lemma => kernel_rfl) (by simp) ?_
        refine hcons rfl (fun K hK => ?_) (AllReadyH.nil)
        go_simp
        skip
        refine hK.out _ _ ?_ (fun hHeld => ?_)
        · (try dsimp only); exact HS.out _ (fun o => (World.cell?_setCell_other _ _ _ _ (by intro e; injection e with e; omega)).trans ((World.cell?_setCell_other _ _ _ _ (by intro e; injection e with e; omega)).trans ((bcell hc).1 _ _ hwV)))
        clear hK K
        try simp only [Act.put, List.setIfInBounds_toArray, List.set_cons_zero, List.set_cons_succ]
        refine wpAnyH_done (by as_aux_lemma => kernel_rfl) ?_ _
        refine NoPanic.normal ?_
        iterate 13 (try clear hHeld)
        all_goals
          go_wp2_with fail
          go_meet
          exact Mc.end (by omega) hblt hB hc q14 hS hL
    case rest =>
      obtain ⟨gS, cS, gL, cL, r14', hoS, hoL, hkeep, hB, hsz⟩ := hcut
      generalize wc = V6 at *
      have hrow := (hkeep b15 (by omega) (Ne.symm hne)).trans r15
      have hblt : b15 < V6.heap.size := by omega
      have hp0 := (K4.out.next hB).bx.c0
      have hp1 := (K4.out.next hB).bx.c1
      rw [E1.out] at hp0
      rw [E2.out] at hp1
      have hatS := (K4.out.next hB).st.sheets
      have hatL := (K4.out.next hB).st.lics
      rw [E1.out] at hatS
      rw [E2.out] at hatL
      clear HS HNS HNL
      have HS := Lib.hid (show ∀ W : World, (∀ o, W.cell? ⟨w.heap.size, o, none⟩ = V6.cell? ⟨w.heap.size, o, none⟩) → (W.cell? ⟨w.heap.size, 0, none⟩ = some (.slice (some ⟨bS, oS, none⟩) s.sheets.length s.c1) ∧ W.cell? ⟨w.heap.size, 1, none⟩ = some (.slice (some ⟨bL, oL, none⟩) s.lics.length s.c2)) from fun W h => ⟨(h _).trans hp0, (h _).trans hp1⟩)
      have HNS := Lib.hid (fun (W : World) (h : Below V6.heap.size V6 W) => at_flat sheet_len (hatS.below h))
      have HNL := Lib.hid (fun (W : World) (h : Below V6.heap.size V6 W) => at_flat lic_len (hatL.below h))
      clear hatS hatL hp0 hp1
      go_upto_region 8 with fail
      go_cut [] (fun wx => Mc s V4 V6 b15 wx)
      case first =>
        as_aux_lemma =>
          have hc : Below V6.heap.size V6 V6.drew := (Below.refl _ _).drew
          have hwV : w.heap.size < V6.heap.size := by omega
          refine wp_region_noPanic ?_
          refine wp_region_held_drew (S := (fun W => (W.cell? ⟨w.heap.size, 0, none⟩ = some (.slice (some ⟨bS, oS, none⟩) s.sheets.length s.c1) ∧ W.cell? ⟨w.heap.size, 1, none⟩ = some (.slice (some ⟨bL, oL, none⟩) s.lics.length s.c2)))) (by as_aux_lemma => kernel_rfl) ?_ (fun hHeld => ?_)
          · (try dsimp only); exact HS.out _ (fun o => (bcell hc).1 _ _ hwV)
          refine htake (i := 1) (v := ?v25) rfl (by as_aux_lemma => kernel_rfl) (by as_aux_lemma => kernel_rfl) (by as_aux_lemma => kernel_rfl) (fun _ _ _ h => h) (Or.inl ⟨by rfl, ?hy25⟩) (by assumption) ?_
          case hy25 => (intro w hSw; (try dsimp only at hSw); go_simp; try (with_reducible rfl))
          try simp only [Act.put, List.setIfInBounds_toArray, List.set_cons_zero, List.set_cons_succ]
          refine htake (i := 2) (v := ?v26) rfl (by as_aux_lemma => kernel_rfl) (by as_aux_lemma => kernel_rfl) (by as_aux_lemma => kernel_rfl) (fun _ _ _ h => h) (Or.inl ⟨by rfl, ?hy26⟩) (by assumption) ?_
          case hy26 => (intro w hSw; (try dsimp only at hSw); go_simp; try (with_reducible rfl))
          try simp only [Act.put, List.setIfInBounds_toArray, List.set_cons_zero, List.set_cons_succ]
          refine htake (i := 5) (v := ?v27) rfl (by as_aux_lemma => kernel_rfl) (by as_aux_lemma => kernel_rfl) (by as_aux_lemma => kernel_rfl) (fun _ _ _ h => h) (Or.inl ⟨by rfl, ?hy27⟩) (by assumption) ?_
          case hy27 => (intro w hSw; (try dsimp only at hSw); go_simp; try (with_reducible rfl))
          try simp only [Act.put, List.setIfInBounds_toArray, List.set_cons_zero, List.set_cons_succ]
          refine htake (i := 6) (v := ?v28) rfl (by as_aux_lemma => kernel_rfl) (by as_aux_lemma => kernel_rfl) (by as_aux_lemma => kernel_rfl) (fun _ _ _ h => h) (Or.inl ⟨by rfl, ?hy28⟩) (by assumption) ?_
          case hy28 => (intro w hSw; (try dsimp only at hSw); go_simp; try (with_reducible rfl))
          try simp only [Act.put, List.setIfInBounds_toArray, List.set_cons_zero, List.set_cons_succ]
          refine wpAnyH_ready (rs := [0, 4]) (by as_aux_lemma => kernel_rfl) (by simp) ?_
          refine hcons rfl (fun K hK => ?_) (hcons rfl (fun K hK => ?_) (AllReadyH.nil))
          go_simp
          have hS := own_empty hc 54 3; (try simp only [World.size_alloc] at hS); (try simp only [sz_drewA] at hS); (try replace hL := hL.alloc (.cells #[] 54)); replace hc := hc.alloc hc.size (.cells #[] 54)
          refine hK.out _ _ ?_ (fun hHeld => ?_)
          · (try dsimp only); exact HS.out _ (fun o => (bcell hc).1 _ _ hwV)
          clear hK K
          try simp only [Act.put, List.setIfInBounds_toArray, List.set_cons_zero, List.set_cons_succ]
          refine wpAnyH_ready (rs := [3, 4]) (by as_aux_lemma => kernel_rfl) (by simp) ?_
          refine hcons rfl (fun K hK => ?_) (hcons rfl (fun K hK => ?_) (AllReadyH.nil))
          (refine step_append_lies _ rfl (.tmp 66) (.tmp 68) 22 rfl V6.heap.size 54 iS (.agg #[.int .i64 0, .int .i64 0, .int .i64 0]) 3 24 Tryd.underlying22 hS0 hS1 hS2 hS3 rfl (by decide) (.slice (some ⟨_, 0, none⟩) 0 0) 0 [] rfl hS ⟨bS, oS, none⟩ s.sheets.length s.c1 (s.sheets.flatMap Sheet.cells) rfl (flat_len sheet_len _) (HNS.out _ hc) sheet_one (by omega) (by unfold maxLen; omega) (by omega) hc.size _ rfl ?_); intro g1 cap1 w3 hown3 hgrow hgg hlt3; (try replace hL := own_grown hL hS hgrow (by decide)); replace hc := grow_below hc hgrow (fun k hk => (hS.lt k hk).1); replace hS := hown3; simp only [Nat.zero_add, List.nil_append] at hS; clear hgrow hgg hown3; (try simp only [Nat.zero_add])
          refine hK.out _ _ ?_ (fun hHeld => ?_)
          · (try dsimp only); exact HS.out _ (fun o => (bcell hc).1 _ _ hwV)
          clear hK K
          try simp only [Act.put, List.setIfInBounds_toArray, List.set_cons_zero, List.set_cons_succ]
          refine htake (i := 8) (v := ?v29) rfl (by as_aux_lemma => kernel_rfl) (by as_aux_lemma => kernel_rfl) (by as_aux_lemma => kernel_rfl) (fun _ _ _ h => h) (Or.inl ⟨by rfl, ?hy29⟩) (by assumption) ?_
          case hy29 => (intro w hSw; (try dsimp only at hSw); go_simp; try (with_reducible rfl))
          try simp only [Act.put, List.setIfInBounds_toArray, List.set_cons_zero, List.set_cons_succ]
          refine wpAnyH_ready (rs := [4]) (by as_aux_lemma => kernel_rfl) (by simp) ?_
          refine hcons rfl (fun K hK => ?_) (AllReadyH.nil)
          go_simp
          have hL := own_empty hc 59 4; (try simp only [World.size_alloc] at hL); (try simp only [sz_drewA] at hL); (try replace hS := hS.alloc (.cells #[] 59)); replace hc := hc.alloc hc.size (.cells #[] 59)
          refine hK.out _ _ ?_ (fun hHeld => ?_)
          · (try dsimp only); exact HS.out _ (fun o => (bcell hc).1 _ _ hwV)
          clear hK K
          try simp only [Act.put, List.setIfInBounds_toArray, List.set_cons_zero, List.set_cons_succ]
          refine wpAnyH_ready (rs := [7]) (by as_aux_lemma => kernel_rfl) (by simp) ?_
          refine hcons rfl (fun K hK => ?_) (AllReadyH.nil)
          (refine step_append_lies _ rfl (.tmp 70) (.tmp 72) 23 rfl V6.heap.size 59 iL (.agg #[.int .i64 0, .int .i64 0, .int .i64 0, .int .i64 0]) 4 32 Tryd.underlying23 hL0 hL1 hL2 hL3 rfl (by decide) (.slice (some ⟨_, 0, none⟩) 0 0) 0 [] rfl hL ⟨bL, oL, none⟩ s.lics.length s.c2 (s.lics.flatMap Licence.cells) rfl (flat_len lic_len _) (HNL.out _ hc) lic_one (by omega) (by unfold maxLen; omega) (by omega) hc.size _ rfl ?_); intro g2 cap2 w7 hown7 hgrow hgg hlt7; replace hS := own_grown hS hL hgrow (by decide); replace hc := grow_below hc hgrow (fun k hk => (hL.lt k hk).1); replace hL := hown7; simp only [Nat.zero_add, List.nil_append] at hL; clear hgrow hgg hown7; (try simp only [Nat.zero_add]); have q14 := (hc.block b15 hblt).trans hrow; have cc0 : w7.cell? ⟨b15, 0, none⟩ = some (.slice s.A1 s.sheets.length s.c1) := (cell_of_row w7 _ 0 _ _ _ q14).trans rfl; have cc1 : w7.cell? ⟨b15, 1, none⟩ = some (.slice s.A2 s.lics.length s.c2) := (cell_of_row w7 _ 1 _ _ _ q14).trans rfl; have cf0 : w7.frozen? ⟨b15, 0, none⟩ = false := frozen_of_row w7 _ 0 _ _ q14; have cf1 : w7.frozen? ⟨b15, 1, none⟩ = false := frozen_of_row w7 _ 1 _ _ q14
          refine hK.out _ _ ?_ (fun hHeld => ?_)
          · (try dsimp only); exact HS.out _ (fun o => (bcell hc).1 _ _ hwV)
          clear hK K
          try simp only [Act.put, List.setIfInBounds_toArray, List.set_cons_zero, List.set_cons_succ]
          refine wpAnyH_ready (rs := [9]) (by as_aux_lemma => kernel_rfl) (by simp) ?_
          refine hcons rfl (fun K hK => ?_) (AllReadyH.nil)
          go_simp
          skip
          refine hK.out _ _ ?_ (fun hHeld => ?_)
          · (try dsimp only); exact HS.out _ (fun o => (World.cell?_setCell_other _ _ _ _ (by intro e; injection e with e; omega)).trans ((bcell hc).1 _ _ hwV))
          clear hK K
          try simp only [Act.put, List.setIfInBounds_toArray, List.set_cons_zero, List.set_cons_succ]
          refine htake (i := 10) (v := ?v30) rfl (by as_aux_lemma => kernel_rfl) (by as_aux_lemma => kernel_rfl) (by as_aux_lemma => kernel_rfl) (fun _ _ _ h => h) (Or.inl ⟨by rfl, ?hy30⟩) (by assumption) ?_
          case hy30 => (intro w hSw; (try dsimp only at hSw); go_simp; try (with_reducible rfl))
          try simp only [Act.put, List.setIfInBounds_toArray, List.set_cons_zero, List.set_cons_succ]
          refine wpAnyH_ready (rs := [11]) (by as_aux_lemma => kernel_rfl) (by simp) ?_
          refine hcons rfl (fun K hK => ?_) (AllReadyH.nil)
          go_simp
          skip
          refine hK.out _ _ ?_ (fun hHeld => ?_)
          · (try dsimp only); exact HS.out _ (fun o => (World.cell?_setCell_other _ _ _ _ (by intro e; injection e with e; omega)).trans ((World.cell?_setCell_other _ _ _ _ (by intro e; injection e with e; omega)).trans ((bcell hc).1 _ _ hwV)))
          clear hK K
          try simp only [Act.put, List.setIfInBounds_toArray, List.set_cons_zero, List.set_cons_succ]
          refine wpAnyH_done (by as_aux_lemma => kernel_rfl) ?_ _
          refine NoPanic.normal ?_
          rotate_left
          go_simp
          have hL := own_empty hc 59 4; (try simp only [World.size_alloc] at hL); (try simp only [sz_drewA] at hL); (try replace hS := hS.alloc (.cells #[] 59)); replace hc := hc.alloc hc.size (.cells #[] 59)
          refine hK.out _ _ ?_ (fun hHeld => ?_)
          · (try dsimp only); exact HS.out _ (fun o => (bcell hc).1 _ _ hwV)
          clear hK K
          try simp only [Act.put, List.setIfInBounds_toArray, List.set_cons_zero, List.set_cons_succ]
          refine wpAnyH_ready (rs := [3]) (by as_aux_lemma => kernel_rfl) (by simp) ?_
          refine hcons rfl (fun K hK => ?_) (AllReadyH.nil)
          (refine step_append_lies _ rfl (.tmp 66) (.tmp 68) 22 rfl V6.heap.size 54 iS (.agg #[.int .i64 0, .int .i64 0, .int .i64 0]) 3 24 Tryd.underlying22 hS0 hS1 hS2 hS3 rfl (by decide) (.slice (some ⟨_, 0, none⟩) 0 0) 0 [] rfl hS ⟨bS, oS, none⟩ s.sheets.length s.c1 (s.sheets.flatMap Sheet.cells) rfl (flat_len sheet_len _) (HNS.out _ hc) sheet_one (by omega) (by unfold maxLen; omega) (by omega) hc.size _ rfl ?_); intro g1 cap1 w3 hown3 hgrow hgg hlt3; (try replace hL := own_grown hL hS hgrow (by decide)); replace hc := grow_below hc hgrow (fun k hk => (hS.lt k hk).1); replace hS := hown3; simp only [Nat.zero_add, List.nil_append] at hS; clear hgrow hgg hown3; (try simp only [Nat.zero_add])
          refine hK.out _ _ ?_ (fun hHeld => ?_)
          · (try dsimp only); exact HS.out _ (fun o => (bcell hc).1 _ _ hwV)
          clear hK K
          try simp only [Act.put, List.setIfInBounds_toArray, List.set_cons_zero, List.set_cons_succ]
          refine htake (i := 8) (v := ?v31) rfl (by as_aux_lemma => kernel_rfl) (by as_aux_lemma => kernel_rfl) (by as_aux_lemma => kernel_rfl) (fun _ _ _ h => h) (Or.inl ⟨by rfl, ?hy31⟩) (by assumption) ?_
          case hy31 => (intro w hSw; (try dsimp only at hSw); go_simp; try (with_reducible rfl))
          try simp only [Act.put, List.setIfInBounds_toArray, List.set_cons_zero, List.set_cons_succ]
          refine wpAnyH_ready (rs := [7]) (by as_aux_lemma => kernel_rfl) (by simp) ?_
          refine hcons rfl (fun K hK => ?_) (AllReadyH.nil)
          (refine step_append_lies _ rfl (.tmp 70) (.tmp 72) 23 rfl V6.heap.size 59 iL (.agg #[.int .i64 0, .int .i64 0, .int .i64 0, .int .i64 0]) 4 32 Tryd.underlying23 hL0 hL1 hL2 hL3 rfl (by decide) (.slice (some ⟨_, 0, none⟩) 0 0) 0 [] rfl hL ⟨bL, oL, none⟩ s.lics.length s.c2 (s.lics.flatMap Licence.cells) rfl (flat_len lic_len _) (HNL.out _ hc) lic_one (by omega) (by unfold maxLen; omega) (by omega) hc.size _ rfl ?_); intro g2 cap2 w7 hown7 hgrow hgg hlt7; replace hS := own_grown hS hL hgrow (by decide); replace hc := grow_below hc hgrow (fun k hk => (hL.lt k hk).1); replace hL := hown7; simp only [Nat.zero_add, List.nil_append] at hL; clear hgrow hgg hown7; (try simp only [Nat.zero_add]); have q14 := (hc.block b15 hblt).trans hrow; have cc0 : w7.cell? ⟨b15, 0, none⟩ = some (.slice s.A1 s.sheets.length s.c1) := (cell_of_row w7 _ 0 _ _ _ q14).trans rfl; have cc1 : w7.cell? ⟨b15, 1, none⟩ = some (.slice s.A2 s.lics.length s.c2) := (cell_of_row w7 _ 1 _ _ _ q14).trans rfl; have cf0 : w7.frozen? ⟨b15, 0, none⟩ = false := frozen_of_row w7 _ 0 _ _ q14; have cf1 : w7.frozen? ⟨b15, 1, none⟩ = false := frozen_of_row w7 _ 1 _ _ q14
          refine hK.out _ _ ?_ (fun hHeld => ?_)
          · (try dsimp only); exact HS.out _ (fun o => (bcell hc).1 _ _ hwV)
          clear hK K
          try simp only [Act.put, List.setIfInBounds_toArray, List.set_cons_zero, List.set_cons_succ]
          refine wpAnyH_ready (rs := [9]) (by as_aux_lemma => kernel_rfl) (by simp) ?_
          refine hcons rfl (fun K hK => ?_) (AllReadyH.nil)
          go_simp
          skip
          refine hK.out _ _ ?_ (fun hHeld => ?_)
          · (try dsimp only); exact HS.out _ (fun o => (World.cell?_setCell_other _ _ _ _ (by intro e; injection e with e; omega)).trans ((bcell hc).1 _ _ hwV))
          clear hK K
          try simp only [Act.put, List.setIfInBounds_toArray, List.set_cons_zero, List.set_cons_succ]
          refine htake (i := 10) (v := ?v32) rfl (by as_aux_lemma => kernel_rfl) (by as_aux_lemma => kernel_rfl) (by as_aux_lemma => kernel_rfl) (fun _ _ _ h => h) (Or.inl ⟨by rfl, ?hy32⟩) (by assumption) ?_
          case hy32 => (intro w hSw; (try dsimp only at hSw); go_simp; try (with_reducible rfl))
          try simp only [Act.put, List.setIfInBounds_toArray, List.set_cons_zero, List.set_cons_succ]
          refine wpAnyH_ready (rs := [11]) (by as_aux_lemma => kernel_rfl) (by simp) ?_
          refine hcons rfl (fun K hK => ?_) (AllReadyH.nil)
          go_simp
          skip
          refine hK.out _ _ ?_ (fun hHeld => ?_)
          · (try dsimp only); exact HS.out _ (fun o => (World.cell?_setCell_other _ _ _ _ (by intro e; injection e with e; omega)).trans ((World.cell?_setCell_other _ _ _ _ (by intro e; injection e with e; omega)).trans ((bcell hc).1 _ _ hwV)))
          clear hK K
          try simp only [Act.put, List.setIfInBounds_toArray, List.set_cons_zero, List.set_cons_succ]
          refine wpAnyH_done (by as_aux_lemma => kernel_rfl) ?_ _
          refine NoPanic.normal ?_
          rotate_left
          go_simp
          have hL := own_empty hc 59 4; (try simp only [World.size_alloc] at hL); (try simp only [sz_drewA] at hL); (try replace hS := hS.alloc (.cells #[] 59)); replace hc := hc.alloc hc.size (.cells #[] 59)
          refine hK.out _ _ ?_ (fun hHeld => ?_)
          · (try dsimp only); exact HS.out _ (fun o => (bcell hc).1 _ _ hwV)
          clear hK K
          try simp only [Act.put, List.setIfInBounds_toArray, List.set_cons_zero, List.set_cons_succ]
          refine wpAnyH_ready (rs := [0]) (by as_aux_lemma => kernel_rfl) (by simp) ?_
          refine hcons rfl (fun K hK => ?_) (AllReadyH.nil)
          go_simp
          have hS := own_empty hc 54 3; (try simp only [World.size_alloc] at hS); (try simp only [sz_drewA] at hS); (try replace hL := hL.alloc (.cells #[] 54)); replace hc := hc.alloc hc.size (.cells #[] 54)
          refine hK.out _ _ ?_ (fun hHeld => ?_)
          · (try dsimp only); exact HS.out _ (fun o => (bcell hc).1 _ _ hwV)
          clear hK K
          try simp only [Act.put, List.setIfInBounds_toArray, List.set_cons_zero, List.set_cons_succ]
          refine wpAnyH_ready (rs := [3]) (by as_aux_lemma => kernel_rfl) (by simp) ?_
          refine hcons rfl (fun K hK => ?_) (AllReadyH.nil)
          (refine step_append_lies _ rfl (.tmp 66) (.tmp 68) 22 rfl V6.heap.size 54 iS (.agg #[.int .i64 0, .int .i64 0, .int .i64 0]) 3 24 Tryd.underlying22 hS0 hS1 hS2 hS3 rfl (by decide) (.slice (some ⟨_, 0, none⟩) 0 0) 0 [] rfl hS ⟨bS, oS, none⟩ s.sheets.length s.c1 (s.sheets.flatMap Sheet.cells) rfl (flat_len sheet_len _) (HNS.out _ hc) sheet_one (by omega) (by unfold maxLen; omega) (by omega) hc.size _ rfl ?_); intro g1 cap1 w3 hown3 hgrow hgg hlt3; (try replace hL := own_grown hL hS hgrow (by decide)); replace hc := grow_below hc hgrow (fun k hk => (hS.lt k hk).1); replace hS := hown3; simp only [Nat.zero_add, List.nil_append] at hS; clear hgrow hgg hown3; (try simp only [Nat.zero_add])
          refine hK.out _ _ ?_ (fun hHeld => ?_)
          · (try dsimp only); exact HS.out _ (fun o => (bcell hc).1 _ _ hwV)
          clear hK K
          try simp only [Act.put, List.setIfInBounds_toArray, List.set_cons_zero, List.set_cons_succ]
          refine htake (i := 8) (v := ?v33) rfl (by as_aux_lemma => kernel_rfl) (by as_aux_lemma => kernel_rfl) (by as_aux_lemma => kernel_rfl) (fun _ _ _ h => h) (Or.inl ⟨by rfl, ?hy33⟩) (by assumption) ?_
          case hy33 => (intro w hSw; (try dsimp only at hSw); go_simp; try (with_reducible rfl))
          try simp only [Act.put, List.setIfInBounds_toArray, List.set_cons_zero, List.set_cons_succ]
          refine wpAnyH_ready (rs := [7]) (by as_aux_lemma => kernel_rfl) (by simp) ?_
          refine hcons rfl (fun K hK => ?_) (AllReadyH.nil)
          (refine step_append_lies _ rfl (.tmp 70) (.tmp 72) 23 rfl V6.heap.size 59 iL (.agg #[.int .i64 0, .int .i64 0, .int .i64 0, .int .i64 0]) 4 32 Tryd.underlying23 hL0 hL1 hL2 hL3 rfl (by decide) (.slice (some ⟨_, 0, none⟩) 0 0) 0 [] rfl hL ⟨bL, oL, none⟩ s.lics.length s.c2 (s.lics.flatMap Licence.cells) rfl (flat_len lic_len _) (HNL.out _ hc) lic_one (by omega) (by unfold maxLen; omega) (by omega) hc.size _ rfl ?_); intro g2 cap2 w7 hown7 hgrow hgg hlt7; replace hS := own_grown hS hL hgrow (by decide); replace hc := grow_below hc hgrow (fun k hk => (hL.lt k hk).1); replace hL := hown7; simp only [Nat.zero_add, List.nil_append] at hL; clear hgrow hgg hown7; (try simp only [Nat.zero_add]); have q14 := (hc.block b15 hblt).trans hrow; have cc0 : w7.cell? ⟨b15, 0, none⟩ = some (.slice s.A1 s.sheets.length s.c1) := (cell_of_row w7 _ 0 _ _ _ q14).trans rfl; have cc1 : w7.cell? ⟨b15, 1, none⟩ = some (.slice s.A2 s.lics.length s.c2) := (cell_of_row w7 _ 1 _ _ _ q14).trans rfl; have cf0 : w7.frozen? ⟨b15, 0, none⟩ = false := frozen_of_row w7 _ 0 _ _ q14; have cf1 : w7.frozen? ⟨b15, 1, none⟩ = false := frozen_of_row w7 _ 1 _ _ q14
          refine hK.out _ _ ?_ (fun hHeld => ?_)
          · (try dsimp only); exact HS.out _ (fun o => (bcell hc).1 _ _ hwV)
          clear hK K
          try simp only [Act.put, List.setIfInBounds_toArray, List.set_cons_zero, List.set_cons_succ]
          refine wpAnyH_ready (rs := [9]) (by as_aux_lemma => kernel_rfl) (by simp) ?_
          refine hcons rfl (fun K hK => ?_) (AllReadyH.nil)
          go_simp
          skip
          refine hK.out _ _ ?_ (fun hHeld => ?_)
          · (try dsimp only); exact HS.out _ (fun o => (World.cell?_setCell_other _ _ _ _ (by intro e; injection e with e; omega)).trans ((bcell hc).1 _ _ hwV))
          clear hK K
          try simp only [Act.put, List.setIfInBounds_toArray, List.set_cons_zero, List.set_cons_succ]
          refine htake (i := 10) (v := ?v34) rfl (by as_aux_lemma => kernel_rfl) (by as_aux_lemma => kernel_rfl) (by as_aux_lemma => kernel_rfl) (fun _ _ _ h => h) (Or.inl ⟨by rfl, ?hy34⟩) (by assumption) ?_
          case hy34 => (intro w hSw; (try dsimp only at hSw); go_simp; try (with_reducible rfl))
          try simp only [Act.put, List.setIfInBounds_toArray, List.set_cons_zero, List.set_cons_succ]
          refine wpAnyH_ready (rs := [11]) (by as_aux_lemma => kernel_rfl) (by simp) ?_
          refine hcons rfl (fun K hK => ?_) (AllReadyH.nil)
          go_simp
          skip
          refine hK.out _ _ ?_ (fun hHeld => ?_)
          · (try dsimp only); exact HS.out _ (fun o => (World.cell?_setCell_other _ _ _ _ (by intro e; injection e with e; omega)).trans ((World.cell?_setCell_other _ _ _ _ (by intro e; injection e with e; omega)).trans ((bcell hc).1 _ _ hwV)))
          clear hK K
          try simp only [Act.put, List.setIfInBounds_toArray, List.set_cons_zero, List.set_cons_succ]
          refine wpAnyH_done (by as_aux_lemma => kernel_rfl) ?_ _
          refine NoPanic.normal ?_
          iterate 13 (try clear hHeld)
          all_goals
            go_wp2_with fail
            go_meet
            exact Mc.end (by omega) hblt hB hc q14 hS hL
      case rest =>
        obtain ⟨gS2, cS2, gL2, cL2, r15', hoS2, hoL2, hkeep2, hB7, hsz7⟩ := hcut
        generalize wc = V7 at *
        have ltS := hoS.lt gS rfl
        have ltL := hoL.lt gL rfl
        have ltS2 := hoS2.lt gS2 rfl
        have ltL2 := hoL2.lt gL2 rfl
        have q14 := (hkeep2 b14 (by omega) hne).trans r14'
        have o1 := own_oa sheet_len (own_blk hoS (hkeep2 gS (by omega) (by omega)))
        have o2 := own_oa lic_len (own_blk hoL (hkeep2 gL (by omega) (by omega)))
        have o3 := own_oa sheet_len hoS2
        have o4 := own_oa lic_len hoL2
        have nSL := o1.ne o2 (by decide)
        have nSL2 := o3.ne o4 (by decide)
        have hn8 := Hok.out.nw
        obtain ⟨k, hk, hkm⟩ : ∃ k : Nat, k < s.sheets.length ∧ (wn : Int).tmod (s.sheets.length : Int) = (k : Int) := ⟨wn % s.sheets.length, Nat.mod_lt _ (by omega), by rw [Int.tmod_eq_emod_of_nonneg (by omega)]; exact (Int.natCast_emod _ _).symm⟩
        obtain ⟨p, hp, hpm⟩ : ∃ p : Nat, p < s.lics.length ∧ (wn : Int).tmod (s.lics.length : Int) = (p : Int) := ⟨wn % s.lics.length, Nat.mod_lt _ (by omega), by rw [Int.tmod_eq_emod_of_nonneg (by omega)]; exact (Int.natCast_emod _ _).symm⟩
        obtain ⟨bS', oS', e, -, x0, x1, x2⟩ := K4.out.st.sheetC hk
        rw [E1.out] at e
        injection e with e
        injection e with e1 e2
        subst e1 e2
        obtain ⟨bL', oL', e, -, hcl⟩ := K4.out.st.lics.at hp ⟨0, 0, 0, 0⟩
        rw [E2.out] at e
        injection e with e
        injection e with e1 e2
        subst e1 e2
        have y0 := hcl 0 _ rfl
        have y3 := hcl 3 _ rfl
        obtain ⟨⟨lo, hi, co⟩, esh⟩ : ∃ z, sheetAt s k = z := ⟨_, rfl⟩
        obtain ⟨⟨cp, lf, lt, fe⟩, eli⟩ : ∃ z, s.lics.getD p ⟨0, 0, 0, 0⟩ = z := ⟨_, rfl⟩
        have sb := Hok.out.sheet _ (sheetAt_mem hk)
        have lb := Hok.out.lic (s.lics.getD p ⟨0, 0, 0, 0⟩) (by rw [List.getD_eq_getElem?_getD, List.getElem?_eq_getElem hp]; exact List.getElem_mem hp)
        rw [esh] at x0 x1 x2 sb
        rw [eli] at y0 y3 lb
        dsimp only at x0 x1 x2 y0 y3 sb lb
        have HE := Lib.hid esh
        have HL := Lib.hid eli
        have p0 := K4.out.bx.c0
        have p1 := K4.out.bx.c1
        rw [E1.out] at p0
        rw [E2.out] at p1
        rw [Nat.add_zero] at y0
        have HX := Lib.hid (fun (W : World) (h : Below V4.heap.size V4 W) => (show W.cell? ⟨w.heap.size, 0, none⟩ = some (.slice (some ⟨bS, oS, none⟩) s.sheets.length s.c1) ∧ W.cell? ⟨w.heap.size, 1, none⟩ = some (.slice (some ⟨bL, oL, none⟩) s.lics.length s.c2) ∧ W.cell? ⟨bS, oS + k * 3, none⟩ = some (.int .i64 lo) ∧ W.cell? ⟨bS, oS + k * 3 + 1, none⟩ = some (.int .i64 hi) ∧ W.cell? ⟨bS, oS + k * 3 + 2, none⟩ = some (.int .i64 co) ∧ W.cell? ⟨bL, oL + p * 4, none⟩ = some (.int .i64 cp) ∧ W.cell? ⟨bL, oL + p * 4 + 3, none⟩ = some (.int .i64 fe) from
          ⟨((bcell h).1 _ _ hz4).trans p0, ((bcell h).1 _ _ hz4).trans p1, ((bcell h).1 _ _ hbS).trans x0, ((bcell h).1 _ _ hbS).trans x1, ((bcell h).1 _ _ hbS).trans x2, ((bcell h).1 _ _ hbL).trans y0, ((bcell h).1 _ _ hbL).trans y3⟩))
        have bd7 : Bd s V4 b14 b15 gS cS gL cL gS2 cS2 gL2 cL2 s.sheets s.lics s.sheets s.lics V7 := ⟨q14, r15', o1, o2, o3, o4, hB7, by omega, by omega, by omega, by omega, by omega, by omega⟩
        have hsk : s.sheets[k]? = some ⟨lo, hi, co⟩ := by
          have h1 := HE.out
          unfold sheetAt at h1
          rw [List.getD_eq_getElem?_getD, List.getElem?_eq_getElem hk] at h1
          rw [List.getElem?_eq_getElem hk, ← h1]; rfl
        have hlp : s.lics[p]? = some ⟨cp, lf, lt, fe⟩ := by
          have h1 := HL.out
          rw [List.getD_eq_getElem?_getD, List.getElem?_eq_getElem hp] at h1
          rw [List.getElem?_eq_getElem hp, ← h1]; rfl
        have hwb : IntKind.i64.wrap (bn : Int) = (bn : Int) := IntWalk.i64_in _ (by omega)
        have hw1 : IntKind.i64.wrap (lo + (bn : Int)) = lo + bn := IntWalk.i64_in _ (by omega)
        have hw2 : IntKind.i64.wrap (hi + (bn : Int)) = hi + bn := IntWalk.i64_in _ (by omega)
        have hw3 : IntKind.i64.wrap (cp + (bn : Int)) = cp + bn := IntWalk.i64_in _ (by omega)
        have hw4 : IntKind.i64.wrap (co - (bn : Int)) = co - bn := IntWalk.i64_in _ (by omega)
        have hw5 : IntKind.i64.wrap (fe - (bn : Int)) = fe - bn := IntWalk.i64_in _ (by omega)
        obtain ⟨L1, eL1⟩ : ∃ z, z = min 100000 (lo + (bn : Int)) := ⟨_, rfl⟩
        obtain ⟨H1, eH1⟩ : ∃ z, z = min 100000 (hi + (bn : Int)) := ⟨_, rfl⟩
        obtain ⟨C1, eC1⟩ : ∃ z, z = min 1000 (cp + (bn : Int)) := ⟨_, rfl⟩
        obtain ⟨O1, eO1⟩ : ∃ z, z = max 0 (co - (bn : Int)) := ⟨_, rfl⟩
        obtain ⟨F1, eF1⟩ : ∃ z, z = max 0 (fe - (bn : Int)) := ⟨_, rfl⟩
        have m1 : (if lo + (bn : Int) < 100000 then lo + (bn : Int) else 100000) = L1 := by rw [eL1]; split <;> omega
        have m2 : (if hi + (bn : Int) < 100000 then hi + (bn : Int) else 100000) = H1 := by rw [eH1]; split <;> omega
        have m3 : (if cp + (bn : Int) < 1000 then cp + (bn : Int) else 1000) = C1 := by rw [eC1]; split <;> omega
        have m4 : (if (bn : Int) < co then co - (bn : Int) else 0) = O1 := by rw [eO1]; split <;> omega
        have m5 : (if (bn : Int) < fe then fe - (bn : Int) else 0) = F1 := by rw [eF1]; split <;> omega
        have HL1 := Lib.hid eL1
        have HH1 := Lib.hid eH1
        have HC1 := Lib.hid eC1
        have HO1 := Lib.hid eO1
        have HF1 := Lib.hid eF1
        clear eL1 eH1 eC1 eO1 eF1 esh eli hkeep hkeep2 hoS hoL hoS2 hoL2 r14 r15 r14' r15' q14 hrow HS HNS HNL hB hB7 hS0 hS1 hS2 hS3 hL0 hL1 hL2 hL3 hcl iS iL o1 o2 o3 o4 nSL nSL2 x0 x1 x2 y0 y3 ltS ltL ltS2 ltL2 hsz hsz5 hsz7 hblt hblt2
        obtain ⟨p0, p1, x0, x1, -⟩ := HX.out V7 bd7.bl
        go_wp2_with fail
        go_quiet (fail)
        have bd8 := bd7.next (below_drewN (Below.refl V7.heap.size V7) nq)
        generalize V7.drewN nq = V8 at *
        clear p0 p1 x0 x1 bd7
        obtain ⟨p0, p1, x0, x1, -⟩ := HX.out V8 bd8.bl
        go_wp2_with fail
        have bd9 := bd8.next (nxA V8 (.cells #[.int .i64 lo, .int .i64 hi] 44))
        have v0 : (V8.alloc (.cells #[.int .i64 lo, .int .i64 hi] 44)).cell? ⟨V8.heap.size, 0, none⟩ = some (.int .i64 lo) := by simp [go_sem]
        have v1 : (V8.alloc (.cells #[.int .i64 lo, .int .i64 hi] 44)).cell? ⟨V8.heap.size, 1, none⟩ = some (.int .i64 hi) := by simp [go_sem]
        have hbx : V8.heap.size < (V8.alloc (.cells #[.int .i64 lo, .int .i64 hi] 44)).heap.size := by simp
        have nbx : gS ≠ V8.heap.size := Nat.ne_of_lt bd8.o1.lt
        generalize V8.alloc (.cells #[.int .i64 lo, .int .i64 hi] 44) = V9 at *
        generalize V8.heap.size = bx at *
        have c14 : V9.cell? ⟨b14, 0, none⟩ = some (.slice (some ⟨gS, 0, none⟩) s.sheets.length cS) := (cell_of_row V9 _ 0 _ _ _ bd9.r1).trans rfl
        have a0 := bd9.o1.cellAt hsk (j := 0) rfl
        have a1 := bd9.o1.cellAt hsk (j := 1) rfl
        rw [Nat.add_zero] at a0
        have f0 := bd9.o1.ice (k * 3)
        have f1 := bd9.o1.ice (k * 3 + 1)
        have nb1 := row_oa bd9.o1 bd9.r1 (by decide)
        have lb1 := lt_heapA bd9.r1
        have HS11 := Lib.hid (show ∀ W : World, (∀ b o, b < V9.heap.size → b ≠ gS → W.cell? ⟨b, o, none⟩ = V9.cell? ⟨b, o, none⟩) → (W.cell? ⟨b14, 0, none⟩ = some (.slice (some ⟨gS, 0, none⟩) s.sheets.length cS) ∧ W.cell? ⟨bx, 0, none⟩ = some (.int .i64 lo) ∧ W.cell? ⟨bx, 1, none⟩ = some (.int .i64 hi)) from fun W h =>
          ⟨(h _ _ lb1 nb1).trans c14, (h _ _ hbx (Ne.symm nbx)).trans v0, (h _ _ hbx (Ne.symm nbx)).trans v1⟩)
        have HB9 := Lib.hid bd9
        have HA0 := Lib.hid a0
        have HA1 := Lib.hid a1
        clear v0 v1 c14 p0 p1 x0 x1 bd8 bd9 a0 a1
        refine wp_region_noPanic ?_
        refine wp_region_held_drew (S := (fun W => W.cell? ⟨b14, 0, none⟩ = some (.slice (some ⟨gS, 0, none⟩) s.sheets.length cS) ∧ W.cell? ⟨bx, 0, none⟩ = some (.int .i64 lo) ∧ W.cell? ⟨bx, 1, none⟩ = some (.int .i64 hi))) (by as_aux_lemma => kernel_rfl) ?_ (fun hHeld => ?_)
        · (try dsimp only); exact HS11.out _ (fun _ _ _ _ => rfl)
        refine htake (i := 0) (v := ?v35) rfl (by as_aux_lemma => kernel_rfl) (by as_aux_lemma => kernel_rfl) (by as_aux_lemma => kernel_rfl) (fun _ _ _ h => h) (Or.inl ⟨by rfl, ?hy35⟩) (by assumption) ?_
        case hy35 => (intro w hSw; (try dsimp only at hSw); go_simp; try (with_reducible rfl))
        try simp only [Act.put, List.setIfInBounds_toArray, List.set_cons_zero, List.set_cons_succ]
        refine htake (i := 1) (v := ?v36) rfl (by as_aux_lemma => kernel_rfl) (by as_aux_lemma => kernel_rfl) (by as_aux_lemma => kernel_rfl) (fun _ _ _ h => h) (Or.inl ⟨by rfl, ?hy36⟩) (by assumption) ?_
        case hy36 => (intro w hSw; (try dsimp only at hSw); go_simp; try (with_reducible rfl))
        try simp only [Act.put, List.setIfInBounds_toArray, List.set_cons_zero, List.set_cons_succ]
        refine htake (i := 2) (v := ?v37) rfl (by as_aux_lemma => kernel_rfl) (by as_aux_lemma => kernel_rfl) (by as_aux_lemma => kernel_rfl) (fun _ _ _ h => h) (Or.inl ⟨by rfl, ?hy37⟩) (by assumption) ?_
        case hy37 => (intro w hSw; (try dsimp only at hSw); go_simp; try (with_reducible rfl))
        try simp only [Act.put, List.setIfInBounds_toArray, List.set_cons_zero, List.set_cons_succ]
        refine htake (i := 3) (v := ?v38) rfl (by as_aux_lemma => kernel_rfl) (by as_aux_lemma => kernel_rfl) (by as_aux_lemma => kernel_rfl) (fun _ _ _ h => h) (Or.inl ⟨by rfl, ?hy38⟩) (by assumption) ?_
        case hy38 => (intro w hSw; (try dsimp only at hSw); go_simp; try (with_reducible rfl))
        try simp only [Act.put, List.setIfInBounds_toArray, List.set_cons_zero, List.set_cons_succ]
        refine htake (i := 4) (v := ?v39) rfl (by as_aux_lemma => kernel_rfl) (by as_aux_lemma => kernel_rfl) (by as_aux_lemma => kernel_rfl) (fun _ _ _ h => h) (Or.inl ⟨by rfl, ?hy39⟩) (by assumption) ?_
        case hy39 => (intro w hSw; (try dsimp only at hSw); go_simp; try (with_reducible rfl))
        try simp only [Act.put, List.setIfInBounds_toArray, List.set_cons_zero, List.set_cons_succ]
        refine htake (i := 5) (v := ?v40) rfl (by as_aux_lemma => kernel_rfl) (by as_aux_lemma => kernel_rfl) (by as_aux_lemma => kernel_rfl) (fun _ _ _ h => h) (Or.inl ⟨by rfl, ?hy40⟩) (by assumption) ?_
        case hy40 => (intro w hSw; (try dsimp only at hSw); go_simp; try (with_reducible rfl))
        try simp only [Act.put, List.setIfInBounds_toArray, List.set_cons_zero, List.set_cons_succ]
        refine htake (i := 6) (v := ?v41) rfl (by as_aux_lemma => kernel_rfl) (by as_aux_lemma => kernel_rfl) (by as_aux_lemma => kernel_rfl) (fun _ _ _ h => h) (Or.inl ⟨by rfl, ?hy41⟩) (by assumption) ?_
        case hy41 => (intro w hSw; (try dsimp only at hSw); go_simp; try (with_reducible rfl))
        try simp only [Act.put, List.setIfInBounds_toArray, List.set_cons_zero, List.set_cons_succ]
        refine htake (i := 7) (v := ?v42) rfl (by as_aux_lemma => kernel_rfl) (by as_aux_lemma => kernel_rfl) (by as_aux_lemma => kernel_rfl) (fun _ _ _ h => h) (Or.inl ⟨by rfl, ?hy42⟩) (by assumption) ?_
        case hy42 => (intro w hSw; (try dsimp only at hSw); go_simp; try (with_reducible rfl))
        try simp only [Act.put, List.setIfInBounds_toArray, List.set_cons_zero, List.set_cons_succ]
        refine htake (i := 8) (v := ?v43) rfl (by as_aux_lemma => kernel_rfl) (by as_aux_lemma => kernel_rfl) (by as_aux_lemma => kernel_rfl) (fun _ _ _ h => h) (Or.inl ⟨by rfl, ?hy43⟩) (by assumption) ?_
        case hy43 => (intro w hSw; (try dsimp only at hSw); go_simp; try (with_reducible rfl))
        try simp only [Act.put, List.setIfInBounds_toArray, List.set_cons_zero, List.set_cons_succ]
        refine htake (i := 9) (v := ?v44) rfl (by as_aux_lemma => kernel_rfl) (by as_aux_lemma => kernel_rfl) (by as_aux_lemma => kernel_rfl) (fun _ _ _ h => h) (Or.inl ⟨by rfl, ?hy44⟩) (by assumption) ?_
        case hy44 => (intro w hSw; (try dsimp only at hSw); go_simp; try (with_reducible rfl))
        try simp only [Act.put, List.setIfInBounds_toArray, List.set_cons_zero, List.set_cons_succ]
        refine htake (i := 10) (v := ?v45) rfl (by as_aux_lemma => kernel_rfl) (by as_aux_lemma => kernel_rfl) (by as_aux_lemma => kernel_rfl) (fun _ _ _ h => h) (Or.inl ⟨by rfl, ?hy45⟩) (by assumption) ?_
        case hy45 => (intro w hSw; (try dsimp only at hSw); go_simp; try (with_reducible rfl))
        try simp only [Act.put, List.setIfInBounds_toArray, List.set_cons_zero, List.set_cons_succ]
        refine htake (i := 11) (v := ?v46) rfl (by as_aux_lemma => kernel_rfl) (by as_aux_lemma => kernel_rfl) (by as_aux_lemma => kernel_rfl) (fun _ _ _ h => h) (Or.inl ⟨by rfl, ?hy46⟩) (by assumption) ?_
        case hy46 => (intro w hSw; (try dsimp only at hSw); go_simp; try (with_reducible rfl))
        try simp only [Act.put, List.setIfInBounds_toArray, List.set_cons_zero, List.set_cons_succ]
        refine htake (i := 12) (v := ?v47) rfl (by as_aux_lemma => kernel_rfl) (by as_aux_lemma => kernel_rfl) (by as_aux_lemma => kernel_rfl) (fun _ _ _ h => h) (Or.inl ⟨by rfl, ?hy47⟩) (by assumption) ?_
        case hy47 => (intro w hSw; (try dsimp only at hSw); go_simp; try (with_reducible rfl))
        try simp only [Act.put, List.setIfInBounds_toArray, List.set_cons_zero, List.set_cons_succ]
        refine htake (i := 13) (v := ?v48) rfl (by as_aux_lemma => kernel_rfl) (by as_aux_lemma => kernel_rfl) (by as_aux_lemma => kernel_rfl) (fun _ _ _ h => h) (Or.inl ⟨by rfl, ?hy48⟩) (by assumption) ?_
        case hy48 => (intro w hSw; (try dsimp only at hSw); go_simp; try (with_reducible rfl))
        try simp only [Act.put, List.setIfInBounds_toArray, List.set_cons_zero, List.set_cons_succ]
        refine htake (i := 14) (v := ?v49) rfl (by as_aux_lemma => kernel_rfl) (by as_aux_lemma => kernel_rfl) (by as_aux_lemma => kernel_rfl) (fun _ _ _ h => h) (Or.inl ⟨by rfl, ?hy49⟩) (by assumption) ?_
        case hy49 => (intro w hSw; (try dsimp only at hSw); go_simp; try (with_reducible rfl))
        try simp only [Act.put, List.setIfInBounds_toArray, List.set_cons_zero, List.set_cons_succ]
        refine wpAnyH_ready (rs := [15]) (by as_aux_lemma => kernel_rfl) (by simp) ?_
        refine hcons rfl (fun K hK => ?_) (AllReadyH.nil)
        go_simp
        (with_reducible refine (span33_any L1 H1 _).mono ?_); rintro e w4 ⟨rfl, hb4⟩; have hk4 : Below V9.heap.size V9 w4 := (Below.refl _ _).drew.trans hb4; have a0 := ((bcell hk4).1 _ _ HB9.out.o1.lt).trans HA0.out; have a1 := ((bcell hk4).1 _ _ HB9.out.o1.lt).trans HA1.out; have f0 := (HB9.out.next hk4).o1.ice (k * 3); have f1 := (HB9.out.next hk4).o1.ice (k * 3 + 1)
        refine hK.out _ _ ?_ (fun hHeld => ?_)
        · (try dsimp only); exact HS11.out _ (fun b o h _ => (bcell hk4).1 _ _ h)
        clear hK K
        try simp only [Act.put, List.setIfInBounds_toArray, List.set_cons_zero, List.set_cons_succ]
        refine htake (i := 16) (v := ?v50) rfl (by as_aux_lemma => kernel_rfl) (by as_aux_lemma => kernel_rfl) (by as_aux_lemma => kernel_rfl) (fun _ _ _ h => h) (Or.inl ⟨by rfl, ?hy50⟩) (by assumption) ?_
        case hy50 => (intro w hSw; (try dsimp only at hSw); go_simp; try (with_reducible rfl))
        try simp only [Act.put, List.setIfInBounds_toArray, List.set_cons_zero, List.set_cons_succ]
        refine htake (i := 17) (v := ?v51) rfl (by as_aux_lemma => kernel_rfl) (by as_aux_lemma => kernel_rfl) (by as_aux_lemma => kernel_rfl) (fun _ _ _ h => h) (Or.inl ⟨by rfl, ?hy51⟩) (by assumption) ?_
        case hy51 => (intro w hSw; (try dsimp only at hSw); go_simp; try (with_reducible rfl))
        try simp only [Act.put, List.setIfInBounds_toArray, List.set_cons_zero, List.set_cons_succ]
        refine wpAnyH_ready (rs := [18]) (by as_aux_lemma => kernel_rfl) (by simp) ?_
        refine hcons rfl (fun K hK => ?_) (AllReadyH.nil)
        go_simp
        skip
        refine hK.out _ _ ?_ (fun hHeld => ?_)
        · (try dsimp only); exact HS11.out _ (fun b o h hne => (World.cell?_setCell_other _ _ _ _ (by intro e; injection e with e; exact hne e.symm)).trans ((World.cell?_setCell_other _ _ _ _ (by intro e; injection e with e; exact hne e.symm)).trans ((bcell hk4).1 _ _ h)))
        clear hK K
        try simp only [Act.put, List.setIfInBounds_toArray, List.set_cons_zero, List.set_cons_succ]
        refine wpAnyH_done (by as_aux_lemma => kernel_rfl) ?_ _
        refine NoPanic.normal ?_
        iterate 20 (try clear hHeld)
        have bd10' := HB9.out.next hk4
        have bd10 := bd10'.set1 (W' := (w4.setCell ⟨gS, k * 3, none⟩ (.int .i64 L1)).setCell ⟨gS, k * 3 + 1, none⟩ (.int .i64 H1)) (l1' := s.sheets.set k ⟨L1, H1, co⟩) ((bd10'.bl.setCell (p := ⟨gS, k * 3, none⟩) bd10'.m1 _).setCell (p := ⟨gS, k * 3 + 1, none⟩) bd10'.m1 _) (by rw [World.size_setCell, World.size_setCell]; exact Nat.le_refl _) (fun q _ hne => by rw [blk_set (Ne.symm hne), blk_set (Ne.symm hne)]) (bd10'.o1.set2 sheet_len hsk (by decide) rfl rfl rfl)
        generalize (w4.setCell ⟨gS, k * 3, none⟩ (.int .i64 L1)).setCell ⟨gS, k * 3 + 1, none⟩ (.int .i64 H1) = V10 at *
        clear bd10' a0 a1 f0 f1 hk4 hb4 HS11 HB9 HA0 HA1 hbx nbx nb1 lb1
        obtain ⟨p0, p1, -, -, -, xx, -⟩ := HX.out V10 bd10.bl
        have cc : V10.cell? ⟨b14, 1, none⟩ = some (.slice (some ⟨gL, 0, none⟩) s.lics.length cL) := (cell_of_row V10 _ 1 _ _ _ bd10.r1).trans rfl
        have n1 := row_oa bd10.o2 bd10.r1 (by decide)
        have n2 : w.heap.size ≠ gL := by have := bd10.m2; omega
        have n3 : bL ≠ gL := by have := bd10.m2; omega
        have HS12 := Lib.hid (show ∀ W : World, (∀ b o, b ≠ gL → W.cell? ⟨b, o, none⟩ = V10.cell? ⟨b, o, none⟩) → (W.cell? ⟨b14, 1, none⟩ = some (.slice (some ⟨gL, 0, none⟩) s.lics.length cL) ∧ W.cell? ⟨w.heap.size, 1, none⟩ = some (.slice (some ⟨bL, oL, none⟩) s.lics.length s.c2) ∧ W.cell? ⟨bL, oL + p * 4, none⟩ = some (.int .i64 cp)) from fun W h => ⟨(h _ _ n1).trans cc, (h _ _ n2).trans p1, (h _ _ n3).trans xx⟩)
        have a0 := bd10.o2.cellAt hlp (j := 0) rfl
        rw [Nat.add_zero] at a0
        have f0 := bd10.o2.ice (p * 4)
        go_wp2_with fail
        clear p0 p1 xx cc n1 n2 n3
        refine wp_region_noPanic ?_
        refine wp_region_held_drew (S := (fun W => W.cell? ⟨b14, 1, none⟩ = some (.slice (some ⟨gL, 0, none⟩) s.lics.length cL) ∧ W.cell? ⟨w.heap.size, 1, none⟩ = some (.slice (some ⟨bL, oL, none⟩) s.lics.length s.c2) ∧ W.cell? ⟨bL, oL + p * 4, none⟩ = some (.int .i64 cp))) (by as_aux_lemma => kernel_rfl) ?_ (fun hHeld => ?_)
        · (try dsimp only); exact HS12.out _ (fun _ _ _ => rfl)
        refine htake (i := 0) (v := ?v52) rfl (by as_aux_lemma => kernel_rfl) (by as_aux_lemma => kernel_rfl) (by as_aux_lemma => kernel_rfl) (fun _ _ _ h => h) (Or.inl ⟨by rfl, ?hy52⟩) (by assumption) ?_
        case hy52 => (intro w hSw; (try dsimp only at hSw); go_simp; try (with_reducible rfl))
        try simp only [Act.put, List.setIfInBounds_toArray, List.set_cons_zero, List.set_cons_succ]
        refine htake (i := 1) (v := ?v53) rfl (by as_aux_lemma => kernel_rfl) (by as_aux_lemma => kernel_rfl) (by as_aux_lemma => kernel_rfl) (fun _ _ _ h => h) (Or.inl ⟨by rfl, ?hy53⟩) (by assumption) ?_
        case hy53 => (intro w hSw; (try dsimp only at hSw); go_simp; try (with_reducible rfl))
        try simp only [Act.put, List.setIfInBounds_toArray, List.set_cons_zero, List.set_cons_succ]
        refine htake (i := 2) (v := ?v54) rfl (by as_aux_lemma => kernel_rfl) (by as_aux_lemma => kernel_rfl) (by as_aux_lemma => kernel_rfl) (fun _ _ _ h => h) (Or.inl ⟨by rfl, ?hy54⟩) (by assumption) ?_
        case hy54 => (intro w hSw; (try dsimp only at hSw); go_simp; try (with_reducible rfl))
        try simp only [Act.put, List.setIfInBounds_toArray, List.set_cons_zero, List.set_cons_succ]
        refine htake (i := 3) (v := ?v55) rfl (by as_aux_lemma => kernel_rfl) (by as_aux_lemma => kernel_rfl) (by as_aux_lemma => kernel_rfl) (fun _ _ _ h => h) (Or.inl ⟨by rfl, ?hy55⟩) (by assumption) ?_
        case hy55 => (intro w hSw; (try dsimp only at hSw); go_simp; try (with_reducible rfl))
        try simp only [Act.put, List.setIfInBounds_toArray, List.set_cons_zero, List.set_cons_succ]
        refine htake (i := 4) (v := ?v56) rfl (by as_aux_lemma => kernel_rfl) (by as_aux_lemma => kernel_rfl) (by as_aux_lemma => kernel_rfl) (fun _ _ _ h => h) (Or.inl ⟨by rfl, ?hy56⟩) (by assumption) ?_
        case hy56 => (intro w hSw; (try dsimp only at hSw); go_simp; try (with_reducible rfl))
        try simp only [Act.put, List.setIfInBounds_toArray, List.set_cons_zero, List.set_cons_succ]
        refine htake (i := 5) (v := ?v57) rfl (by as_aux_lemma => kernel_rfl) (by as_aux_lemma => kernel_rfl) (by as_aux_lemma => kernel_rfl) (fun _ _ _ h => h) (Or.inl ⟨by rfl, ?hy57⟩) (by assumption) ?_
        case hy57 => (intro w hSw; (try dsimp only at hSw); go_simp; try (with_reducible rfl))
        try simp only [Act.put, List.setIfInBounds_toArray, List.set_cons_zero, List.set_cons_succ]
        refine htake (i := 6) (v := ?v58) rfl (by as_aux_lemma => kernel_rfl) (by as_aux_lemma => kernel_rfl) (by as_aux_lemma => kernel_rfl) (fun _ _ _ h => h) (Or.inl ⟨by rfl, ?hy58⟩) (by assumption) ?_
        case hy58 => (intro w hSw; (try dsimp only at hSw); go_simp; try (with_reducible rfl))
        try simp only [Act.put, List.setIfInBounds_toArray, List.set_cons_zero, List.set_cons_succ]
        refine htake (i := 7) (v := ?v59) rfl (by as_aux_lemma => kernel_rfl) (by as_aux_lemma => kernel_rfl) (by as_aux_lemma => kernel_rfl) (fun _ _ _ h => h) (Or.inl ⟨by rfl, ?hy59⟩) (by assumption) ?_
        case hy59 => (intro w hSw; (try dsimp only at hSw); go_simp; try (with_reducible rfl))
        try simp only [Act.put, List.setIfInBounds_toArray, List.set_cons_zero, List.set_cons_succ]
        refine htake (i := 8) (v := ?v60) rfl (by as_aux_lemma => kernel_rfl) (by as_aux_lemma => kernel_rfl) (by as_aux_lemma => kernel_rfl) (fun _ _ _ h => h) (Or.inl ⟨by rfl, ?hy60⟩) (by assumption) ?_
        case hy60 => (intro w hSw; (try dsimp only at hSw); go_simp; try (with_reducible rfl))
        try simp only [Act.put, List.setIfInBounds_toArray, List.set_cons_zero, List.set_cons_succ]
        refine htake (i := 9) (v := ?v61) rfl (by as_aux_lemma => kernel_rfl) (by as_aux_lemma => kernel_rfl) (by as_aux_lemma => kernel_rfl) (fun _ _ _ h => h) (Or.inl ⟨by rfl, ?hy61⟩) (by assumption) ?_
        case hy61 => (intro w hSw; (try dsimp only at hSw); go_simp; try (with_reducible rfl))
        try simp only [Act.put, List.setIfInBounds_toArray, List.set_cons_zero, List.set_cons_succ]
        refine htake (i := 10) (v := ?v62) rfl (by as_aux_lemma => kernel_rfl) (by as_aux_lemma => kernel_rfl) (by as_aux_lemma => kernel_rfl) (fun _ _ _ h => h) (Or.inl ⟨by rfl, ?hy62⟩) (by assumption) ?_
        case hy62 => (intro w hSw; (try dsimp only at hSw); go_simp; try (with_reducible rfl))
        try simp only [Act.put, List.setIfInBounds_toArray, List.set_cons_zero, List.set_cons_succ]
        refine htake (i := 11) (v := ?v63) rfl (by as_aux_lemma => kernel_rfl) (by as_aux_lemma => kernel_rfl) (by as_aux_lemma => kernel_rfl) (fun _ _ _ h => h) (Or.inl ⟨by rfl, ?hy63⟩) (by assumption) ?_
        case hy63 => (intro w hSw; (try dsimp only at hSw); go_simp; try (with_reducible rfl))
        try simp only [Act.put, List.setIfInBounds_toArray, List.set_cons_zero, List.set_cons_succ]
        refine htake (i := 12) (v := ?v64) rfl (by as_aux_lemma => kernel_rfl) (by as_aux_lemma => kernel_rfl) (by as_aux_lemma => kernel_rfl) (fun _ _ _ h => h) (Or.inl ⟨by rfl, ?hy64⟩) (by assumption) ?_
        case hy64 => (intro w hSw; (try dsimp only at hSw); go_simp; try (with_reducible rfl))
        try simp only [Act.put, List.setIfInBounds_toArray, List.set_cons_zero, List.set_cons_succ]
        refine htake (i := 13) (v := ?v65) rfl (by as_aux_lemma => kernel_rfl) (by as_aux_lemma => kernel_rfl) (by as_aux_lemma => kernel_rfl) (fun _ _ _ h => h) (Or.inl ⟨by rfl, ?hy65⟩) (by assumption) ?_
        case hy65 => (intro w hSw; (try dsimp only at hSw); go_simp; try (with_reducible rfl))
        try simp only [Act.put, List.setIfInBounds_toArray, List.set_cons_zero, List.set_cons_succ]
        refine htake (i := 14) (v := ?v66) rfl (by as_aux_lemma => kernel_rfl) (by as_aux_lemma => kernel_rfl) (by as_aux_lemma => kernel_rfl) (fun _ _ _ h => h) (Or.inl ⟨by rfl, ?hy66⟩) (by assumption) ?_
        case hy66 => (intro w hSw; (try dsimp only at hSw); go_simp; try (with_reducible rfl))
        try simp only [Act.put, List.setIfInBounds_toArray, List.set_cons_zero, List.set_cons_succ]
        refine wpAnyH_ready (rs := [15]) (by as_aux_lemma => kernel_rfl) (by simp) ?_
        refine hcons rfl (fun K hK => ?_) (AllReadyH.nil)
        go_simp
        refine hK.out _ _ ?_ (fun hHeld => ?_)
        · (try dsimp only); exact HS12.out _ (fun b o hne => World.cell?_setCell_other _ _ _ _ (by intro e; injection e with e; exact hne e.symm))
        clear hK K
        try simp only [Act.put, List.setIfInBounds_toArray, List.set_cons_zero, List.set_cons_succ]
        refine wpAnyH_done (by as_aux_lemma => kernel_rfl) ?_ _
        refine NoPanic.normal ?_
        iterate 17 (try clear hHeld)
        have bd11 := bd10.set2 (W' := (V10.setCell ⟨gL, p * 4, none⟩ (.int .i64 C1)).drew) (l2' := s.lics.set p ⟨C1, lf, lt, fe⟩) ((bd10.bl.setCell (p := ⟨gL, p * 4, none⟩) bd10.m2 _).drew) (by show _ ≤ (V10.setCell ⟨gL, p * 4, none⟩ _).heap.size; rw [World.size_setCell]; exact Nat.le_refl _) (fun q _ hne => blk_set (Ne.symm hne) _ _) (bd10.o2.set1 (i := 0) (x := .int .i64 C1) lic_len hlp (by decide) rfl rfl)
        generalize (V10.setCell ⟨gL, p * 4, none⟩ (.int .i64 C1)).drew = V11 at *
        clear a0 f0 HS12 bd10
        obtain ⟨p0, p1, -, -, xx, -⟩ := HX.out V11 bd11.bl
        have cc : V11.cell? ⟨b15, 0, none⟩ = some (.slice (some ⟨gS2, 0, none⟩) s.sheets.length cS2) := (cell_of_row V11 _ 0 _ _ _ bd11.r2).trans rfl
        have n1 := row_oa bd11.o3 bd11.r2 (by decide)
        have n2 : w.heap.size ≠ gS2 := by have := bd11.m3; omega
        have n3 : bS ≠ gS2 := by have := bd11.m3; omega
        have HS13 := Lib.hid (show ∀ W : World, (∀ b o, b ≠ gS2 → W.cell? ⟨b, o, none⟩ = V11.cell? ⟨b, o, none⟩) → (W.cell? ⟨b15, 0, none⟩ = some (.slice (some ⟨gS2, 0, none⟩) s.sheets.length cS2) ∧ W.cell? ⟨w.heap.size, 0, none⟩ = some (.slice (some ⟨bS, oS, none⟩) s.sheets.length s.c1) ∧ W.cell? ⟨bS, oS + k * 3 + 2, none⟩ = some (.int .i64 co)) from fun W h => ⟨(h _ _ n1).trans cc, (h _ _ n2).trans p0, (h _ _ n3).trans xx⟩)
        have a0 := bd11.o3.cellAt hsk (j := 2) rfl
        have f0 := bd11.o3.ice (k * 3 + 2)
        go_wp2_with fail
        clear p0 p1 xx cc n1 n2 n3
        refine wp_region_noPanic ?_
        refine wp_region_held_drew (S := (fun W => W.cell? ⟨b15, 0, none⟩ = some (.slice (some ⟨gS2, 0, none⟩) s.sheets.length cS2) ∧ W.cell? ⟨w.heap.size, 0, none⟩ = some (.slice (some ⟨bS, oS, none⟩) s.sheets.length s.c1) ∧ W.cell? ⟨bS, oS + k * 3 + 2, none⟩ = some (.int .i64 co))) (by as_aux_lemma => kernel_rfl) ?_ (fun hHeld => ?_)
        · (try dsimp only); exact HS13.out _ (fun _ _ _ => rfl)
        refine htake (i := 0) (v := ?v67) rfl (by as_aux_lemma => kernel_rfl) (by as_aux_lemma => kernel_rfl) (by as_aux_lemma => kernel_rfl) (fun _ _ _ h => h) (Or.inl ⟨by rfl, ?hy67⟩) (by assumption) ?_
        case hy67 => (intro w hSw; (try dsimp only at hSw); go_simp; try (with_reducible rfl))
        try simp only [Act.put, List.setIfInBounds_toArray, List.set_cons_zero, List.set_cons_succ]
        refine htake (i := 1) (v := ?v68) rfl (by as_aux_lemma => kernel_rfl) (by as_aux_lemma => kernel_rfl) (by as_aux_lemma => kernel_rfl) (fun _ _ _ h => h) (Or.inl ⟨by rfl, ?hy68⟩) (by assumption) ?_
        case hy68 => (intro w hSw; (try dsimp only at hSw); go_simp; try (with_reducible rfl))
        try simp only [Act.put, List.setIfInBounds_toArray, List.set_cons_zero, List.set_cons_succ]
        refine htake (i := 2) (v := ?v69) rfl (by as_aux_lemma => kernel_rfl) (by as_aux_lemma => kernel_rfl) (by as_aux_lemma => kernel_rfl) (fun _ _ _ h => h) (Or.inl ⟨by rfl, ?hy69⟩) (by assumption) ?_
        case hy69 => (intro w hSw; (try dsimp only at hSw); go_simp; try (with_reducible rfl))
        try simp only [Act.put, List.setIfInBounds_toArray, List.set_cons_zero, List.set_cons_succ]
        refine htake (i := 3) (v := ?v70) rfl (by as_aux_lemma => kernel_rfl) (by as_aux_lemma => kernel_rfl) (by as_aux_lemma => kernel_rfl) (fun _ _ _ h => h) (Or.inl ⟨by rfl, ?hy70⟩) (by assumption) ?_
        case hy70 => (intro w hSw; (try dsimp only at hSw); go_simp; try (with_reducible rfl))
        try simp only [Act.put, List.setIfInBounds_toArray, List.set_cons_zero, List.set_cons_succ]
        refine htake (i := 4) (v := ?v71) rfl (by as_aux_lemma => kernel_rfl) (by as_aux_lemma => kernel_rfl) (by as_aux_lemma => kernel_rfl) (fun _ _ _ h => h) (Or.inl ⟨by rfl, ?hy71⟩) (by assumption) ?_
        case hy71 => (intro w hSw; (try dsimp only at hSw); go_simp; try (with_reducible rfl))
        try simp only [Act.put, List.setIfInBounds_toArray, List.set_cons_zero, List.set_cons_succ]
        refine htake (i := 5) (v := ?v72) rfl (by as_aux_lemma => kernel_rfl) (by as_aux_lemma => kernel_rfl) (by as_aux_lemma => kernel_rfl) (fun _ _ _ h => h) (Or.inl ⟨by rfl, ?hy72⟩) (by assumption) ?_
        case hy72 => (intro w hSw; (try dsimp only at hSw); go_simp; try (with_reducible rfl))
        try simp only [Act.put, List.setIfInBounds_toArray, List.set_cons_zero, List.set_cons_succ]
        refine htake (i := 6) (v := ?v73) rfl (by as_aux_lemma => kernel_rfl) (by as_aux_lemma => kernel_rfl) (by as_aux_lemma => kernel_rfl) (fun _ _ _ h => h) (Or.inl ⟨by rfl, ?hy73⟩) (by assumption) ?_
        case hy73 => (intro w hSw; (try dsimp only at hSw); go_simp; try (with_reducible rfl))
        try simp only [Act.put, List.setIfInBounds_toArray, List.set_cons_zero, List.set_cons_succ]
        refine htake (i := 7) (v := ?v74) rfl (by as_aux_lemma => kernel_rfl) (by as_aux_lemma => kernel_rfl) (by as_aux_lemma => kernel_rfl) (fun _ _ _ h => h) (Or.inl ⟨by rfl, ?hy74⟩) (by assumption) ?_
        case hy74 => (intro w hSw; (try dsimp only at hSw); go_simp; try (with_reducible rfl))
        try simp only [Act.put, List.setIfInBounds_toArray, List.set_cons_zero, List.set_cons_succ]
        refine htake (i := 8) (v := ?v75) rfl (by as_aux_lemma => kernel_rfl) (by as_aux_lemma => kernel_rfl) (by as_aux_lemma => kernel_rfl) (fun _ _ _ h => h) (Or.inl ⟨by rfl, ?hy75⟩) (by assumption) ?_
        case hy75 => (intro w hSw; (try dsimp only at hSw); go_simp; try (with_reducible rfl))
        try simp only [Act.put, List.setIfInBounds_toArray, List.set_cons_zero, List.set_cons_succ]
        refine htake (i := 9) (v := ?v76) rfl (by as_aux_lemma => kernel_rfl) (by as_aux_lemma => kernel_rfl) (by as_aux_lemma => kernel_rfl) (fun _ _ _ h => h) (Or.inl ⟨by rfl, ?hy76⟩) (by assumption) ?_
        case hy76 => (intro w hSw; (try dsimp only at hSw); go_simp; try (with_reducible rfl))
        try simp only [Act.put, List.setIfInBounds_toArray, List.set_cons_zero, List.set_cons_succ]
        refine htake (i := 10) (v := ?v77) rfl (by as_aux_lemma => kernel_rfl) (by as_aux_lemma => kernel_rfl) (by as_aux_lemma => kernel_rfl) (fun _ _ _ h => h) (Or.inl ⟨by rfl, ?hy77⟩) (by assumption) ?_
        case hy77 => (intro w hSw; (try dsimp only at hSw); go_simp; try (with_reducible rfl))
        try simp only [Act.put, List.setIfInBounds_toArray, List.set_cons_zero, List.set_cons_succ]
        refine htake (i := 11) (v := ?v78) rfl (by as_aux_lemma => kernel_rfl) (by as_aux_lemma => kernel_rfl) (by as_aux_lemma => kernel_rfl) (fun _ _ _ h => h) (Or.inl ⟨by rfl, ?hy78⟩) (by assumption) ?_
        case hy78 => (intro w hSw; (try dsimp only at hSw); go_simp; try (with_reducible rfl))
        try simp only [Act.put, List.setIfInBounds_toArray, List.set_cons_zero, List.set_cons_succ]
        refine htake (i := 12) (v := ?v79) rfl (by as_aux_lemma => kernel_rfl) (by as_aux_lemma => kernel_rfl) (by as_aux_lemma => kernel_rfl) (fun _ _ _ h => h) (Or.inl ⟨by rfl, ?hy79⟩) (by assumption) ?_
        case hy79 => (intro w hSw; (try dsimp only at hSw); go_simp; try (with_reducible rfl))
        try simp only [Act.put, List.setIfInBounds_toArray, List.set_cons_zero, List.set_cons_succ]
        refine htake (i := 13) (v := ?v80) rfl (by as_aux_lemma => kernel_rfl) (by as_aux_lemma => kernel_rfl) (by as_aux_lemma => kernel_rfl) (fun _ _ _ h => h) (Or.inl ⟨by rfl, ?hy80⟩) (by assumption) ?_
        case hy80 => (intro w hSw; (try dsimp only at hSw); go_simp; try (with_reducible rfl))
        try simp only [Act.put, List.setIfInBounds_toArray, List.set_cons_zero, List.set_cons_succ]
        refine htake (i := 14) (v := ?v81) rfl (by as_aux_lemma => kernel_rfl) (by as_aux_lemma => kernel_rfl) (by as_aux_lemma => kernel_rfl) (fun _ _ _ h => h) (Or.inl ⟨by rfl, ?hy81⟩) (by assumption) ?_
        case hy81 => (intro w hSw; (try dsimp only at hSw); go_simp; try (with_reducible rfl))
        try simp only [Act.put, List.setIfInBounds_toArray, List.set_cons_zero, List.set_cons_succ]
        refine wpAnyH_ready (rs := [15]) (by as_aux_lemma => kernel_rfl) (by simp) ?_
        refine hcons rfl (fun K hK => ?_) (AllReadyH.nil)
        go_simp
        refine hK.out _ _ ?_ (fun hHeld => ?_)
        · (try dsimp only); exact HS13.out _ (fun b o hne => World.cell?_setCell_other _ _ _ _ (by intro e; injection e with e; exact hne e.symm))
        clear hK K
        try simp only [Act.put, List.setIfInBounds_toArray, List.set_cons_zero, List.set_cons_succ]
        refine wpAnyH_done (by as_aux_lemma => kernel_rfl) ?_ _
        refine NoPanic.normal ?_
        iterate 17 (try clear hHeld)
        have bd12 := bd11.set3 (W' := (V11.setCell ⟨gS2, k * 3 + 2, none⟩ (.int .i64 O1)).drew) (l3' := s.sheets.set k ⟨lo, hi, O1⟩) ((bd11.bl.setCell (p := ⟨gS2, k * 3 + 2, none⟩) bd11.m3 _).drew) (by show _ ≤ (V11.setCell ⟨gS2, k * 3 + 2, none⟩ _).heap.size; rw [World.size_setCell]; exact Nat.le_refl _) (fun q _ hne => blk_set (Ne.symm hne) _ _) (bd11.o3.set1 (i := 2) (x := .int .i64 O1) sheet_len hsk (by decide) rfl rfl)
        generalize (V11.setCell ⟨gS2, k * 3 + 2, none⟩ (.int .i64 O1)).drew = V12 at *
        clear a0 f0 HS13 bd11
        obtain ⟨p0, p1, -, -, -, -, xx⟩ := HX.out V12 bd12.bl
        have cc : V12.cell? ⟨b15, 1, none⟩ = some (.slice (some ⟨gL2, 0, none⟩) s.lics.length cL2) := (cell_of_row V12 _ 1 _ _ _ bd12.r2).trans rfl
        have n1 := row_oa bd12.o4 bd12.r2 (by decide)
        have n2 : w.heap.size ≠ gL2 := by have := bd12.m4; omega
        have n3 : bL ≠ gL2 := by have := bd12.m4; omega
        have HS14 := Lib.hid (show ∀ W : World, (∀ b o, b ≠ gL2 → W.cell? ⟨b, o, none⟩ = V12.cell? ⟨b, o, none⟩) → (W.cell? ⟨b15, 1, none⟩ = some (.slice (some ⟨gL2, 0, none⟩) s.lics.length cL2) ∧ W.cell? ⟨w.heap.size, 1, none⟩ = some (.slice (some ⟨bL, oL, none⟩) s.lics.length s.c2) ∧ W.cell? ⟨bL, oL + p * 4 + 3, none⟩ = some (.int .i64 fe)) from fun W h => ⟨(h _ _ n1).trans cc, (h _ _ n2).trans p1, (h _ _ n3).trans xx⟩)
        have a0 := bd12.o4.cellAt hlp (j := 3) rfl
        have f0 := bd12.o4.ice (p * 4 + 3)
        go_wp2_with fail
        clear p0 p1 xx cc n1 n2 n3
        refine wp_region_noPanic ?_
        refine wp_region_held_drew (S := (fun W => W.cell? ⟨b15, 1, none⟩ = some (.slice (some ⟨gL2, 0, none⟩) s.lics.length cL2) ∧ W.cell? ⟨w.heap.size, 1, none⟩ = some (.slice (some ⟨bL, oL, none⟩) s.lics.length s.c2) ∧ W.cell? ⟨bL, oL + p * 4 + 3, none⟩ = some (.int .i64 fe))) (by as_aux_lemma => kernel_rfl) ?_ (fun hHeld => ?_)
        · (try dsimp only); exact HS14.out _ (fun _ _ _ => rfl)
        refine htake (i := 0) (v := ?v82) rfl (by as_aux_lemma => kernel_rfl) (by as_aux_lemma => kernel_rfl) (by as_aux_lemma => kernel_rfl) (fun _ _ _ h => h) (Or.inl ⟨by rfl, ?hy82⟩) (by assumption) ?_
        case hy82 => (intro w hSw; (try dsimp only at hSw); go_simp; try (with_reducible rfl))
        try simp only [Act.put, List.setIfInBounds_toArray, List.set_cons_zero, List.set_cons_succ]
        refine htake (i := 1) (v := ?v83) rfl (by as_aux_lemma => kernel_rfl) (by as_aux_lemma => kernel_rfl) (by as_aux_lemma => kernel_rfl) (fun _ _ _ h => h) (Or.inl ⟨by rfl, ?hy83⟩) (by assumption) ?_
        case hy83 => (intro w hSw; (try dsimp only at hSw); go_simp; try (with_reducible rfl))
        try simp only [Act.put, List.setIfInBounds_toArray, List.set_cons_zero, List.set_cons_succ]
        refine htake (i := 2) (v := ?v84) rfl (by as_aux_lemma => kernel_rfl) (by as_aux_lemma => kernel_rfl) (by as_aux_lemma => kernel_rfl) (fun _ _ _ h => h) (Or.inl ⟨by rfl, ?hy84⟩) (by assumption) ?_
        case hy84 => (intro w hSw; (try dsimp only at hSw); go_simp; try (with_reducible rfl))
        try simp only [Act.put, List.setIfInBounds_toArray, List.set_cons_zero, List.set_cons_succ]
        refine htake (i := 3) (v := ?v85) rfl (by as_aux_lemma => kernel_rfl) (by as_aux_lemma => kernel_rfl) (by as_aux_lemma => kernel_rfl) (fun _ _ _ h => h) (Or.inl ⟨by rfl, ?hy85⟩) (by assumption) ?_
        case hy85 => (intro w hSw; (try dsimp only at hSw); go_simp; try (with_reducible rfl))
        try simp only [Act.put, List.setIfInBounds_toArray, List.set_cons_zero, List.set_cons_succ]
        refine htake (i := 4) (v := ?v86) rfl (by as_aux_lemma => kernel_rfl) (by as_aux_lemma => kernel_rfl) (by as_aux_lemma => kernel_rfl) (fun _ _ _ h => h) (Or.inl ⟨by rfl, ?hy86⟩) (by assumption) ?_
        case hy86 => (intro w hSw; (try dsimp only at hSw); go_simp; try (with_reducible rfl))
        try simp only [Act.put, List.setIfInBounds_toArray, List.set_cons_zero, List.set_cons_succ]
        refine htake (i := 5) (v := ?v87) rfl (by as_aux_lemma => kernel_rfl) (by as_aux_lemma => kernel_rfl) (by as_aux_lemma => kernel_rfl) (fun _ _ _ h => h) (Or.inl ⟨by rfl, ?hy87⟩) (by assumption) ?_
        case hy87 => (intro w hSw; (try dsimp only at hSw); go_simp; try (with_reducible rfl))
        try simp only [Act.put, List.setIfInBounds_toArray, List.set_cons_zero, List.set_cons_succ]
        refine htake (i := 6) (v := ?v88) rfl (by as_aux_lemma => kernel_rfl) (by as_aux_lemma => kernel_rfl) (by as_aux_lemma => kernel_rfl) (fun _ _ _ h => h) (Or.inl ⟨by rfl, ?hy88⟩) (by assumption) ?_
        case hy88 => (intro w hSw; (try dsimp only at hSw); go_simp; try (with_reducible rfl))
        try simp only [Act.put, List.setIfInBounds_toArray, List.set_cons_zero, List.set_cons_succ]
        refine htake (i := 7) (v := ?v89) rfl (by as_aux_lemma => kernel_rfl) (by as_aux_lemma => kernel_rfl) (by as_aux_lemma => kernel_rfl) (fun _ _ _ h => h) (Or.inl ⟨by rfl, ?hy89⟩) (by assumption) ?_
        case hy89 => (intro w hSw; (try dsimp only at hSw); go_simp; try (with_reducible rfl))
        try simp only [Act.put, List.setIfInBounds_toArray, List.set_cons_zero, List.set_cons_succ]
        refine htake (i := 8) (v := ?v90) rfl (by as_aux_lemma => kernel_rfl) (by as_aux_lemma => kernel_rfl) (by as_aux_lemma => kernel_rfl) (fun _ _ _ h => h) (Or.inl ⟨by rfl, ?hy90⟩) (by assumption) ?_
        case hy90 => (intro w hSw; (try dsimp only at hSw); go_simp; try (with_reducible rfl))
        try simp only [Act.put, List.setIfInBounds_toArray, List.set_cons_zero, List.set_cons_succ]
        refine htake (i := 9) (v := ?v91) rfl (by as_aux_lemma => kernel_rfl) (by as_aux_lemma => kernel_rfl) (by as_aux_lemma => kernel_rfl) (fun _ _ _ h => h) (Or.inl ⟨by rfl, ?hy91⟩) (by assumption) ?_
        case hy91 => (intro w hSw; (try dsimp only at hSw); go_simp; try (with_reducible rfl))
        try simp only [Act.put, List.setIfInBounds_toArray, List.set_cons_zero, List.set_cons_succ]
        refine htake (i := 10) (v := ?v92) rfl (by as_aux_lemma => kernel_rfl) (by as_aux_lemma => kernel_rfl) (by as_aux_lemma => kernel_rfl) (fun _ _ _ h => h) (Or.inl ⟨by rfl, ?hy92⟩) (by assumption) ?_
        case hy92 => (intro w hSw; (try dsimp only at hSw); go_simp; try (with_reducible rfl))
        try simp only [Act.put, List.setIfInBounds_toArray, List.set_cons_zero, List.set_cons_succ]
        refine htake (i := 11) (v := ?v93) rfl (by as_aux_lemma => kernel_rfl) (by as_aux_lemma => kernel_rfl) (by as_aux_lemma => kernel_rfl) (fun _ _ _ h => h) (Or.inl ⟨by rfl, ?hy93⟩) (by assumption) ?_
        case hy93 => (intro w hSw; (try dsimp only at hSw); go_simp; try (with_reducible rfl))
        try simp only [Act.put, List.setIfInBounds_toArray, List.set_cons_zero, List.set_cons_succ]
        refine htake (i := 12) (v := ?v94) rfl (by as_aux_lemma => kernel_rfl) (by as_aux_lemma => kernel_rfl) (by as_aux_lemma => kernel_rfl) (fun _ _ _ h => h) (Or.inl ⟨by rfl, ?hy94⟩) (by assumption) ?_
        case hy94 => (intro w hSw; (try dsimp only at hSw); go_simp; try (with_reducible rfl))
        try simp only [Act.put, List.setIfInBounds_toArray, List.set_cons_zero, List.set_cons_succ]
        refine htake (i := 13) (v := ?v95) rfl (by as_aux_lemma => kernel_rfl) (by as_aux_lemma => kernel_rfl) (by as_aux_lemma => kernel_rfl) (fun _ _ _ h => h) (Or.inl ⟨by rfl, ?hy95⟩) (by assumption) ?_
        case hy95 => (intro w hSw; (try dsimp only at hSw); go_simp; try (with_reducible rfl))
        try simp only [Act.put, List.setIfInBounds_toArray, List.set_cons_zero, List.set_cons_succ]
        refine htake (i := 14) (v := ?v96) rfl (by as_aux_lemma => kernel_rfl) (by as_aux_lemma => kernel_rfl) (by as_aux_lemma => kernel_rfl) (fun _ _ _ h => h) (Or.inl ⟨by rfl, ?hy96⟩) (by assumption) ?_
        case hy96 => (intro w hSw; (try dsimp only at hSw); go_simp; try (with_reducible rfl))
        try simp only [Act.put, List.setIfInBounds_toArray, List.set_cons_zero, List.set_cons_succ]
        refine wpAnyH_ready (rs := [15]) (by as_aux_lemma => kernel_rfl) (by simp) ?_
        refine hcons rfl (fun K hK => ?_) (AllReadyH.nil)
        go_simp
        refine hK.out _ _ ?_ (fun hHeld => ?_)
        · (try dsimp only); exact HS14.out _ (fun b o hne => World.cell?_setCell_other _ _ _ _ (by intro e; injection e with e; exact hne e.symm))
        clear hK K
        try simp only [Act.put, List.setIfInBounds_toArray, List.set_cons_zero, List.set_cons_succ]
        refine wpAnyH_done (by as_aux_lemma => kernel_rfl) ?_ _
        refine NoPanic.normal ?_
        iterate 17 (try clear hHeld)
        have bd13 := bd12.set4 (W' := (V12.setCell ⟨gL2, p * 4 + 3, none⟩ (.int .i64 F1)).drew) (l4' := s.lics.set p ⟨cp, lf, lt, F1⟩) ((bd12.bl.setCell (p := ⟨gL2, p * 4 + 3, none⟩) bd12.m4 _).drew) (by show _ ≤ (V12.setCell ⟨gL2, p * 4 + 3, none⟩ _).heap.size; rw [World.size_setCell]; exact Nat.le_refl _) (fun q _ hne => blk_set (Ne.symm hne) _ _) (bd12.o4.set1 (i := 3) (x := .int .i64 F1) lic_len hlp (by decide) rfl rfl)
        generalize (V12.setCell ⟨gL2, p * 4 + 3, none⟩ (.int .i64 F1)).drew = V13 at *
        clear a0 f0 HS14 bd12
        have hK13 := K4.out.next bd13.bl
        obtain ⟨xr, exr, sxr, bxr⟩ := copy_store hK13.st bd13.o1 bd13.o2 (by simp) (by simp) bd13.r1
        obtain ⟨xc, exc, sxc, bxc⟩ := copy_store hK13.st bd13.o3 bd13.o4 (by simp) (by simp) bd13.r2
        have hMr : Mo s xr := by
          have h1 := rich_mo Hok.out hk hp (b := (bn : Int)) (by omega) (some ⟨gS, 0, none⟩) (some ⟨gL, 0, none⟩) cS cL
          rw [HE.out, HL.out] at h1
          rw [exr, HL1.out, HH1.out, HC1.out]; exact h1
        have hMc : Mo s xc := by
          have h1 := cheap_mo Hok.out hk hp (b := (bn : Int)) (by omega) (some ⟨gS2, 0, none⟩) (some ⟨gL2, 0, none⟩) cS2 cL2
          rw [HE.out, HL.out] at h1
          rw [exc, HO1.out, HF1.out]; exact h1
        have K13 := Lib.hid (show MW s xr xc y w.heap.size b14 b15 V13 from ⟨hK13, Y4.out.next bd13.bl, bxr, bxc, sxr, sxc⟩)
        have B13 := Lib.hid (B4.out.trans (bd13.bl.mono B4.out.size))
        have HMR := Lib.hid hMr
        have HMC := Lib.hid hMc
        clear exr exc sxr bxr sxc bxc hMr hMc hK13 bd13 K4 B4 Y4 HE HL HL1 HH1 HC1 HO1 HF1 HX m1 m2 m3 m4 m5 hwb hw1 hw2 hw3 hw4 hw5 hsk hlp sb lb hkm hpm hk hp
        obtain ⟨av, hav⟩ : ∃ av, av = acceptedS s st := ⟨_, rfl⟩
        obtain ⟨sv, hsv⟩ : ∃ sv, sv = surelyS s st := ⟨_, rfl⟩
        obtain ⟨cv, hcv⟩ : ∃ cv, cv = canS s st := ⟨_, rfl⟩
        obtain ⟨ol, oh, hol⟩ : ∃ u v, profitS s st = (u, v) := ⟨_, _, rfl⟩
        have HAV := Lib.hid hav
        have HSV := Lib.hid hsv
        have HCV := Lib.hid hcv
        have HOL := Lib.hid hol
        clear hav hsv hcv hol
        obtain ⟨-, -, -, p0, p1, p2, p3⟩ := id K13.out.aw
        go_wp2_with fail
        refine (show Calls Tryd.prog 21 #[.agg #[.slice s.A1 s.sheets.length s.c1, .slice s.A2 s.lics.length s.c2, .slice s.A3 s.makes.length s.c3, .slice s.A4 s.wishes.length s.c4], .int .i64 st] V13 (Ret3 (.bool sv) (.bool cv) (.int .i64 av) V13) from by have := Covered21_any s st V13 K13.out.aw.st K13.out.aw.en; rw [← HAV.out, ← HSV.out, ← HCV.out] at this; exact this).mono ?_
        rintro e V14 ⟨rfl, hb⟩
        have K14 := Lib.hid (K13.out.next hb)
        have B14 := Lib.hid (B13.out.trans (hb.mono B13.out.size))
        clear hb K13 B13 p0 p1 p2 p3
        obtain ⟨-, -, -, p0, p1, p2, p3⟩ := id K14.out.aw
        go_wp2_with fail
        refine (show Calls Tryd.prog 23 #[.agg #[.slice s.A1 s.sheets.length s.c1, .slice s.A2 s.lics.length s.c2, .slice s.A3 s.makes.length s.c3, .slice s.A4 s.wishes.length s.c4], .int .i64 st] V14 (RetP (ol, oh) av V14) from by have := Profit23_any s st V14 K14.out.aw.st K14.out.aw.en; rw [← HAV.out, HOL.out] at this; exact this).mono ?_
        rintro e V15 ⟨rfl, hb⟩
        dsimp only
        replace hb := hb.alloc hb.size (.cells #[.int .i64 ol, .int .i64 oh] 44)
        have Q15 := Lib.hid (IBlk.span V15 ol oh 44)
        have K15 := Lib.hid (K14.out.next hb)
        have B15 := Lib.hid (B14.out.trans (hb.mono B14.out.size))
        clear hb K14 B14 p0 p1 p2 p3
        go_wp2_with fail
        generalize (V15.alloc (.cells #[.int .i64 ol, .int .i64 oh] 44)) = V16 at *
        generalize V15.heap.size = go at *
        refine wp_loopM mask18 (fun g W => R18M V16 (g 24) W) (fun g _ => 2 - (intOf (g 24)).toNat) (by kernel_rfl) ?_ ?_
        · exact ⟨0, by omega, slotF_at rfl, Below.refl _ _⟩
        intro f wr hrel
        obtain ⟨i, hi2, e24, hb⟩ := hrel
        have K17 := Lib.hid (K15.out.next hb)
        have B17 := Lib.hid hb
        have Q17 := Lib.hid (Q15.out.next hb)
        clear hb
        have h012 : i = 0 ∨ i = 1 ∨ i = 2 := by omega
        rcases h012 with rfl | rfl | rfl
        · exact more_arm0 K17 B17 Q17 HMR HGX HAV HSV HCV HOL e24
        · exact more_arm1 K17 B17 Q17 HMC HGX HAV HSV HCV HOL e24
        · simp only [mask18, mixF, e24]
          have E24 := Lib.hid e24
          clear e24
          obtain ⟨-, -, -, p0, p1, p2, p3⟩ := id K17.out.aw
          by_cases hn9 : 9 ≤ s.wishes.length
          · have d1 : decide ((9 : Int) ≤ (s.wishes.length : Int)) = true := by simp; omega
            go_wp2_with fail
            refine (awake_any wr K17.out.aw.en).mono ?_
            rintro e VZ ⟨rfl, hb⟩
            have BZ := Lib.hid (B15.out.trans ((B17.out.trans (hb.mono B17.out.size)).mono B15.out.size))
            clear hb
            go_wp2
            go_ret
            exact ⟨rfl, BZ.out⟩
          have d1 : decide ((9 : Int) ≤ (s.wishes.length : Int)) = false := by simp; omega
          go_upto_region 31 with fail
          clear p0 p1 p2 p3
          have hB18 := nxA wr (.cells #[.slice s.A1 s.sheets.length s.c1, .slice s.A2 s.lics.length s.c2, .slice s.A3 s.makes.length s.c3, .slice s.A4 s.wishes.length s.c4] 27)
          have r34 : (wr.alloc (.cells #[.slice s.A1 s.sheets.length s.c1, .slice s.A2 s.lics.length s.c2, .slice s.A3 s.makes.length s.c3, .slice s.A4 s.wishes.length s.c4] 27)).heap[wr.heap.size]? = some (.cells #[.slice s.A1 s.sheets.length s.c1, .slice s.A2 s.lics.length s.c2, .slice s.A3 s.makes.length s.c3, .slice s.A4 s.wishes.length s.c4] 27 (0, 0)) := heap_alloc_new _ _
          have hlt : wr.heap.size < (wr.alloc (.cells #[.slice s.A1 s.sheets.length s.c1, .slice s.A2 s.lics.length s.c2, .slice s.A3 s.makes.length s.c3, .slice s.A4 s.wishes.length s.c4] 27)).heap.size := by simp
          have hyl := K17.out.yb.lt
          have K18 := Lib.hid (K17.out.next hB18)
          generalize wr.alloc (.cells #[.slice s.A1 s.sheets.length s.c1, .slice s.A2 s.lics.length s.c2, .slice s.A3 s.makes.length s.c3, .slice s.A4 s.wishes.length s.c4] 27) = V18 at *
          go_cut [] (fun wx => MoreR s y wr wr.heap.size wx)
          case first =>
                by_cases hw0 : s.wishes.length = 0
                · refine more31E K17 K18 hB18 r34 hlt hyl hw0 ?_
                  intro y0 y1 y2 y3 y4 y5 y6 y7 W h
                  go_wp2_with fail
                  go_meet
                  exact h
                · refine more31F K17 K18 hB18 r34 hlt hyl hn9 hw0 ?_
                  intro y0 y1 y2 y3 y4 y5 y6 y7 W h
                  go_wp2_with fail
                  go_meet
                  exact h
          case rest =>
            obtain ⟨x, hLx, hbx, hsx, hb⟩ := hcut
            generalize wc = V19 at *
            have K19 := Lib.hid (K17.out.next hb)
            have B19 := Lib.hid (B17.out.trans (hb.mono B17.out.size))
            clear hb K17 B17 Q17 K18 r34 hlt hyl hB18 d1 hi2
            obtain ⟨sb, hsb⟩ : ∃ z, z = storeS x := ⟨_, rfl⟩
            obtain ⟨gn, hgn⟩ : ∃ z, z = acGain x := ⟨_, rfl⟩
            have hgx : sb = true → gx ≤ gn := fun h => by
                have e : acGain x = G x (bestS x) := if_pos (hsb.symm.trans h)
                rw [HGX.out, hgn, e]; exact hLx.best
            have HA := Lib.hid (show Calls Tryd.prog 26 #[.agg #[.slice x.A1 x.sheets.length x.c1, .slice x.A2 x.lics.length x.c2, .slice x.A3 x.makes.length x.c3, .slice x.A4 x.wishes.length x.c4]] V19 (Ret3 (.int .i64 (acSet x)) (.int .i64 gn) (.int .i64 (if sb = true then 0 else 1)) V19) from by have := Accept26_any x V19 hsx; rw [hgn, hsb]; exact this)
            have HSt := Lib.hid (fun (W : World) (h : StoreAt W W.heap.size x) => (show Calls Tryd.prog 30 #[.agg #[.slice x.A1 x.sheets.length x.c1, .slice x.A2 x.lics.length x.c2, .slice x.A3 x.makes.length x.c3, .slice x.A4 x.wishes.length x.c4]] W (Ret (.bool sb) W) from by have := Store_any x W h; rw [← hsb] at this; exact this))
            have SX := Lib.hid hsx
            have BX := Lib.hid hbx
            clear hsx hgn hsb HGX HAV HSV HCV HOL HMR HMC hLx
            generalize wr.heap.size = g34 at *
            obtain ⟨-, q0, q1, q2, q3⟩ := id BX.out
            clear hbx
            go_wp2_with fail
            cases sb
            all_goals
                refine HA.out.mono ?_
                rintro e V20 ⟨rfl, hb⟩
                have K20 := Lib.hid (K19.out.next hb)
                have B20 := Lib.hid (B19.out.trans (hb.mono B19.out.size))
                have X20 := Lib.hid (BX.out.next hb)
                have S20 := Lib.hid (SX.out.next hb)
                clear hb K19 B19 BX SX q0 q1 q2 q3 HA
                obtain ⟨-, q0, q1, q2, q3⟩ := id X20.out
                (first | (have d2 : decide (gx ≤ gn) = true := (by simp; exact hgx rfl)) | skip)
                clear hgx
                go_wp2_with fail
                refine (HSt.out V20 S20.out).mono ?_
                rintro e V21 ⟨rfl, hb⟩
                have K21 := Lib.hid (K20.out.next hb)
                have B21 := Lib.hid (B20.out.trans (hb.mono B20.out.size))
                clear hb K20 B20 X20 S20 q0 q1 q2 q3 HSt
                go_wp2_with fail
                refine (awake_any V21 K21.out.aw.en).mono ?_
                rintro e VZ ⟨rfl, hb⟩
                have BZ := Lib.hid (B15.out.trans ((B21.out.trans (hb.mono B21.out.size)).mono B15.out.size))
                clear hb
                go_wp2
                go_ret
                exact ⟨rfl, BZ.out⟩
end Go.Proofs.YtfffhbolaimmdaaDoor
