import Derived.Lib.ItoaNum
import Derived.Lib.AtoiAll
import Derived.Lib.SplitLaws
import Derived.Lib.Join
namespace Go.Proofs.YtonnemkecppmiaaGreatDoor
section
open Go
/-! Plain: texts of numbers, words and lines. -/
abbrev Tx := List UInt8
def isDig (c : UInt8) : Prop := 48 ≤ c.toNat ∧ c.toNat ≤ 57
theorem dig_of {u : Nat} (h : u < 10) : isDig (UInt8.ofNat (48 + u)) ∧ (UInt8.ofNat (48 + u)).toNat = 48 + u := by
  have e : (UInt8.ofNat (48 + u)).toNat = 48 + u := by
    rw [UInt8.toNat_ofNat']; omega
  exact ⟨⟨by omega, by omega⟩, e⟩
theorem dec_small {u : Nat} (h : u < 10) : Lib.decDigits u = [UInt8.ofNat (48 + u)] := by rw [Lib.decDigits, dif_pos h]
theorem dec_big {u : Nat} (h : ¬ u < 10) : Lib.decDigits u = Lib.decDigits (u / 10) ++ [UInt8.ofNat (48 + u % 10)] := by rw [Lib.decDigits, dif_neg h]
theorem dec_digs : ∀ u : Nat, ∀ c ∈ Lib.decDigits u, isDig c := fun u => by
  induction u using Nat.strongRecOn with
  | ind u ih =>
    by_cases h : u < 10
    · rw [dec_small h]
      intro c hc
      rw [List.mem_singleton.1 hc]
      exact (dig_of h).1
    · rw [dec_big h]
      intro c hc
      rcases List.mem_append.1 hc with hc | hc
      · exact ih (u / 10) (by omega) c hc
      · rw [List.mem_singleton.1 hc]
        exact (dig_of (show u % 10 < 10 by omega)).1
theorem dec_ne (u : Nat) : Lib.decDigits u ≠ [] := by
  by_cases h : u < 10
  · rw [dec_small h]; exact List.cons_ne_nil _ _
  · rw [dec_big h]; exact fun e => by simp at e
/-- What a list of digits spells, behind what was spelt before. -/
def spell (acc : Nat) : Tx → Nat
  | [] => acc
  | c :: l => spell (acc * 10 + (c.toNat - 48)) l
theorem spell_app (l m : Tx) : ∀ acc, spell acc (l ++ m) = spell (spell acc l) m := by
  induction l with
  | nil => intro acc; rfl
  | cons c l ih => intro acc; exact ih _
theorem spell_dec : ∀ u : Nat, spell 0 (Lib.decDigits u) = u := fun u => by
  induction u using Nat.strongRecOn with
  | ind u ih =>
    by_cases h : u < 10
    · rw [dec_small h]
      show 0 * 10 + ((UInt8.ofNat (48 + u)).toNat - 48) = u
      rw [(dig_of h).2]; omega
    · rw [dec_big h, spell_app, ih (u / 10) (by omega)]
      show u / 10 * 10 + ((UInt8.ofNat (48 + u % 10)).toNat - 48) = u
      rw [(dig_of (show u % 10 < 10 by omega)).2]; omega
theorem spell_lt (l : Tx) (hd : ∀ c ∈ l, isDig c) : ∀ acc, spell acc l < (acc + 1) * 10 ^ l.length := by
  induction l with
  | nil => intro acc; show acc < (acc + 1) * 1; omega
  | cons c l ih =>
    intro acc
    have hc := hd c (List.mem_cons_self ..)
    have h1 := ih (fun x hx => hd x (List.mem_cons_of_mem _ hx)) (acc * 10 + (c.toNat - 48))
    show spell (acc * 10 + (c.toNat - 48)) l < (acc + 1) * 10 ^ (l.length + 1)
    have h2 : (acc * 10 + (c.toNat - 48) + 1) * 10 ^ l.length ≤ (acc + 1) * 10 * 10 ^ l.length := Nat.mul_le_mul_right _ (by unfold isDig at hc; omega)
    rw [Nat.pow_succ, Nat.mul_comm (10 ^ l.length) 10, ← Nat.mul_assoc]
    omega
/-- Digits, not too many, are read as what they spell. -/
theorem parse_digs (l : Tx) (hd : ∀ c ∈ l, isDig c) : ∀ acc, spell acc l < 1000000000000000000 → Lib.parseUint10 acc l = .ok (spell acc l) := by
  induction l with
  | nil => intro acc _; rfl
  | cons c l ih =>
    intro acc h
    have hc := hd c (List.mem_cons_self ..)
    have hl : ∀ (m : Tx) (a : Nat), a ≤ spell a m := fun m => by
      induction m with
      | nil => intro a; exact Nat.le_refl _
      | cons x m ihm => intro a; have := ihm (a * 10 + (x.toNat - 48)); show a ≤ spell (a * 10 + (x.toNat - 48)) m; omega
    have h1 : acc * 10 + (c.toNat - 48) ≤ spell acc (c :: l) := hl l (acc * 10 + (c.toNat - 48))
    have hc' : 48 ≤ c.toNat ∧ c.toNat ≤ 57 := hc
    unfold Lib.parseUint10
    rw [if_pos hc', if_neg (by omega), if_neg (by omega)]
    exact ih (fun x hx => hd x (List.mem_cons_of_mem _ hx)) _ h
theorem parse_not (l : Tx) : ∀ acc, (∃ c ∈ l, ¬ isDig c) → (∀ m, Lib.parseUint10 acc l ≠ .ok m) := by
  induction l with
  | nil => rintro acc ⟨c, hc, -⟩; cases hc
  | cons c l ih =>
    rintro acc ⟨x, hx, hn⟩ m
    unfold Lib.parseUint10
    by_cases hc : 48 ≤ c.toNat ∧ c.toNat ≤ 57
    · rw [if_pos hc]
      split
      · exact fun e => by cases e
      · split
        · exact fun e => by cases e
        · rcases List.mem_cons.1 hx with rfl | hx
          · exact absurd hc hn
          · exact ih _ ⟨x, hx, hn⟩ m
    · rw [if_neg hc]; exact fun e => by cases e
/-! The program's number: what Atoi reads, of at most five bytes. -/
def numP (l : Tx) : Option Int := match Lib.atoiAll l with
  | .ok v => if l.length ≤ 5 then some v else none
  | _ => none
theorem atoi_dec {u : Nat} (h : u < 1000000000000000000) : Lib.atoiAll (Lib.decDigits u) = .ok (u : Int) := by
  have hd := dec_digs u
  have hs := spell_dec u
  cases e : Lib.decDigits u with
  | nil => exact absurd e (dec_ne u)
  | cons c r =>
    rw [e] at hd hs
    have hc := hd c (List.mem_cons_self ..)
    unfold isDig at hc
    unfold Lib.atoiAll
    have h43 : ¬ (c.toNat = 43 ∨ c.toNat = 45) := by omega
    have h45 : ¬ c.toNat = 45 := by omega
    dsimp only
    rw [if_neg h43]
    unfold Lib.parseMag
    rw [if_neg (List.cons_ne_nil _ _), parse_digs (c :: r) hd 0 (by rw [hs]; exact h), hs]
    dsimp only
    rw [if_neg (by omega), if_neg (fun e => h45 e.1), if_neg h45]
theorem dec_len {u : Nat} (h : u < 100000) : (Lib.decDigits u).length ≤ 5 := by
  rw [Lib.decDigits_length]
  have := Lib.nDigits_unique
  by_cases h1 : u < 10
  · rw [Lib.nDigits_small h1]; omega
  · rw [Lib.nDigits_big h1]
    by_cases h2 : u / 10 < 10
    · rw [Lib.nDigits_small h2]; omega
    · rw [Lib.nDigits_big h2]
      by_cases h3 : u / 10 / 10 < 10
      · rw [Lib.nDigits_small h3]; omega
      · rw [Lib.nDigits_big h3]
        by_cases h4 : u / 10 / 10 / 10 < 10
        · rw [Lib.nDigits_small h4]; omega
        · rw [Lib.nDigits_big h4, Lib.nDigits_small (by omega)]; omega
theorem itoa_nat (u : Nat) : Lib.itoa (u : Int) = Lib.decDigits u := by unfold Lib.itoa; rw [if_neg (by omega), Int.toNat_natCast]
theorem numP_itoa {n : Int} (h0 : 0 ≤ n) (h1 : n < 100000) : numP (Lib.itoa n) = some n := by
  obtain ⟨u, rfl⟩ : ∃ u : Nat, n = u := ⟨n.toNat, by omega⟩
  rw [itoa_nat]
  unfold numP
  rw [atoi_dec (by omega)]
  dsimp only
  rw [if_pos (dec_len (by omega))]
theorem numP_range {l : Tx} {v : Int} (h : numP l = some v) : l.length ≤ 5 ∧ l ≠ [] := by
  unfold numP at h
  split at h
  · rename_i e
    split at h
    · rename_i h5
      refine ⟨h5, fun hn => ?_⟩
      subst hn
      cases e
    · cases h
  · cases h
/-! The reference's number: one to five digits; else -1. -/
def digB (c : UInt8) : Bool := decide (48 ≤ c.toNat) && decide (c.toNat ≤ 57)
def numR (l : Tx) : Int := if l = [] ∨ 5 < l.length ∨ l.all digB = false then -1 else (spell 0 l : Nat)
theorem numR_itoa {n : Int} (h0 : 0 ≤ n) (h1 : n < 100000) : numR (Lib.itoa n) = n := by
  obtain ⟨u, rfl⟩ : ∃ u : Nat, n = u := ⟨n.toNat, by omega⟩
  rw [itoa_nat]
  unfold numR
  have ha : (Lib.decDigits u).all digB = true := by
    rw [List.all_eq_true]
    intro c hc
    have := dec_digs u c hc
    unfold isDig at this
    unfold digB
    rw [Bool.and_eq_true, decide_eq_true_eq, decide_eq_true_eq]; exact this
  rw [if_neg (by rintro (h | h | h); exact dec_ne u h; have := dec_len (show u < 100000 by omega); omega; rw [ha] at h; cases h), spell_dec]
/-! Cut at one byte. -/
def splitC (c : UInt8) : Tx → List Tx
  | [] => [[]]
  | b :: l => if b = c then [] :: splitC c l else match splitC c l with
    | [] => [[b]]
    | x :: r => (b :: x) :: r
def putC (b : UInt8) : List Tx → List Tx
  | [] => [[b]]
  | x :: r => (b :: x) :: r
theorem splitC_eq (c b : UInt8) (l : Tx) : splitC c (b :: l) = if b = c then [] :: splitC c l else putC b (splitC c l) := by
  show (if b = c then [] :: splitC c l else match splitC c l with
    | [] => [[b]]
    | x :: r => (b :: x) :: r) = _
  cases splitC c l <;> rfl
theorem splitC_ne (c : UInt8) (l : Tx) : splitC c l ≠ [] := by
  cases l with
  | nil => exact List.cons_ne_nil _ _
  | cons b l =>
    unfold splitC
    split
    · exact List.cons_ne_nil _ _
    · split <;> exact List.cons_ne_nil _ _
theorem splitC_none {c : UInt8} : ∀ {l : Tx}, c ∉ l → splitC c l = [l]
  | [], _ => rfl
  | b :: l, h => by
    rw [splitC_eq, if_neg (fun e => h (by rw [← e]; exact List.mem_cons_self ..)), splitC_none (fun e => h (List.mem_cons_of_mem _ e))]; rfl
theorem splitC_cons {c : UInt8} (l : Tx) : ∀ {x : Tx}, c ∉ x → splitC c (x ++ c :: l) = x :: splitC c l
  | [], _ => by show splitC c (c :: l) = _; rw [splitC_eq, if_pos rfl]
  | b :: x, h => by
    show splitC c (b :: (x ++ c :: l)) = _
    rw [splitC_eq, if_neg (fun e => h (by rw [← e]; exact List.mem_cons_self ..)), splitC_cons l (fun e => h (List.mem_cons_of_mem _ e))]; rfl
end
section
open Go
/-! Plain: words and lines of a text. -/
theorem split_at {c : UInt8} : ∀ s : Tx, c ∈ s → ∃ x l, s = x ++ c :: l ∧ c ∉ x
  | [], h => by cases h
  | b :: s, h => by
    by_cases e : b = c
    · subst e; exact ⟨[], s, rfl, fun h => by cases h⟩
    · obtain ⟨x, l, e2, hx⟩ := split_at s ((List.mem_cons.1 h).resolve_left (fun e' => e e'.symm))
      exact ⟨b :: x, l, by rw [e2]; rfl, fun h' => (List.mem_cons.1 h').elim (fun e' => e e'.symm) hx⟩
theorem index_one_none {c : UInt8} {s : Tx} (h : c ∉ s) : Lib.index s [c] = -1 := by
  rcases Lib.index_spec s [c] with ⟨h1, -⟩ | ⟨i, -, hi, ho, -⟩
  · exact h1
  · exfalso
    unfold Lib.occAt at ho
    cases e : s.drop i with
    | nil => rw [e] at ho; cases ho
    | cons b t =>
      rw [e] at ho
      have : c = b := by
        have h2 : (c == b && ([] : Tx).isPrefixOf t) = true := ho
        rw [Bool.and_eq_true] at h2
        exact eq_of_beq h2.1
      subst this
      exact h (List.mem_of_mem_drop (i := i) (by rw [e]; exact List.mem_cons_self ..))
theorem index_one {c : UInt8} {x : Tx} (l : Tx) (h : c ∉ x) : Lib.index (x ++ c :: l) [c] = x.length := by
  refine Lib.index_first (by rw [List.length_append]; omega) ?_ ?_
  · unfold Lib.occAt
    rw [List.drop_left]
    show (c == c && ([] : Tx).isPrefixOf l) = true
    rw [beq_self_eq_true]; rfl
  · intro j hj
    unfold Lib.occAt
    rw [List.drop_append_of_le_length (by omega)]
    cases e : x.drop j with
    | nil =>
      have := congrArg List.length e
      rw [List.length_drop] at this
      exact absurd this (by simp; omega)
    | cons b t =>
      show (c == b && _) = false
      have : ¬ c = b := fun e2 => h (by rw [e2]; exact List.mem_of_mem_drop (i := j) (by rw [e]; exact List.mem_cons_self ..))
      rw [beq_false_of_ne this]; rfl
theorem split_eq (c : UInt8) : ∀ (n : Nat) (s : Tx), s.length ≤ n → Lib.split s [c] = splitC c s
  | 0, s, hn => by
    have : s = [] := List.eq_nil_of_length_eq_zero (by omega)
    subst this
    rfl
  | n + 1, s, hn => by
    by_cases h : c ∈ s
    · obtain ⟨x, l, rfl, hx⟩ := split_at s h
      have hc : Lib.count (x ++ c :: l) [c] = Lib.count l [c] + 1 := by
        rw [Lib.count_one, Lib.count_one, List.count_append, List.count_cons_self, List.count_eq_zero.2 hx]; omega
      rw [splitC_cons l hx]
      unfold Lib.split
      rw [hc]
      unfold Lib.splitK
      rw [index_one l hx]
      have e1 : ((x.length : Int) == -1) = false := by rw [beq_eq_false_iff_ne]; omega
      rw [e1, if_neg (by decide), Int.toNat_natCast, Nat.add_zero]
      rw [List.take_left, show x.length + ([c] : Tx).length = x.length + 1 from rfl, ← List.drop_drop, List.drop_left]
      have ih := split_eq c n l (by rw [List.length_append, List.length_cons] at hn; omega)
      unfold Lib.split at ih
      show x :: Lib.splitK [c] 0 (Lib.count l [c]) l = _
      rw [ih]
    · rw [splitC_none h]
      unfold Lib.split
      have hc : Lib.count s [c] = 0 := by rw [Lib.count_one, List.count_eq_zero.2 h]
      rw [hc]; rfl
/-- Words, put together by one byte and taken apart again. -/
def glue (c : UInt8) : List Tx → Tx
  | [] => []
  | [x] => x
  | x :: y :: r => x ++ c :: glue c (y :: r)
theorem join_glue (c : UInt8) : ∀ ws : List Tx, Lib.join ws [c] = glue c ws
  | [] => rfl
  | [x] => Lib.join_one x [c]
  | x :: y :: r => by
    have ih := join_glue c (y :: r)
    rw [Lib.join_cons] at ih ⊢
    show x ++ ([c] ++ y ++ Lib.joinTail [c] r) = x ++ c :: glue c (y :: r)
    rw [← ih]; rfl
theorem split_glue {c : UInt8} : ∀ {ws : List Tx}, ws ≠ [] → (∀ w ∈ ws, c ∉ w) → splitC c (glue c ws) = ws
  | [], h, _ => absurd rfl h
  | [x], _, hc => splitC_none (hc x (List.mem_singleton.2 rfl))
  | x :: y :: r, _, hc => by
    show splitC c (x ++ c :: glue c (y :: r)) = _
    rw [splitC_cons _ (hc x (List.mem_cons_self ..)), split_glue (List.cons_ne_nil _ _) (fun w hw => hc w (List.mem_cons_of_mem _ hw))]
theorem glue_mem {c d : UInt8} : ∀ {ws : List Tx}, d ∈ glue c ws → d = c ∨ ∃ w ∈ ws, d ∈ w
  | [], h => by cases h
  | [x], h => .inr ⟨x, List.mem_singleton.2 rfl, h⟩
  | x :: y :: r, h => by
    have h : d ∈ x ++ c :: glue c (y :: r) := h
    rcases List.mem_append.1 h with h | h
    · exact .inr ⟨x, List.mem_cons_self .., h⟩
    · rcases List.mem_cons.1 h with h | h
      · exact .inl h
      · rcases glue_mem h with h | ⟨w, hw, h⟩
        · exact .inl h
        · exact .inr ⟨w, List.mem_cons_of_mem _ hw, h⟩
/-! Lines. -/
/-- The lines of a text without their ends; what is behind the last end, if there is something. -/
def linesP (s : Tx) : List Tx := if (splitC 10 s).getLast? = some [] then (splitC 10 s).dropLast else splitC 10 s
theorem linesP_nil : linesP [] = [] := rfl
theorem linesP_cons {x : Tx} (l : Tx) (h : (10 : UInt8) ∉ x) : linesP (x ++ 10 :: l) = x :: linesP l := by
  unfold linesP
  rw [splitC_cons l h]
  have hne := splitC_ne 10 l
  cases e : splitC 10 l with
  | nil => exact absurd e hne
  | cons y r =>
    rw [List.getLast?_cons_cons, List.dropLast_cons_cons]
    split <;> rfl
theorem linesP_last {x : Tx} (h : (10 : UInt8) ∉ x) (hx : x ≠ []) : linesP x = [x] := by
  unfold linesP
  rw [splitC_none h]
  rw [if_neg (fun e => by injection e with e; exact hx e)]
/-- A text of lines of words. -/
def textL (ls : List (List Tx)) : Tx := ls.flatMap fun ws => glue 32 ws ++ [10]
def OkWords (ls : List (List Tx)) : Prop := ∀ ws ∈ ls, ws ≠ [] ∧ ∀ w ∈ ws, (32 : UInt8) ∉ w ∧ (10 : UInt8) ∉ w
theorem textL_cons (ws : List Tx) (ls : List (List Tx)) : textL (ws :: ls) = glue 32 ws ++ 10 :: textL ls := by
  unfold textL; rw [List.flatMap_cons, List.append_assoc]; rfl
theorem glue_no10 {ws : List Tx} (h : ∀ w ∈ ws, (10 : UInt8) ∉ w) : (10 : UInt8) ∉ glue 32 ws := fun e => by
  rcases glue_mem e with e | ⟨w, hw, e⟩
  · exact absurd e (by decide)
  · exact h w hw e
theorem lines_text : ∀ {ls : List (List Tx)}, OkWords ls → (linesP (textL ls)).map (splitC 32) = ls
  | [], _ => rfl
  | ws :: ls, h => by
    have h1 := h ws (List.mem_cons_self ..)
    rw [textL_cons, linesP_cons _ (glue_no10 fun w hw => (h1.2 w hw).2), List.map_cons, split_glue h1.1 (fun w hw => (h1.2 w hw).1), lines_text (fun x hx => h x (List.mem_cons_of_mem _ hx))]
theorem cut_text : ∀ {ls : List (List Tx)}, OkWords ls → splitC 10 (textL ls) = ls.map (glue 32) ++ [[]]
  | [], _ => rfl
  | ws :: ls, h => by
    have h1 := h ws (List.mem_cons_self ..)
    rw [textL_cons, splitC_cons _ (glue_no10 fun w hw => (h1.2 w hw).2), cut_text (fun x hx => h x (List.mem_cons_of_mem _ hx))]; rfl
end
section
open Go
/-! Plain: drawings, their texts, and what is read of a text. -/
structure Sp where
  lo : Int
  hi : Int
  deriving DecidableEq
structure Ed where
  kind : Int
  a : Sp
  w : Sp
  d : Sp
  deriving DecidableEq
structure Pc where
  e0 : Ed
  e1 : Ed
  e2 : Ed
  e3 : Ed
  deriving DecidableEq
structure Py where
  len : Int
  slack : Int
  loose : Int
  damp : Sp
  deriving DecidableEq
structure Pu where
  play : Py
  wide : Int
  high : Int
  turn : Bool
  pieces : List Pc
  deriving DecidableEq
def okSp (s : Sp) (lo hi : Int) : Bool := decide (lo ≤ s.lo) && (decide (s.lo ≤ s.hi) && decide (s.hi ≤ hi))
def inP (n lo hi : Int) : Bool := decide (lo ≤ n) && decide (n ≤ hi)
def sp0 : Sp := ⟨0, 0⟩
def ed0 : Ed := ⟨0, sp0, sp0, sp0⟩
def pc0 : Pc := ⟨ed0, ed0, ed0, ed0⟩
def py0 : Py := ⟨0, 0, 0, sp0⟩
def pu0 : Pu := ⟨py0, 0, 0, false, []⟩
def okEd (e : Ed) : Bool := if e.kind = 0 then decide (e = ed0) else if e.kind = 1 ∨ e.kind = 2 then okSp e.a 0 10000 && (okSp e.w 1 3000 && okSp e.d 1 3000) else false
def edges (p : Pc) : List Ed := [p.e0, p.e1, p.e2, p.e3]
def okPc (p : Pc) : Bool := (edges p).all okEd
def okPcs (l : List Pc) : Bool := l.all okPc
def okPy (p : Py) : Bool := inP p.len 1 10000 && (inP p.slack 0 500 && (inP p.loose 0 500 && okSp p.damp 0 100))
def okPu (d : Pu) : Bool := inP d.pieces.length 1 9 && (inP d.wide 1 d.pieces.length && (inP d.high 1 d.pieces.length && (decide (d.wide * d.high = d.pieces.length) && (okPy d.play && okPcs d.pieces))))
theorem okSp_iff {s : Sp} {lo hi : Int} : okSp s lo hi = true ↔ lo ≤ s.lo ∧ s.lo ≤ s.hi ∧ s.hi ≤ hi := by
  unfold okSp; rw [Bool.and_eq_true, Bool.and_eq_true, decide_eq_true_eq, decide_eq_true_eq, decide_eq_true_eq]
theorem inP_iff {n lo hi : Int} : inP n lo hi = true ↔ lo ≤ n ∧ n ≤ hi := by
  unfold inP; rw [Bool.and_eq_true, decide_eq_true_eq, decide_eq_true_eq]
/-! Words. -/
def wFlat : Tx := [102, 108, 97, 116]
def wTab : Tx := [116, 97, 98]
def wHole : Tx := [104, 111, 108, 101]
def wDrawing : Tx := [100, 114, 97, 119, 105, 110, 103]
def wTurning : Tx := [116, 117, 114, 110, 105, 110, 103]
def wPlay : Tx := [112, 108, 97, 121]
def wPiece : Tx := [112, 105, 101, 99, 101]
def dots : Tx := [46, 46]
def spT (s : Sp) : Tx := if s.hi = s.lo then Lib.itoa s.lo else Lib.itoa s.lo ++ (dots ++ Lib.itoa s.hi)
def kindW (k : Int) : Tx := if k = 0 then wFlat else if k = 1 then wTab else wHole
def edW (e : Ed) : List Tx := if e.kind = 0 then [wFlat] else [kindW e.kind, spT e.a, spT e.w, spT e.d]
def pcL (i : Nat) (p : Pc) : List (List Tx) := [wPiece, Lib.itoa i] :: (edges p).map edW
def pcsL : Nat → List Pc → List (List Tx)
  | _, [] => []
  | i, p :: l => pcL i p ++ pcsL (i + 1) l
def dL (d : Pu) : List (List Tx) := [if d.turn then wTurning else wDrawing, Lib.itoa d.wide, Lib.itoa d.high] :: [wPlay, Lib.itoa d.play.len, Lib.itoa d.play.slack, Lib.itoa d.play.loose, spT d.play.damp] :: pcsL 0 d.pieces
def dText (d : Pu) : Tx := textL (dL d)
/-! Reading. -/
def spanP (l : Tx) : Option Sp :=
  if (Lib.cut l dots).2.2 then (match numP (Lib.cut l dots).1, numP (Lib.cut l dots).2.1 with
    | some a, some b => some ⟨a, b⟩
    | _, _ => none) else (match numP l with
    | some a => some ⟨a, a⟩
    | none => none)
def edP (ws : List Tx) : Option Ed :=
  if ws.getD 0 [] = wFlat then some ed0 else
  if (ws.getD 0 [] = wTab ∨ ws.getD 0 [] = wHole) ∧ ws.length = 4 then (match spanP (ws.getD 1 []), spanP (ws.getD 2 []), spanP (ws.getD 3 []) with
    | some a, some b, some c => some ⟨if ws.getD 0 [] = wTab then 1 else 2, a, b, c⟩
    | _, _, _ => none) else none
def setE (p : Pc) (k : Nat) (e : Ed) : Pc := match k with
  | 0 => { p with e0 := e }
  | 1 => { p with e1 := e }
  | 2 => { p with e2 := e }
  | _ => { p with e3 := e }
def setLast (l : List Pc) (k : Nat) (e : Ed) : List Pc := l.set (l.length - 1) (setE (l.getD (l.length - 1) pc0) k e)
/-- One line is read: how many were read before it, and what they say. -/
def stepP (at_ : Nat) (d : Pu) (ws : List Tx) : Option Pu :=
  if at_ = 0 then (if ws.length = 3 then (match numP (ws.getD 1 []), numP (ws.getD 2 []) with
    | some a, some b => some { d with turn := decide (ws.getD 0 [] = wTurning), wide := a, high := b }
    | _, _ => none) else none) else
  if at_ = 1 then (if ws.length = 5 then (match numP (ws.getD 1 []), numP (ws.getD 2 []), numP (ws.getD 3 []), spanP (ws.getD 4 []) with
    | some a, some b, some c, some s => some { d with play := ⟨a, b, c, s⟩ }
    | _, _, _, _ => none) else none) else
  if (at_ - 2) % 5 = 0 then (if d.pieces.length < 9 then some { d with pieces := d.pieces ++ [pc0] } else none) else
  match edP ws with
  | some e => some { d with pieces := setLast d.pieces ((at_ - 2) % 5 - 1) e }
  | none => none
def readP : Nat → Pu → List (List Tx) → Option Pu
  | _, d, [] => some d
  | i, d, ws :: ls => match stepP i d ws with
    | some d' => readP (i + 1) d' ls
    | none => none
def parseP (s : Tx) : Option Pu := readP 0 pu0 ((linesP s).map (splitC 32))
/-! What is written is read. -/
theorem dig_no {u : Nat} {c : UInt8} (h : c ∈ Lib.decDigits u) : c ≠ 32 ∧ c ≠ 10 ∧ c ≠ 46 := by
  have := dec_digs u c h
  unfold isDig at this
  refine ⟨?_, ?_, ?_⟩ <;> (rintro rfl; exact absurd this (by decide))
theorem itoa_no {n : Int} (h : 0 ≤ n) {c : UInt8} (hc : c ∈ Lib.itoa n) : c ≠ 32 ∧ c ≠ 10 ∧ c ≠ 46 := by
  obtain ⟨u, rfl⟩ : ∃ u : Nat, n = u := ⟨n.toNat, by omega⟩
  rw [itoa_nat] at hc
  exact dig_no hc
theorem cut_none {l : Tx} (h : (46 : UInt8) ∉ l) : Lib.cut l dots = (l, [], false) := by
  unfold Lib.cut
  have : Lib.index l dots = -1 := by
    rcases Lib.index_spec l dots with ⟨h1, -⟩ | ⟨i, -, hi, ho, -⟩
    · exact h1
    · exfalso
      unfold Lib.occAt at ho
      cases e : l.drop i with
      | nil => rw [e] at ho; cases ho
      | cons b t =>
        rw [e] at ho
        have h2 : ((46 : UInt8) == b && ([46] : Tx).isPrefixOf t) = true := ho
        rw [Bool.and_eq_true] at h2
        have := eq_of_beq h2.1
        subst this
        exact h (List.mem_of_mem_drop (i := i) (by rw [e]; exact List.mem_cons_self ..))
  rw [this, if_neg (by omega)]
theorem cut_dots {x : Tx} (y : Tx) (h : (46 : UInt8) ∉ x) : Lib.cut (x ++ (dots ++ y)) dots = (x, y, true) := by
  have e : Lib.index (x ++ (dots ++ y)) dots = x.length := by
    refine Lib.index_first (by rw [List.length_append]; omega) ?_ ?_
    · unfold Lib.occAt
      rw [List.drop_left]
      rfl
    · intro j hj
      unfold Lib.occAt
      rw [List.drop_append_of_le_length (by omega)]
      cases e : x.drop j with
      | nil =>
        have := congrArg List.length e
        rw [List.length_drop] at this
        exact absurd this (by simp; omega)
      | cons b t =>
        show ((46 : UInt8) == b && _) = false
        have : ¬ (46 : UInt8) = b := fun e2 => h (by rw [e2]; exact List.mem_of_mem_drop (i := j) (by rw [e]; exact List.mem_cons_self ..))
        rw [beq_false_of_ne this]; rfl
  unfold Lib.cut
  rw [e, if_pos (by omega), Int.toNat_natCast, List.take_left, ← List.drop_drop, List.drop_left]
  rfl
theorem spanP_spT {s : Sp} (h0 : 0 ≤ s.lo) (h1 : s.lo ≤ s.hi) (h2 : s.hi < 100000) : spanP (spT s) = some s := by
  have n1 : (46 : UInt8) ∉ Lib.itoa s.lo := fun h => (itoa_no h0 h).2.2 rfl
  unfold spT
  by_cases e : s.hi = s.lo
  · rw [if_pos e]
    unfold spanP
    rw [cut_none n1, numP_itoa h0 (by omega)]
    obtain ⟨lo, hi⟩ := s
    have e : hi = lo := e
    subst e
    rfl
  · rw [if_neg e]
    unfold spanP
    rw [cut_dots _ n1]
    dsimp only
    rw [numP_itoa h0 (by omega), numP_itoa (by omega) h2]
    rfl
theorem spT_no {s : Sp} (h0 : 0 ≤ s.lo) (h1 : s.lo ≤ s.hi) {c : UInt8} (hc : c ∈ spT s) : c ≠ 32 ∧ c ≠ 10 := by
  unfold spT at hc
  split at hc
  · have := itoa_no h0 hc; exact ⟨this.1, this.2.1⟩
  · rcases List.mem_append.1 hc with hc | hc
    · have := itoa_no h0 hc; exact ⟨this.1, this.2.1⟩
    · rcases List.mem_append.1 hc with hc | hc
      · have : c = 46 := by
          unfold dots at hc
          simpa using hc
        subst this; exact ⟨by decide, by decide⟩
      · have := itoa_no (show 0 ≤ s.hi by omega) hc; exact ⟨this.1, this.2.1⟩
theorem okEd_cases {e : Ed} (h : okEd e = true) : e = ed0 ∨ ((e.kind = 1 ∨ e.kind = 2) ∧ okSp e.a 0 10000 = true ∧ okSp e.w 1 3000 = true ∧ okSp e.d 1 3000 = true) := by
  unfold okEd at h
  split at h
  · exact .inl (of_decide_eq_true h)
  · split at h
    · rename_i hk
      rw [Bool.and_eq_true, Bool.and_eq_true] at h
      exact .inr ⟨hk, h⟩
    · cases h
theorem edP_edW {e : Ed} (h : okEd e = true) : edP (edW e) = some e := by
  rcases okEd_cases h with rfl | ⟨hk, ha, hw, hd⟩
  · rfl
  · rw [okSp_iff] at ha hw hd
    have hk0 : ¬ e.kind = 0 := by omega
    unfold edW
    rw [if_neg hk0]
    unfold edP
    rw [show ([kindW e.kind, spT e.a, spT e.w, spT e.d] : List Tx).getD 0 [] = kindW e.kind from rfl, show ([kindW e.kind, spT e.a, spT e.w, spT e.d] : List Tx).getD 1 [] = spT e.a from rfl, show ([kindW e.kind, spT e.a, spT e.w, spT e.d] : List Tx).getD 2 [] = spT e.w from rfl, show ([kindW e.kind, spT e.a, spT e.w, spT e.d] : List Tx).getD 3 [] = spT e.d from rfl]
    rw [spanP_spT ha.1 ha.2.1 (by omega), spanP_spT (by omega) hw.2.1 (by omega), spanP_spT (by omega) hd.2.1 (by omega)]
    obtain ⟨k, a, w, d⟩ := e
    rcases hk with hk | hk
    · have hk : k = 1 := hk
      subst hk; rfl
    · have hk : k = 2 := hk
      subst hk; rfl
theorem readP_app (l1 : List (List Tx)) : ∀ (i : Nat) (d : Pu) (l2 : List (List Tx)), readP i d (l1 ++ l2) = match readP i d l1 with
    | some d' => readP (i + l1.length) d' l2
    | none => none := by
  induction l1 with
  | nil => intro i d l2; rfl
  | cons ws l1 ih =>
    intro i d l2
    show (match stepP i d ws with
      | some d' => readP (i + 1) d' (l1 ++ l2)
      | none => none) = match (match stepP i d ws with
      | some d' => readP (i + 1) d' l1
      | none => none) with
      | some d' => readP (i + (l1.length + 1)) d' l2
      | none => none
    cases stepP i d ws with
    | none => rfl
    | some d' =>
      show readP (i + 1) d' (l1 ++ l2) = _
      rw [ih, show i + (l1.length + 1) = i + 1 + l1.length by omega]
theorem step_edge {i r : Nat} {d : Pu} {e : Ed} (h : okEd e = true) (hr : r < 4) : stepP (2 + 5 * i + (r + 1)) d (edW e) = some { d with pieces := setLast d.pieces r e } := by
  unfold stepP
  rw [if_neg (by omega), if_neg (by omega), if_neg (by omega), edP_edW h]
  have : (2 + 5 * i + (r + 1) - 2) % 5 - 1 = r := by omega
  rw [this]
theorem setLast_app (l : List Pc) (p : Pc) (k : Nat) (e : Ed) : setLast (l ++ [p]) k e = l ++ [setE p k e] := by
  unfold setLast
  have e1 : (l ++ [p]).length - 1 = l.length := by rw [List.length_append]; show l.length + 1 - 1 = _; omega
  rw [e1, List.set_append_right _ _ (Nat.le_refl _), Nat.sub_self]
  have e2 : (l ++ [p]).getD l.length pc0 = p := by rw [List.getD_eq_getElem?_getD, List.getElem?_append_right (Nat.le_refl _), Nat.sub_self]; rfl
  rw [e2]; rfl
theorem read_piece {i : Nat} {d : Pu} {p : Pc} (h : okPc p = true) (hi : d.pieces.length = i) (h9 : i < 9) : readP (2 + 5 * i) d (pcL i p) = some { d with pieces := d.pieces ++ [p] } := by
  unfold okPc edges at h
  simp only [List.all_cons, List.all_nil, Bool.and_true, Bool.and_eq_true] at h
  obtain ⟨g0, g1, g2, g3⟩ := h
  have s0 : stepP (2 + 5 * i) d [wPiece, Lib.itoa i] = some { d with pieces := d.pieces ++ [pc0] } := by
    unfold stepP
    rw [if_neg (by omega), if_neg (by omega), if_pos (by omega), if_pos (by omega)]
  show (match stepP (2 + 5 * i) d [wPiece, Lib.itoa i] with
    | some d' => readP (2 + 5 * i + 1) d' [edW p.e0, edW p.e1, edW p.e2, edW p.e3]
    | none => none) = _
  rw [s0]
  show (match stepP (2 + 5 * i + 1) { d with pieces := d.pieces ++ [pc0] } (edW p.e0) with
    | some d' => readP (2 + 5 * i + 2) d' [edW p.e1, edW p.e2, edW p.e3]
    | none => none) = _
  rw [step_edge (r := 0) g0 (by omega)]
  show (match stepP (2 + 5 * i + 2) { d with pieces := setLast (d.pieces ++ [pc0]) 0 p.e0 } (edW p.e1) with
    | some d' => readP (2 + 5 * i + 3) d' [edW p.e2, edW p.e3]
    | none => none) = _
  rw [step_edge (r := 1) g1 (by omega)]
  show (match stepP (2 + 5 * i + 3) { d with pieces := setLast (setLast (d.pieces ++ [pc0]) 0 p.e0) 1 p.e1 } (edW p.e2) with
    | some d' => readP (2 + 5 * i + 4) d' [edW p.e3]
    | none => none) = _
  rw [step_edge (r := 2) g2 (by omega)]
  show (match stepP (2 + 5 * i + 4) { d with pieces := setLast (setLast (setLast (d.pieces ++ [pc0]) 0 p.e0) 1 p.e1) 2 p.e2 } (edW p.e3) with
    | some d' => some d'
    | none => none) = _
  rw [step_edge (r := 3) g3 (by omega)]
  rw [setLast_app, setLast_app, setLast_app]
  show some { d with pieces := setLast (d.pieces ++ [setE (setE (setE pc0 0 p.e0) 1 p.e1) 2 p.e2]) 3 p.e3 } = _
  rw [setLast_app]
  rfl
theorem read_pieces : ∀ (l : List Pc) (i : Nat) (d : Pu), okPcs l = true → d.pieces.length = i → i + l.length ≤ 9 → readP (2 + 5 * i) d (pcsL i l) = some { d with pieces := d.pieces ++ l }
  | [], i, d, _, _, _ => by show some d = _; rw [List.append_nil]
  | p :: l, i, d, h, hi, h9 => by
    have h : (okPc p && okPcs l) = true := h
    rw [Bool.and_eq_true] at h
    rw [List.length_cons] at h9
    show readP (2 + 5 * i) d (pcL i p ++ pcsL (i + 1) l) = _
    rw [readP_app, read_piece h.1 hi (by omega)]
    show readP (2 + 5 * i + 5) { d with pieces := d.pieces ++ [p] } (pcsL (i + 1) l) = _
    rw [show 2 + 5 * i + 5 = 2 + 5 * (i + 1) by omega, read_pieces l (i + 1) _ h.2 (by show (d.pieces ++ [p]).length = _; rw [List.length_append, hi]; rfl) (by omega)]
    show some { d with pieces := d.pieces ++ [p] ++ l } = _
    rw [List.append_assoc]; rfl
theorem read_dL {d : Pu} (h : okPu d = true) : readP 0 pu0 (dL d) = some d := by
  unfold okPu okPy at h
  simp only [Bool.and_eq_true, inP_iff, okSp_iff, decide_eq_true_eq] at h
  obtain ⟨h1, h2, h3, h4, ⟨h5, h6, h7, h8⟩, h9⟩ := h
  obtain ⟨⟨len, slack, loose, damp⟩, wide, high, turn, pieces⟩ := d
  dsimp only at h1 h2 h3 h4 h5 h6 h7 h8 h9
  have s0 : stepP 0 pu0 [if turn then wTurning else wDrawing, Lib.itoa wide, Lib.itoa high] = some ⟨py0, wide, high, turn, []⟩ := by
    unfold stepP
    rw [if_pos rfl]
    show (match numP (Lib.itoa wide), numP (Lib.itoa high) with
      | some a, some b => some { pu0 with turn := decide ((if turn then wTurning else wDrawing) = wTurning), wide := a, high := b }
      | _, _ => none) = _
    rw [numP_itoa (by omega) (by omega), numP_itoa (by omega) (by omega)]
    cases turn <;> rfl
  have s1 : stepP 1 ⟨py0, wide, high, turn, []⟩ [wPlay, Lib.itoa len, Lib.itoa slack, Lib.itoa loose, spT damp] = some ⟨⟨len, slack, loose, damp⟩, wide, high, turn, []⟩ := by
    unfold stepP
    rw [if_neg (by decide), if_pos rfl]
    show (match numP (Lib.itoa len), numP (Lib.itoa slack), numP (Lib.itoa loose), spanP (spT damp) with
      | some a, some b, some c, some s => some (⟨⟨a, b, c, s⟩, wide, high, turn, []⟩ : Pu)
      | _, _, _, _ => none) = _
    rw [numP_itoa (by omega) (by omega), numP_itoa (by omega) (by omega), numP_itoa (by omega) (by omega), spanP_spT (by omega) (by omega) (by omega)]
  show (match stepP 0 pu0 [if turn then wTurning else wDrawing, Lib.itoa wide, Lib.itoa high] with
    | some d' => readP 1 d' ([wPlay, Lib.itoa len, Lib.itoa slack, Lib.itoa loose, spT damp] :: pcsL 0 pieces)
    | none => none) = _
  rw [s0]
  show (match stepP 1 ⟨py0, wide, high, turn, []⟩ [wPlay, Lib.itoa len, Lib.itoa slack, Lib.itoa loose, spT damp] with
    | some d' => readP 2 d' (pcsL 0 pieces)
    | none => none) = _
  rw [s1]
  exact read_pieces pieces 0 ⟨⟨len, slack, loose, damp⟩, wide, high, turn, []⟩ h9 rfl (by omega)
end
section
open Go
/-! Plain: what a text says, if it is just the text of a drawing: the program's way and the reference's. -/
theorem edW_ok {e : Ed} (h : okEd e = true) : edW e ≠ [] ∧ ∀ w ∈ edW e, (32 : UInt8) ∉ w ∧ (10 : UInt8) ∉ w := by
  rcases okEd_cases h with rfl | ⟨hk, ha, hw, hd⟩
  · refine ⟨by decide, fun w hw => ?_⟩
    have : w = wFlat := by
      have : w ∈ [wFlat] := hw
      exact List.mem_singleton.1 this
    subst this; decide
  · rw [okSp_iff] at ha hw hd
    have hk0 : ¬ e.kind = 0 := by omega
    unfold edW
    rw [if_neg hk0]
    refine ⟨List.cons_ne_nil _ _, fun w hm => ?_⟩
    rcases List.mem_cons.1 hm with rfl | hm
    · rcases hk with hk | hk <;> rw [hk] <;> decide
    · rcases List.mem_cons.1 hm with rfl | hm
      · exact ⟨fun h => (spT_no ha.1 ha.2.1 h).1 rfl, fun h => (spT_no ha.1 ha.2.1 h).2 rfl⟩
      · rcases List.mem_cons.1 hm with rfl | hm
        · exact ⟨fun h => (spT_no (by omega) hw.2.1 h).1 rfl, fun h => (spT_no (by omega) hw.2.1 h).2 rfl⟩
        · rw [List.mem_singleton.1 hm]
          exact ⟨fun h => (spT_no (by omega) hd.2.1 h).1 rfl, fun h => (spT_no (by omega) hd.2.1 h).2 rfl⟩
theorem itoa_ok {n : Int} (h : 0 ≤ n) : (32 : UInt8) ∉ Lib.itoa n ∧ (10 : UInt8) ∉ Lib.itoa n := ⟨fun e => (itoa_no h e).1 rfl, fun e => (itoa_no h e).2.1 rfl⟩
theorem pcsL_ok : ∀ (l : List Pc) (i : Nat), okPcs l = true → OkWords (pcsL i l)
  | [], _, _ => fun ws h => by cases h
  | p :: l, i, h => fun ws hw => by
    have h : (okPc p && okPcs l) = true := h
    rw [Bool.and_eq_true] at h
    have hw : ws ∈ pcL i p ++ pcsL (i + 1) l := hw
    rcases List.mem_append.1 hw with hw | hw
    · rcases List.mem_cons.1 hw with rfl | hw
      · refine ⟨List.cons_ne_nil _ _, fun w hm => ?_⟩
        rcases List.mem_cons.1 hm with rfl | hm
        · decide
        · rw [List.mem_singleton.1 hm]; exact itoa_ok (by omega)
      · obtain ⟨e, he, rfl⟩ := List.mem_map.1 hw
        have := List.all_eq_true.1 h.1 e he
        exact edW_ok this
    · exact pcsL_ok l (i + 1) h.2 ws hw
theorem dL_ok {d : Pu} (h : okPu d = true) : OkWords (dL d) := by
  unfold okPu okPy at h
  simp only [Bool.and_eq_true, inP_iff, okSp_iff, decide_eq_true_eq] at h
  obtain ⟨h1, h2, h3, h4, ⟨h5, h6, h7, h8⟩, h9⟩ := h
  intro ws hw
  rcases List.mem_cons.1 hw with rfl | hw
  · refine ⟨List.cons_ne_nil _ _, fun w hm => ?_⟩
    rcases List.mem_cons.1 hm with rfl | hm
    · cases d.turn <;> decide
    · rcases List.mem_cons.1 hm with rfl | hm
      · exact itoa_ok (by omega)
      · rw [List.mem_singleton.1 hm]; exact itoa_ok (by omega)
  · rcases List.mem_cons.1 hw with rfl | hw
    · refine ⟨List.cons_ne_nil _ _, fun w hm => ?_⟩
      rcases List.mem_cons.1 hm with rfl | hm
      · decide
      · rcases List.mem_cons.1 hm with rfl | hm
        · exact itoa_ok (by omega)
        · rcases List.mem_cons.1 hm with rfl | hm
          · exact itoa_ok (by omega)
          · rcases List.mem_cons.1 hm with rfl | hm
            · exact itoa_ok (by omega)
            · rw [List.mem_singleton.1 hm]
              exact ⟨fun h => (spT_no h8.1 h8.2.1 h).1 rfl, fun h => (spT_no h8.1 h8.2.1 h).2 rfl⟩
    · exact pcsL_ok _ _ h9 ws hw
theorem parse_text {d : Pu} (h : okPu d = true) : parseP (dText d) = some d := by
  unfold parseP dText
  rw [lines_text (dL_ok h)]
  exact read_dL h
/-- What a text says. -/
def readD (s : Tx) : Option Pu := match parseP s with
  | some d => if okPu d = true ∧ dText d = s then some d else none
  | none => none
theorem readD_iff {s : Tx} {d : Pu} : readD s = some d ↔ okPu d = true ∧ dText d = s := by
  unfold readD
  constructor
  · intro h
    split at h
    · split at h
      · rename_i hc
        injection h with h
        subst h
        exact hc
      · cases h
    · cases h
  · rintro ⟨h1, rfl⟩
    rw [parse_text h1]
    exact if_pos ⟨h1, rfl⟩
/-! The reference. -/
def wordR (line : Tx) (n : Nat) : Tx := (splitC 32 line).getD n []
def spanR (l : Tx) : Sp := if (Lib.cut l dots).2.2 then ⟨numR (Lib.cut l dots).1, numR (Lib.cut l dots).2.1⟩ else ⟨numR l, numR l⟩
def sideR (line : Tx) : Ed :=
  if wordR line 0 = wTab then ⟨1, spanR (wordR line 1), spanR (wordR line 2), spanR (wordR line 3)⟩ else
  if wordR line 0 = wHole then ⟨2, spanR (wordR line 1), spanR (wordR line 2), spanR (wordR line 3)⟩ else ed0
def pcR (ps : List Tx) (i : Nat) : Pc := ⟨sideR (ps.getD (i + 1) []), sideR (ps.getD (i + 2) []), sideR (ps.getD (i + 3) []), sideR (ps.getD (i + 4) [])⟩
def pcsR (ps : List Tx) (n : Nat) : List Pc := (List.range n).map fun j => pcR ps (2 + 5 * j)
def puR (ps : List Tx) (n : Nat) : Pu :=
  ⟨⟨numR (wordR (ps.getD 1 []) 1), numR (wordR (ps.getD 1 []) 2), numR (wordR (ps.getD 1 []) 3), spanR (wordR (ps.getD 1 []) 4)⟩, numR (wordR (ps.getD 0 []) 1), numR (wordR (ps.getD 0 []) 2), decide (wordR (ps.getD 0 []) 0 = wTurning), pcsR ps n⟩
def readR (s : Tx) : Option Pu := if (splitC 10 s).length < 2 then none else
  if okPu (puR (splitC 10 s) (min 10 (((splitC 10 s).length - 2) / 5))) = true ∧ dText (puR (splitC 10 s) (min 10 (((splitC 10 s).length - 2) / 5))) = s then some (puR (splitC 10 s) (min 10 (((splitC 10 s).length - 2) / 5))) else none
theorem spanR_spT {s : Sp} (h0 : 0 ≤ s.lo) (h1 : s.lo ≤ s.hi) (h2 : s.hi < 100000) : spanR (spT s) = s := by
  have n1 : (46 : UInt8) ∉ Lib.itoa s.lo := fun h => (itoa_no h0 h).2.2 rfl
  unfold spT
  by_cases e : s.hi = s.lo
  · rw [if_pos e]
    unfold spanR
    rw [cut_none n1, numR_itoa h0 (by omega)]
    obtain ⟨lo, hi⟩ := s
    have e : hi = lo := e
    subst e
    rfl
  · rw [if_neg e]
    unfold spanR
    rw [cut_dots _ n1]
    dsimp only
    rw [numR_itoa h0 (by omega), numR_itoa (by omega) h2]
    rfl
theorem word_glue {ws : List Tx} (h : ws ≠ [] ∧ ∀ w ∈ ws, (32 : UInt8) ∉ w ∧ (10 : UInt8) ∉ w) (n : Nat) : wordR (glue 32 ws) n = ws.getD n [] := by
  unfold wordR
  rw [split_glue h.1 (fun w hw => (h.2 w hw).1)]
theorem sideR_edW {e : Ed} (h : okEd e = true) : sideR (glue 32 (edW e)) = e := by
  have hw := edW_ok h
  unfold sideR
  rw [word_glue hw, word_glue hw, word_glue hw, word_glue hw]
  rcases okEd_cases h with rfl | ⟨hk, ha, hw', hd⟩
  · rfl
  · rw [okSp_iff] at ha hw' hd
    have hk0 : ¬ e.kind = 0 := by omega
    unfold edW
    rw [if_neg hk0]
    rw [show ([kindW e.kind, spT e.a, spT e.w, spT e.d] : List Tx).getD 0 [] = kindW e.kind from rfl, show ([kindW e.kind, spT e.a, spT e.w, spT e.d] : List Tx).getD 1 [] = spT e.a from rfl, show ([kindW e.kind, spT e.a, spT e.w, spT e.d] : List Tx).getD 2 [] = spT e.w from rfl, show ([kindW e.kind, spT e.a, spT e.w, spT e.d] : List Tx).getD 3 [] = spT e.d from rfl]
    rw [spanR_spT ha.1 ha.2.1 (by omega), spanR_spT (by omega) hw'.2.1 (by omega), spanR_spT (by omega) hd.2.1 (by omega)]
    obtain ⟨k, a, w, d⟩ := e
    rcases hk with hk | hk
    · have hk : k = 1 := hk
      subst hk; rfl
    · have hk : k = 2 := hk
      subst hk; rfl
theorem pcsL_len : ∀ (l : List Pc) (i : Nat), (pcsL i l).length = 5 * l.length
  | [], _ => rfl
  | p :: l, i => by
    show (pcL i p ++ pcsL (i + 1) l).length = 5 * (l.length + 1)
    rw [List.length_append, pcsL_len l]
    show 5 + _ = _
    omega
theorem pcsL_get : ∀ (l : List Pc) (i j r : Nat), j < l.length → r < 5 → (pcsL i l).getD (5 * j + r) [] = (pcL (i + j) (l.getD j pc0)).getD r []
  | [], _, _, _, h, _ => by simp at h
  | p :: l, i, 0, r, _, hr => by
    show (pcL i p ++ pcsL (i + 1) l).getD (5 * 0 + r) [] = (pcL (i + 0) p).getD r []
    rw [List.getD_eq_getElem?_getD, List.getElem?_append_left (by show 5 * 0 + r < 5; omega), ← List.getD_eq_getElem?_getD]
    congr 1
    omega
  | p :: l, i, j + 1, r, h, hr => by
    show (pcL i p ++ pcsL (i + 1) l).getD (5 * (j + 1) + r) [] = (pcL (i + (j + 1)) (l.getD j pc0)).getD r []
    rw [List.getD_eq_getElem?_getD, List.getElem?_append_right (by show 5 ≤ _; omega), ← List.getD_eq_getElem?_getD]
    rw [show 5 * (j + 1) + r - (pcL i p).length = 5 * j + r by show 5 * (j + 1) + r - 5 = _; omega, pcsL_get l (i + 1) j r (by rw [List.length_cons] at h; omega) hr]
    rw [show i + 1 + j = i + (j + 1) by omega]
theorem getD_map_glue (ls : List (List Tx)) (n : Nat) : (ls.map (glue 32) ++ [[]]).getD n [] = glue 32 (ls.getD n []) := by
  rw [List.getD_eq_getElem?_getD, List.getD_eq_getElem?_getD]
  by_cases h : n < ls.length
  · rw [List.getElem?_append_left (by rw [List.length_map]; exact h), List.getElem?_map, List.getElem?_eq_getElem h]; rfl
  · rw [List.getElem?_append_right (by rw [List.length_map]; omega), List.getElem?_eq_none (show ls.length ≤ n by omega), List.length_map]
    show ([[]] : List Tx)[n - ls.length]?.getD [] = []
    cases n - ls.length <;> rfl
theorem readR_text {d : Pu} (h : okPu d = true) : puR (splitC 10 (dText d)) d.pieces.length = d ∧ (splitC 10 (dText d)).length = 5 * d.pieces.length + 3 := by
  have hok := dL_ok h
  have hs : splitC 10 (dText d) = (dL d).map (glue 32) ++ [[]] := cut_text hok
  rw [hs]
  have hlen : (dL d).length = 5 * d.pieces.length + 2 := by
    show (pcsL 0 d.pieces).length + 1 + 1 = _
    rw [pcsL_len]
  refine ⟨?_, by rw [List.length_append, List.length_map, hlen]; rfl⟩
  unfold okPu okPy at h
  simp only [Bool.and_eq_true, inP_iff, okSp_iff, decide_eq_true_eq] at h
  obtain ⟨h1, h2, h3, h4, ⟨h5, h6, h7, h8⟩, h9⟩ := h
  have w0 := hok _ (List.mem_cons_self ..)
  have w1 := hok _ (List.mem_cons_of_mem _ (List.mem_cons_self ..))
  unfold puR
  rw [getD_map_glue, getD_map_glue]
  rw [show (dL d).getD 0 [] = [if d.turn then wTurning else wDrawing, Lib.itoa d.wide, Lib.itoa d.high] from rfl, show (dL d).getD 1 [] = [wPlay, Lib.itoa d.play.len, Lib.itoa d.play.slack, Lib.itoa d.play.loose, spT d.play.damp] from rfl]
  rw [word_glue w0, word_glue w0, word_glue w0, word_glue w1, word_glue w1, word_glue w1, word_glue w1]
  have hp : pcsR ((dL d).map (glue 32) ++ [[]]) d.pieces.length = d.pieces := by
    apply List.ext_getElem
    · unfold pcsR; rw [List.length_map, List.length_range]
    · intro j hj1 hj2
      have hg : d.pieces.getD j pc0 = d.pieces[j] := by rw [List.getD_eq_getElem?_getD, List.getElem?_eq_getElem hj2]; rfl
      have hokp : okPc d.pieces[j] = true := List.all_eq_true.1 h9 _ (List.getElem_mem hj2)
      have hl : ∀ r, r < 5 → (dL d).getD (2 + 5 * j + r) [] = (pcL j d.pieces[j]).getD r [] := fun r hr => by
        have := pcsL_get d.pieces 0 j r hj2 hr
        rw [Nat.zero_add, hg] at this
        rw [← this, show 2 + 5 * j + r = (5 * j + r) + 1 + 1 by omega]
        rfl
      have e : (pcsR ((dL d).map (glue 32) ++ [[]]) d.pieces.length)[j] = pcR ((dL d).map (glue 32) ++ [[]]) (2 + 5 * j) := by
        have h4 : (pcsR ((dL d).map (glue 32) ++ [[]]) d.pieces.length)[j]? = some (pcR ((dL d).map (glue 32) ++ [[]]) (2 + 5 * j)) := by
          unfold pcsR
          rw [List.getElem?_map, List.getElem?_range hj2]; rfl
        rw [List.getElem?_eq_getElem hj1] at h4
        injection h4
      rw [e]
      unfold pcR
      rw [getD_map_glue, getD_map_glue, getD_map_glue, getD_map_glue, hl 1 (by omega), hl 2 (by omega), hl 3 (by omega), hl 4 (by omega)]
      generalize d.pieces[j] = p at *
      unfold okPc edges at hokp
      simp only [List.all_cons, List.all_nil, Bool.and_true, Bool.and_eq_true] at hokp
      obtain ⟨g0, g1, g2, g3⟩ := hokp
      show (⟨sideR (glue 32 (edW p.e0)), sideR (glue 32 (edW p.e1)), sideR (glue 32 (edW p.e2)), sideR (glue 32 (edW p.e3))⟩ : Pc) = p
      rw [sideR_edW g0, sideR_edW g1, sideR_edW g2, sideR_edW g3]
  rw [hp]
  obtain ⟨⟨len, slack, loose, damp⟩, wide, high, turn, pieces⟩ := d
  dsimp only at h1 h2 h3 h4 h5 h6 h7 h8 h9
  show (⟨⟨numR (Lib.itoa len), numR (Lib.itoa slack), numR (Lib.itoa loose), spanR (spT damp)⟩, numR (Lib.itoa wide), numR (Lib.itoa high), decide ((if turn then wTurning else wDrawing) = wTurning), pieces⟩ : Pu) = _
  rw [numR_itoa (by omega) (by omega), numR_itoa (by omega) (by omega), numR_itoa (by omega) (by omega), numR_itoa (by omega) (by omega), numR_itoa (by omega) (by omega), spanR_spT (by omega) (by omega) (by omega)]
  cases turn <;> rfl
theorem readR_iff {s : Tx} {d : Pu} : readR s = some d ↔ okPu d = true ∧ dText d = s := by
  unfold readR
  constructor
  · intro h
    split at h
    · cases h
    · split at h
      · rename_i hc
        injection h with h
        subst h
        exact hc
      · cases h
  · rintro ⟨h1, rfl⟩
    obtain ⟨e1, e2⟩ := readR_text h1
    have h9 : d.pieces.length ≤ 9 := by
      unfold okPu at h1
      simp only [Bool.and_eq_true, inP_iff] at h1
      omega
    rw [e2, if_neg (by omega), show min 10 ((5 * d.pieces.length + 3 - 2) / 5) = d.pieces.length by omega, e1]
    exact if_pos ⟨h1, rfl⟩
theorem read_same (s : Tx) : readR s = readD s := by
  cases e : readD s with
  | some d => exact readR_iff.2 (readD_iff.1 e)
  | none =>
    cases e2 : readR s with
    | none => rfl
    | some d => rw [readD_iff.2 (readR_iff.1 e2)] at e; cases e
/-- Two drawings that differ have texts that differ. -/
theorem dText_inj {c d : Pu} (hc : okPu c = true) (hd : okPu d = true) (h : dText c = dText d) : c = d := by
  have h1 := parse_text hc
  rw [h, parse_text hd] at h1
  injection h1 with h1
  exact h1.symm
end
section
open Go
/-! Plain: files of scans. -/
/-- A number in groups of seven bits. -/
def grp (n : Nat) : Tx := if h : n < 128 then [UInt8.ofNat n] else UInt8.ofNat (n % 128 + 128) :: grp (n / 128)
termination_by n
decreasing_by omega
theorem grp_small {n : Nat} (h : n < 128) : grp n = [UInt8.ofNat n] := by rw [grp, dif_pos h]
theorem grp_big {n : Nat} (h : ¬ n < 128) : grp n = UInt8.ofNat (n % 128 + 128) :: grp (n / 128) := by rw [grp, dif_neg h]
/-- The number at the beginning of bytes, of at most k groups, and what is behind it. -/
def nxt : Nat → Nat → Nat → Tx → Option (Nat × Tx)
  | 0, _, _, _ => none
  | _ + 1, _, _, [] => none
  | k + 1, acc, unit, x :: r => if x.toNat < 128 then some (acc + x.toNat * unit, r) else nxt k (acc + (x.toNat - 128) * unit) (unit * 128) r
theorem u8_of {n : Nat} (h : n < 256) : (UInt8.ofNat n).toNat = n := by rw [UInt8.toNat_ofNat']; omega
theorem nxt_grp : ∀ (k acc unit n : Nat) (r : Tx), n < 128 ^ k → 0 < k → nxt k acc unit (grp n ++ r) = some (acc + n * unit, r)
  | 0, _, _, _, _, _, h => absurd h (by decide)
  | k + 1, acc, unit, n, r, h, _ => by
    by_cases h1 : n < 128
    · rw [grp_small h1]
      show (if (UInt8.ofNat n).toNat < 128 then some (acc + (UInt8.ofNat n).toNat * unit, r) else _) = _
      rw [u8_of (by omega), if_pos h1]
    · rw [grp_big h1]
      show (if (UInt8.ofNat (n % 128 + 128)).toNat < 128 then _ else nxt k (acc + ((UInt8.ofNat (n % 128 + 128)).toNat - 128) * unit) (unit * 128) (grp (n / 128) ++ r)) = _
      rw [u8_of (by omega), if_neg (by omega)]
      have hk : 0 < k := by
        refine Nat.pos_of_ne_zero fun e => ?_
        subst e
        rw [Nat.zero_add, Nat.pow_one] at h
        exact h1 h
      have h2 : n / 128 < 128 ^ k := by
        rw [Nat.pow_succ] at h
        exact Nat.div_lt_of_lt_mul (by rw [Nat.mul_comm]; exact h)
      rw [nxt_grp k _ _ _ r h2 hk]
      have e1 : n % 128 + 128 - 128 = n % 128 := by omega
      have key : n % 128 * unit + n / 128 * (unit * 128) = n * unit := by
        have e2 : n % 128 + n / 128 * 128 = n := by omega
        rw [Nat.mul_comm unit 128, ← Nat.mul_assoc, ← Nat.add_mul, e2]
      rw [e1, Nat.add_assoc, key]
def next3 (s : Tx) : Option (Nat × Tx) := nxt 3 0 1 s
theorem next3_grp {n : Nat} (r : Tx) (h : n < 2097152) : next3 (grp n ++ r) = some (n, r) := by
  have e : (2097152 : Nat) = 128 ^ 3 := by decide
  have h2 : n < 128 ^ 3 := e ▸ h
  have h3 := nxt_grp 3 0 1 n r h2 (by decide)
  rw [Nat.mul_one, Nat.zero_add] at h3
  exact h3
def spB (s : Sp) : Tx := grp s.lo.toNat ++ grp (s.hi - s.lo).toNat
def edB (e : Ed) : Tx := if e.kind = 0 then [0] else UInt8.ofNat e.kind.toNat :: (spB e.a ++ (spB e.w ++ spB e.d))
def pcB (p : Pc) : Tx := (edges p).flatMap edB
def bodyB (l : List Pc) : Tx := grp l.length ++ l.flatMap pcB
def sumB (b : Tx) : UInt8 := b.foldl (· + ·) 0
def scanB (l : List Pc) : Tx := bodyB l ++ [0 - sumB (bodyB l)]
theorem sum_app (a b : Tx) : sumB (a ++ b) = sumB a + sumB b := by
  unfold sumB
  rw [List.foldl_append]
  generalize a.foldl (· + ·) 0 = s
  induction b generalizing s with
  | nil => simp
  | cons x b ih =>
    rw [List.foldl_cons, List.foldl_cons, ih (s + x), ih (0 + x), UInt8.zero_add, UInt8.add_assoc]
theorem sum_scan (l : List Pc) : sumB (scanB l) = 0 := by
  unfold scanB
  rw [sum_app]
  show sumB (bodyB l) + (0 + (0 - sumB (bodyB l))) = 0
  rw [UInt8.zero_add, UInt8.zero_sub]
  exact UInt8.add_right_neg _
/-! Reading. -/
def spN (s : Tx) : Option (Sp × Tx) := match next3 s with
  | some (a, r) => (match next3 r with
    | some (b, t) => some (⟨(a : Int), (a : Int) + b⟩, t)
    | none => none)
  | none => none
def edN (s : Tx) : Option (Ed × Tx) := match next3 s with
  | none => none
  | some (k, r) => if k = 0 then some (ed0, r) else (match spN r with
    | none => none
    | some (a, r1) => (match spN r1 with
      | none => none
      | some (w, r2) => (match spN r2 with
        | none => none
        | some (d, r3) => some (⟨(k : Int), a, w, d⟩, r3))))
def pcN (s : Tx) : Option (Pc × Tx) := match edN s with
  | none => none
  | some (a, r0) => (match edN r0 with
    | none => none
    | some (b, r1) => (match edN r1 with
      | none => none
      | some (c, r2) => (match edN r2 with
        | none => none
        | some (d, r3) => some (⟨a, b, c, d⟩, r3))))
def pcsN : Nat → Tx → Option (List Pc)
  | 0, _ => some []
  | n + 1, s => match pcN s with
    | none => none
    | some (p, r) => (match pcsN n r with
      | none => none
      | some l => some (p :: l))
def parseS (s : Tx) : Option (List Pc) := match next3 s with
  | none => none
  | some (n, r) => if n ≤ 12 then pcsN n r else none
theorem spN_spB {s : Sp} (r : Tx) (h0 : 0 ≤ s.lo) (h1 : s.lo ≤ s.hi) (h2 : s.hi < 100000) : spN (spB s ++ r) = some (s, r) := by
  unfold spN spB
  rw [List.append_assoc, next3_grp _ (by omega)]
  dsimp only
  rw [next3_grp _ (by omega)]
  obtain ⟨lo, hi⟩ := s
  dsimp only at h0 h1 h2 ⊢
  congr 3 <;> omega
theorem edN_edB {e : Ed} (r : Tx) (h : okEd e = true) : edN (edB e ++ r) = some (e, r) := by
  rcases okEd_cases h with rfl | ⟨hk, ha, hw, hd⟩
  · show edN ([0] ++ r) = _
    rfl
  · rw [okSp_iff] at ha hw hd
    have hk0 : ¬ e.kind = 0 := by omega
    unfold edB
    rw [if_neg hk0]
    have e1 : next3 (UInt8.ofNat e.kind.toNat :: (spB e.a ++ (spB e.w ++ spB e.d)) ++ r) = some (e.kind.toNat, spB e.a ++ (spB e.w ++ (spB e.d ++ r))) := by
      have := next3_grp (n := e.kind.toNat) (spB e.a ++ (spB e.w ++ (spB e.d ++ r))) (by omega)
      rw [grp_small (by omega)] at this
      rw [← this]
      simp
    unfold edN
    rw [e1]
    dsimp only
    rw [if_neg (by omega), spN_spB _ ha.1 ha.2.1 (by omega)]
    dsimp only
    rw [spN_spB _ (by omega) hw.2.1 (by omega)]
    dsimp only
    rw [spN_spB _ (by omega) hd.2.1 (by omega)]
    dsimp only
    rw [Int.toNat_of_nonneg (by omega)]
theorem pcN_pcB {p : Pc} (r : Tx) (h : okPc p = true) : pcN (pcB p ++ r) = some (p, r) := by
  unfold okPc edges at h
  simp only [List.all_cons, List.all_nil, Bool.and_true, Bool.and_eq_true] at h
  obtain ⟨g0, g1, g2, g3⟩ := h
  have e : pcB p ++ r = edB p.e0 ++ (edB p.e1 ++ (edB p.e2 ++ (edB p.e3 ++ r))) := by
    unfold pcB edges
    simp [List.flatMap_cons, List.append_assoc]
  rw [e]
  unfold pcN
  rw [edN_edB _ g0]
  dsimp only
  rw [edN_edB _ g1]
  dsimp only
  rw [edN_edB _ g2]
  dsimp only
  rw [edN_edB _ g3]
theorem pcsN_pcsB : ∀ (l : List Pc) (r : Tx), okPcs l = true → pcsN l.length (l.flatMap pcB ++ r) = some l
  | [], _, _ => rfl
  | p :: l, r, h => by
    have h : (okPc p && okPcs l) = true := h
    rw [Bool.and_eq_true] at h
    rw [List.flatMap_cons, List.append_assoc]
    show (match pcN (pcB p ++ (l.flatMap pcB ++ r)) with
      | none => none
      | some (p, r) => (match pcsN l.length r with
        | none => none
        | some l => some (p :: l))) = _
    rw [pcN_pcB _ h.1]
    dsimp only
    rw [pcsN_pcsB l r h.2]
theorem parseS_scan {l : List Pc} (h : okPcs l = true) (hn : l.length ≤ 12) : parseS (scanB l) = some l := by
  unfold parseS scanB bodyB
  rw [List.append_assoc, next3_grp _ (by omega)]
  dsimp only
  rw [if_pos hn, pcsN_pcsB l _ h]
/-- What a file of scans says. -/
def readS (s : Tx) : Option (List Pc) := match parseS s with
  | some l => if okPcs l = true ∧ scanB l = s then some l else none
  | none => none
theorem pcsN_len : ∀ (n : Nat) (s : Tx) (l : List Pc), pcsN n s = some l → l.length = n
  | 0, _, l, h => by
    injection h with h
    rw [← h]; rfl
  | n + 1, s, l, h => by
    have h : (match pcN s with
      | none => none
      | some (p, r) => (match pcsN n r with
        | none => none
        | some l => some (p :: l))) = some l := h
    cases e1 : pcN s with
    | none => rw [e1] at h; cases h
    | some x =>
      obtain ⟨p, r⟩ := x
      rw [e1] at h
      dsimp only at h
      cases e2 : pcsN n r with
      | none => rw [e2] at h; cases h
      | some l' =>
        rw [e2] at h
        injection h with h
        rw [← h, List.length_cons, pcsN_len n r l' e2]
theorem readS_iff {s : Tx} {l : List Pc} : readS s = some l ↔ okPcs l = true ∧ l.length ≤ 12 ∧ scanB l = s := by
  unfold readS
  constructor
  · intro h
    cases e : parseS s with
    | none => rw [e] at h; cases h
    | some l' =>
      rw [e] at h
      dsimp only at h
      split at h
      · rename_i hc
        injection h with h
        subst h
        refine ⟨hc.1, ?_, hc.2⟩
        unfold parseS at e
        cases e2 : next3 s with
        | none => rw [e2] at e; cases e
        | some x =>
          obtain ⟨n, r⟩ := x
          rw [e2] at e
          dsimp only at e
          split at e
          · rename_i hn
            rw [pcsN_len n r l' e]; exact hn
          · cases e
      · cases h
  · rintro ⟨h1, h2, rfl⟩
    rw [parseS_scan h1 h2]
    exact if_pos ⟨h1, rfl⟩
theorem scanB_inj {l m : List Pc} (hl : okPcs l = true) (hm : okPcs m = true) (nl : l.length ≤ 12) (nm : m.length ≤ 12) (h : scanB l = scanB m) : l = m := by
  have h1 := parseS_scan hl nl
  rw [h, parseS_scan hm nm] at h1
  injection h1 with h1
  exact h1.symm
/-! The reference: the number at the beginning; nothing where there is none. -/
def takeR (s : Tx) : Nat × Tx := (next3 s).getD (0, [])
def spR (s : Tx) : Sp × Tx := (⟨((takeR s).1 : Int), ((takeR s).1 : Int) + ((takeR (takeR s).2).1 : Int)⟩, (takeR (takeR s).2).2)
def edR (s : Tx) : Ed × Tx := if (takeR s).1 = 0 then (ed0, (takeR s).2) else
  (⟨((takeR s).1 : Int), (spR (takeR s).2).1, (spR (spR (takeR s).2).2).1, (spR (spR (spR (takeR s).2).2).2).1⟩, (spR (spR (spR (takeR s).2).2).2).2)
def pcRd (s : Tx) : Pc × Tx := (⟨(edR s).1, (edR (edR s).2).1, (edR (edR (edR s).2).2).1, (edR (edR (edR (edR s).2).2).2).1⟩, (edR (edR (edR (edR s).2).2).2).2)
def pcsRd : Nat → Tx → List Pc
  | 0, _ => []
  | n + 1, s => (pcRd s).1 :: pcsRd n (pcRd s).2
def readSR (s : Tx) : Option (List Pc) := if 12 < (takeR s).1 then none else
  if okPcs (pcsRd (takeR s).1 (takeR s).2) = true ∧ scanB (pcsRd (takeR s).1 (takeR s).2) = s then some (pcsRd (takeR s).1 (takeR s).2) else none
theorem takeR_some {s r : Tx} {n : Nat} (h : next3 s = some (n, r)) : takeR s = (n, r) := by unfold takeR; rw [h]; rfl
theorem spR_of {s r : Tx} {x : Sp} (h : spN s = some (x, r)) : spR s = (x, r) := by
  unfold spN at h
  cases e1 : next3 s with
  | none => rw [e1] at h; cases h
  | some y =>
    obtain ⟨a, t⟩ := y
    rw [e1] at h
    dsimp only at h
    cases e2 : next3 t with
    | none => rw [e2] at h; cases h
    | some z =>
      obtain ⟨b, u⟩ := z
      rw [e2] at h
      injection h with h
      unfold spR
      rw [takeR_some e1]
      dsimp only
      rw [takeR_some e2]
      exact h
theorem edR_edB {e : Ed} (r : Tx) (h : okEd e = true) : edR (edB e ++ r) = (e, r) := by
  rcases okEd_cases h with rfl | ⟨hk, ha, hw, hd⟩
  · show edR ([0] ++ r) = _
    rfl
  · rw [okSp_iff] at ha hw hd
    have hk0 : ¬ e.kind = 0 := by omega
    unfold edB
    rw [if_neg hk0]
    have e1 : next3 (UInt8.ofNat e.kind.toNat :: (spB e.a ++ (spB e.w ++ spB e.d)) ++ r) = some (e.kind.toNat, spB e.a ++ (spB e.w ++ (spB e.d ++ r))) := by
      have := next3_grp (n := e.kind.toNat) (spB e.a ++ (spB e.w ++ (spB e.d ++ r))) (by omega)
      rw [grp_small (by omega)] at this
      rw [← this]
      simp
    unfold edR
    rw [takeR_some e1]
    dsimp only
    rw [if_neg (by omega), spR_of (spN_spB _ ha.1 ha.2.1 (by omega))]
    dsimp only
    rw [spR_of (spN_spB _ (by omega) hw.2.1 (by omega))]
    dsimp only
    rw [spR_of (spN_spB _ (by omega) hd.2.1 (by omega))]
    dsimp only
    rw [Int.toNat_of_nonneg (by omega)]
theorem pcRd_pcB {p : Pc} (r : Tx) (h : okPc p = true) : pcRd (pcB p ++ r) = (p, r) := by
  unfold okPc edges at h
  simp only [List.all_cons, List.all_nil, Bool.and_true, Bool.and_eq_true] at h
  obtain ⟨g0, g1, g2, g3⟩ := h
  have e : pcB p ++ r = edB p.e0 ++ (edB p.e1 ++ (edB p.e2 ++ (edB p.e3 ++ r))) := by
    unfold pcB edges
    simp [List.flatMap_cons, List.append_assoc]
  rw [e]
  unfold pcRd
  rw [edR_edB _ g0]
  dsimp only
  rw [edR_edB _ g1]
  dsimp only
  rw [edR_edB _ g2]
  dsimp only
  rw [edR_edB _ g3]
theorem pcsRd_pcsB : ∀ (l : List Pc) (r : Tx), okPcs l = true → pcsRd l.length (l.flatMap pcB ++ r) = l
  | [], _, _ => rfl
  | p :: l, r, h => by
    have h : (okPc p && okPcs l) = true := h
    rw [Bool.and_eq_true] at h
    rw [List.flatMap_cons, List.append_assoc]
    show (pcRd (pcB p ++ (l.flatMap pcB ++ r))).1 :: pcsRd l.length (pcRd (pcB p ++ (l.flatMap pcB ++ r))).2 = _
    rw [pcRd_pcB _ h.1]
    dsimp only
    rw [pcsRd_pcsB l r h.2]
theorem pcsRd_len : ∀ (n : Nat) (s : Tx), (pcsRd n s).length = n
  | 0, _ => rfl
  | n + 1, s => by show (pcsRd n _).length + 1 = _; rw [pcsRd_len n]
theorem readSR_iff {s : Tx} {l : List Pc} : readSR s = some l ↔ okPcs l = true ∧ l.length ≤ 12 ∧ scanB l = s := by
  unfold readSR
  constructor
  · intro h
    split at h
    · cases h
    · split at h
      · rename_i h12 hc
        injection h with h
        subst h
        exact ⟨hc.1, by rw [pcsRd_len]; omega, hc.2⟩
      · cases h
  · rintro ⟨h1, h2, rfl⟩
    have e : takeR (scanB l) = (l.length, l.flatMap pcB ++ [0 - sumB (bodyB l)]) := by
      unfold scanB
      rw [takeR_some (n := l.length) (r := l.flatMap pcB ++ [0 - sumB (bodyB l)])]
      show next3 (bodyB l ++ _) = _
      unfold bodyB
      rw [List.append_assoc, next3_grp _ (by omega)]
    rw [e]
    dsimp only
    rw [if_neg (by omega), pcsRd_pcsB l _ h1]
    exact if_pos ⟨h1, rfl⟩
theorem readS_same (s : Tx) : readSR s = readS s := by
  cases e : readS s with
  | some l => exact readSR_iff.2 (readS_iff.1 e)
  | none =>
    cases e2 : readSR s with
    | none => rfl
    | some l => rw [readS_iff.2 (readSR_iff.1 e2)] at e; cases e
end
section
open Go
/-! Plain: logs. -/
structure Wo where
  team : Int
  minute : Int
  got : Sp
  deriving DecidableEq
def wo0 : Wo := ⟨0, 0, sp0⟩
def okWo (w : Wo) : Bool := inP w.team 0 7 && (inP w.minute 0 2000 && okSp w.got 0 10000)
/-- No minute comes after a greater one. -/
def sortW : List Wo → Bool
  | [] => true
  | [_] => true
  | x :: y :: l => decide (x.minute ≤ y.minute) && sortW (y :: l)
def checkW (l : List Wo) : Int := if 40 < l.length then 3 else if l.all okWo = false then 1 else if sortW l = false then 7 else 0
def whenT (last m : Int) : Tx := if m ≠ last then 43 :: Lib.itoa (m - last) else [61]
def lgL : Int → List Wo → List (List Tx)
  | _, [] => []
  | last, w :: l => [whenT last w.minute, Lib.itoa w.team, spT w.got] :: lgL w.minute l
def logT (l : List Wo) : Tx := textL (lgL 0 l)
/-! Reading. -/
def stepL (last : Int) (out : List Wo) (ws : List Tx) : Option (Int × List Wo) :=
  if ws.length = 3 ∧ out.length < 40 then (
    match (if Lib.hasPrefix (ws.getD 0 []) [43] then (match numP ((ws.getD 0 []).drop 1) with
      | some n => some (last + n)
      | none => none) else some last) with
    | none => none
    | some last' => (match numP (ws.getD 1 []), spanP (ws.getD 2 []) with
      | some t, some s => some (last', out ++ [⟨t, last', s⟩])
      | _, _ => none)) else none
def readL : Int → List Wo → List (List Tx) → Option (List Wo)
  | _, out, [] => some out
  | last, out, ws :: ls => match stepL last out ws with
    | some (last', out') => readL last' out' ls
    | none => none
def parseL (s : Tx) : Option (List Wo) := readL 0 [] ((linesP s).map (splitC 32))
def readLg (s : Tx) : Option (List Wo) := match parseL s with
  | some l => if checkW l = 0 ∧ logT l = s then some l else none
  | none => none
theorem check_zero {l : List Wo} : checkW l = 0 ↔ l.length ≤ 40 ∧ l.all okWo = true ∧ sortW l = true := by
  unfold checkW
  constructor
  · intro h
    split at h
    · cases h
    · split at h
      · cases h
      · split at h
        · cases h
        · rename_i h1 h2 h3
          exact ⟨by omega, by simpa using h2, by simpa using h3⟩
  · rintro ⟨h1, h2, h3⟩
    rw [if_neg (by omega), h2, h3]; rfl
theorem whenT_ok {last m : Int} (h : last ≤ m) : (32 : UInt8) ∉ whenT last m ∧ (10 : UInt8) ∉ whenT last m := by
  unfold whenT
  by_cases e : m = last
  · rw [if_neg (fun h => h e)]; decide
  · rw [if_pos e]
    have := itoa_ok (show 0 ≤ m - last by omega)
    exact ⟨fun h => (List.mem_cons.1 h).elim (fun e => absurd e (by decide)) this.1, fun h => (List.mem_cons.1 h).elim (fun e => absurd e (by decide)) this.2⟩
theorem sortW_tail {x : Wo} {l : List Wo} (h : sortW (x :: l) = true) : sortW l = true ∧ ∀ y, l.head? = some y → x.minute ≤ y.minute := by
  cases l with
  | nil => exact ⟨rfl, fun y h => by cases h⟩
  | cons z l =>
    have h : (decide (x.minute ≤ z.minute) && sortW (z :: l)) = true := h
    rw [Bool.and_eq_true, decide_eq_true_eq] at h
    exact ⟨h.2, fun y e => by injection e with e; rw [← e]; exact h.1⟩
theorem lgL_ok : ∀ (l : List Wo) (last : Int), l.all okWo = true → sortW l = true → (∀ y, l.head? = some y → last ≤ y.minute) → OkWords (lgL last l)
  | [], _, _, _, _ => fun ws h => by cases h
  | w :: l, last, h, hs, hl => fun ws hw => by
    rw [List.all_cons, Bool.and_eq_true] at h
    obtain ⟨h1, h2⟩ := h
    unfold okWo at h1
    simp only [Bool.and_eq_true, inP_iff, okSp_iff] at h1
    rcases List.mem_cons.1 hw with rfl | hw
    · refine ⟨List.cons_ne_nil _ _, fun x hm => ?_⟩
      rcases List.mem_cons.1 hm with rfl | hm
      · exact whenT_ok (hl w rfl)
      · rcases List.mem_cons.1 hm with rfl | hm
        · exact itoa_ok (by omega)
        · rw [List.mem_singleton.1 hm]
          exact ⟨fun h => (spT_no h1.2.2.1 h1.2.2.2.1 h).1 rfl, fun h => (spT_no h1.2.2.1 h1.2.2.2.1 h).2 rfl⟩
    · exact lgL_ok l w.minute h2 (sortW_tail hs).1 (sortW_tail hs).2 ws hw
theorem read_lgL : ∀ (l : List Wo) (last : Int) (out : List Wo), l.all okWo = true → sortW l = true → (∀ y, l.head? = some y → last ≤ y.minute) → 0 ≤ last → out.length + l.length ≤ 40 → readL last out (lgL last l) = some (out ++ l)
  | [], _, out, _, _, _, _, _ => by show some out = _; rw [List.append_nil]
  | w :: l, last, out, h, hs, hl, h0, hn => by
    rw [List.all_cons, Bool.and_eq_true] at h
    obtain ⟨h1, h2⟩ := h
    unfold okWo at h1
    simp only [Bool.and_eq_true, inP_iff, okSp_iff] at h1
    have hlw := hl w rfl
    rw [List.length_cons] at hn
    have s0 : stepL last out [whenT last w.minute, Lib.itoa w.team, spT w.got] = some (w.minute, out ++ [w]) := by
      unfold stepL
      rw [if_pos ⟨rfl, by omega⟩]
      rw [show ([whenT last w.minute, Lib.itoa w.team, spT w.got] : List Tx).getD 0 [] = whenT last w.minute from rfl, show ([whenT last w.minute, Lib.itoa w.team, spT w.got] : List Tx).getD 1 [] = Lib.itoa w.team from rfl, show ([whenT last w.minute, Lib.itoa w.team, spT w.got] : List Tx).getD 2 [] = spT w.got from rfl]
      rw [numP_itoa (by omega) (by omega), spanP_spT h1.2.2.1 h1.2.2.2.1 (by omega)]
      have hw : (if Lib.hasPrefix (whenT last w.minute) [43] = true then (match numP ((whenT last w.minute).drop 1) with
          | some n => some (last + n)
          | none => none) else some last) = some w.minute := by
        by_cases e : w.minute = last
        · have e2 : whenT last w.minute = [61] := by unfold whenT; exact if_neg (fun h => h e)
          rw [e2, e]; rfl
        · have e2 : whenT last w.minute = 43 :: Lib.itoa (w.minute - last) := by unfold whenT; exact if_pos e
          rw [e2]
          show (match numP (Lib.itoa (w.minute - last)) with
            | some n => some (last + n)
            | none => none) = _
          rw [numP_itoa (by omega) (by omega)]
          show some (last + (w.minute - last)) = some w.minute
          congr 1; omega
      rw [hw]
    show (match stepL last out [whenT last w.minute, Lib.itoa w.team, spT w.got] with
      | some (last', out') => readL last' out' (lgL w.minute l)
      | none => none) = _
    rw [s0]
    show readL w.minute (out ++ [w]) (lgL w.minute l) = _
    rw [read_lgL l w.minute (out ++ [w]) h2 (sortW_tail hs).1 (sortW_tail hs).2 (by omega) (by rw [List.length_append]; show out.length + 1 + _ ≤ _; omega), List.append_assoc]; rfl
theorem log_head {l : List Wo} (h : l.all okWo = true) : ∀ y, l.head? = some y → 0 ≤ y.minute := by
  intro y hy
  cases l with
  | nil => cases hy
  | cons x l =>
    injection hy with hy
    subst hy
    rw [List.all_cons, Bool.and_eq_true] at h
    have h1 := h.1
    unfold okWo at h1
    simp only [Bool.and_eq_true, inP_iff] at h1
    exact h1.2.1.1
theorem parseL_log {l : List Wo} (h : checkW l = 0) : parseL (logT l) = some l := by
  obtain ⟨h1, h2, h3⟩ := check_zero.1 h
  unfold parseL logT
  rw [lines_text (lgL_ok l 0 h2 h3 (log_head h2)), read_lgL l 0 [] h2 h3 (log_head h2) (Int.le_refl _) (by simpa using h1)]
  rfl
theorem readLg_iff {s : Tx} {l : List Wo} : readLg s = some l ↔ checkW l = 0 ∧ logT l = s := by
  unfold readLg
  constructor
  · intro h
    split at h
    · split at h
      · rename_i hc
        injection h with h
        subst h
        exact hc
      · cases h
    · cases h
  · rintro ⟨h1, rfl⟩
    rw [parseL_log h1]
    exact if_pos ⟨h1, rfl⟩
theorem logT_inj {l m : List Wo} (hl : checkW l = 0) (hm : checkW m = 0) (h : logT l = logT m) : l = m := by
  have h1 := parseL_log hl
  rw [h, parseL_log hm] at h1
  injection h1 with h1
  exact h1.symm
end
section
open Go
/-! Plain side of BookWrong and BookGrows. -/
theorem count_text : ∀ {ls : List (List Tx)}, OkWords ls → (textL ls).count 10 = ls.length
  | [], _ => rfl
  | ws :: ls, h => by
    have h1 := h ws (List.mem_cons_self ..)
    rw [textL_cons, List.count_append, List.count_cons_self, count_text (fun x hx => h x (List.mem_cons_of_mem _ hx)), List.count_eq_zero.2 (glue_no10 fun w hw => (h1.2 w hw).2), List.length_cons]
    omega
theorem dL_len (d : Pu) : (dL d).length = 5 * d.pieces.length + 2 := by
  show (pcsL 0 d.pieces).length + 1 + 1 = _
  rw [pcsL_len]
theorem count_dText {d : Pu} (h : okPu d = true) : (dText d).count 10 = 5 * d.pieces.length + 2 := by
  unfold dText
  rw [count_text (dL_ok h), dL_len]
def head1 (d : Pu) : Tx := glue 32 [if d.turn then wTurning else wDrawing, Lib.itoa d.wide, Lib.itoa d.high]
theorem dText_head (d : Pu) : dText d = head1 d ++ 10 :: textL ([wPlay, Lib.itoa d.play.len, Lib.itoa d.play.slack, Lib.itoa d.play.loose, spT d.play.damp] :: pcsL 0 d.pieces) := textL_cons _ _
theorem head1_no {d : Pu} (h : okPu d = true) : (10 : UInt8) ∉ head1 d := glue_no10 fun w hw => ((dL_ok h _ (List.mem_cons_self ..)).2 w hw).2
/-- A first line says how many pieces there are. -/
theorem head_pieces {d e : Pu} (hd : okPu d = true) (he : okPu e = true) {r : Tx} (h : dText e = head1 d ++ 10 :: r) : e.pieces.length = d.pieces.length := by
  rw [dText_head] at h
  have h1 : (splitC 10 (head1 e ++ 10 :: textL ([wPlay, Lib.itoa e.play.len, Lib.itoa e.play.slack, Lib.itoa e.play.loose, spT e.play.damp] :: pcsL 0 e.pieces))).head? = (splitC 10 (head1 d ++ 10 :: r)).head? := by rw [h]
  rw [splitC_cons _ (head1_no he), splitC_cons _ (head1_no hd)] at h1
  have h1 : some (head1 e) = some (head1 d) := h1
  injection h1 with h1
  have w0 := dL_ok hd _ (List.mem_cons_self ..)
  have v0 := dL_ok he _ (List.mem_cons_self ..)
  have h2 := congrArg (splitC 32) h1
  unfold head1 at h2
  rw [split_glue v0.1 (fun w hw => (v0.2 w hw).1), split_glue w0.1 (fun w hw => (w0.2 w hw).1)] at h2
  injection h2 with _ h2
  injection h2 with h3 h2
  injection h2 with h4 _
  unfold okPu at hd he
  simp only [Bool.and_eq_true, inP_iff, decide_eq_true_eq] at hd he
  have a1 := numP_itoa (n := e.wide) (by omega) (by omega)
  rw [h3, numP_itoa (by omega) (by omega)] at a1
  injection a1 with a1
  have a2 := numP_itoa (n := e.high) (by omega) (by omega)
  rw [h4, numP_itoa (by omega) (by omega)] at a2
  injection a2 with a2
  have q1 := hd.2.2.2.1
  have q2 := he.2.2.2.1
  rw [← a1, ← a2, q1] at q2
  omega
theorem text_end : ∀ {ls : List (List Tx)}, ls ≠ [] → (textL ls).getLast? = some 10
  | [], h => absurd rfl h
  | [ws], _ => by rw [textL_cons]; show (glue 32 ws ++ [10]).getLast? = _; rw [List.getLast?_append]; rfl
  | ws :: x :: ls, _ => by
    have ih := text_end (ls := x :: ls) (List.cons_ne_nil _ _)
    rw [textL_cons, List.getLast?_append]
    have : (10 :: textL (x :: ls)).getLast? = some 10 := by
      cases e : textL (x :: ls) with
      | nil => rw [e] at ih; cases ih
      | cons b t => rw [List.getLast?_cons_cons, ← e]; exact ih
    rw [this]; rfl
theorem cut_none_text {d : Pu} (h : okPu d = true) {k : Nat} (hk : k < (dText d).length) : readD ((dText d).take k) = none := by
  cases e : readD ((dText d).take k) with
  | none => rfl
  | some x =>
    exfalso
    obtain ⟨hx, hxt⟩ := readD_iff.1 e
    have hc := count_dText hx
    have hhd := head1_no h
    by_cases hkx : k ≤ (head1 d).length
    · rw [dText_head d, List.take_append_of_le_length hkx] at hxt
      have : (dText x).count 10 = 0 := List.count_eq_zero.2 fun hm => hhd (List.mem_of_mem_take (by rw [← hxt]; exact hm))
      omega
    · have e1 : (dText d).take k = head1 d ++ 10 :: (textL ([wPlay, Lib.itoa d.play.len, Lib.itoa d.play.slack, Lib.itoa d.play.loose, spT d.play.damp] :: pcsL 0 d.pieces)).take (k - (head1 d).length - 1) := by
        rw [dText_head d, List.take_append, List.take_of_length_le (by omega)]
        congr 1
        rw [show k - (head1 d).length = (k - (head1 d).length - 1) + 1 by omega, List.take_succ_cons]
        rfl
      rw [e1] at hxt
      have hn := head_pieces h hx hxt
      have hd := count_dText h
      rw [← List.take_append_drop k (dText d), List.count_append] at hd
      rw [← e1] at hxt
      rw [← hxt, hc, hn] at hd
      have h0 : ((dText d).drop k).count 10 = 0 := by omega
      have hl := text_end (ls := dL d) (by intro e; have := dL_len d; rw [e] at this; simp at this)
      have hl2 : (dText d).getLast? = some 10 := hl
      rw [← List.take_append_drop k (dText d), List.getLast?_append] at hl2
      cases e2 : ((dText d).drop k).getLast? with
      | none =>
        have := List.getLast?_eq_none_iff.1 e2
        have := congrArg List.length this
        rw [List.length_drop] at this
        exact absurd this (by simp; omega)
      | some b =>
        rw [e2] at hl2
        injection hl2 with hl2
        subst hl2
        exact List.count_eq_zero.1 h0 (List.mem_of_getLast? e2)
theorem more_none_text {d : Pu} (h : okPu d = true) {r : Tx} (hr : (10 : UInt8) ∈ r) : readD (dText d ++ r) = none := by
  cases e : readD (dText d ++ r) with
  | none => rfl
  | some x =>
    exfalso
    obtain ⟨hx, hxt⟩ := readD_iff.1 e
    have hc := count_dText hx
    have e1 : dText x = head1 d ++ 10 :: (textL ([wPlay, Lib.itoa d.play.len, Lib.itoa d.play.slack, Lib.itoa d.play.loose, spT d.play.damp] :: pcsL 0 d.pieces) ++ r) := by
      rw [hxt, dText_head d, List.append_assoc]; rfl
    have hn := head_pieces h hx e1
    have hd := count_dText h
    rw [hxt, List.count_append, hd, hn] at hc
    have : 0 < r.count 10 := List.count_pos_iff.2 hr
    omega
/-! How long texts are. -/
theorem itoa_len {n : Int} (h0 : 0 ≤ n) (h1 : n < 100000) : (Lib.itoa n).length ≤ 5 := by
  obtain ⟨u, rfl⟩ : ∃ u : Nat, n = u := ⟨n.toNat, by omega⟩
  rw [itoa_nat]
  exact dec_len (by omega)
theorem spT_len {s : Sp} (h0 : 0 ≤ s.lo) (h1 : s.lo ≤ s.hi) (h2 : s.hi < 100000) : (spT s).length ≤ 12 := by
  have a := itoa_len h0 (by omega)
  have b := itoa_len (n := s.hi) (by omega) h2
  unfold spT
  split
  · omega
  · rw [List.length_append, List.length_append]
    show _ + (2 + _) ≤ 12
    omega
theorem edW_len {e : Ed} (h : okEd e = true) : (glue 32 (edW e)).length ≤ 43 := by
  rcases okEd_cases h with rfl | ⟨hk, ha, hw, hd⟩
  · decide
  · rw [okSp_iff] at ha hw hd
    have hk0 : ¬ e.kind = 0 := by omega
    have a := spT_len ha.1 ha.2.1 (by omega)
    have b := spT_len (s := e.w) (by omega) hw.2.1 (by omega)
    have c := spT_len (s := e.d) (by omega) hd.2.1 (by omega)
    have k : (kindW e.kind).length ≤ 4 := by
      unfold kindW
      split
      · decide
      · split <;> decide
    unfold edW
    rw [if_neg hk0]
    show (kindW e.kind ++ 32 :: (spT e.a ++ 32 :: (spT e.w ++ 32 :: spT e.d))).length ≤ 43
    simp only [List.length_append, List.length_cons]
    omega
theorem textL_len_le (B : Nat) : ∀ {ls : List (List Tx)}, (∀ ws ∈ ls, (glue 32 ws).length ≤ B) → (textL ls).length ≤ (B + 1) * ls.length
  | [], _ => Nat.zero_le _
  | ws :: ls, h => by
    have h1 := h ws (List.mem_cons_self ..)
    have ih := textL_len_le B (fun x hx => h x (List.mem_cons_of_mem _ hx))
    rw [textL_cons, List.length_append, List.length_cons, List.length_cons, Nat.mul_succ]
    omega
theorem pcsL_glen : ∀ (l : List Pc) (i : Nat), okPcs l = true → i + l.length ≤ 99999 → ∀ ws ∈ pcsL i l, (glue 32 ws).length ≤ 43
  | [], _, _, _ => fun ws h => by cases h
  | p :: l, i, h, hi => fun ws hw => by
    have h : (okPc p && okPcs l) = true := h
    rw [Bool.and_eq_true] at h
    rw [List.length_cons] at hi
    have hw : ws ∈ pcL i p ++ pcsL (i + 1) l := hw
    rcases List.mem_append.1 hw with hw | hw
    · rcases List.mem_cons.1 hw with rfl | hw
      · have := itoa_len (n := (i : Int)) (by omega) (by omega)
        show (wPiece ++ 32 :: Lib.itoa i).length ≤ 43
        rw [List.length_append, List.length_cons]
        show 5 + _ ≤ 43
        omega
      · obtain ⟨e, he, rfl⟩ := List.mem_map.1 hw
        exact edW_len (List.all_eq_true.1 h.1 e he)
    · exact pcsL_glen l (i + 1) h.2 (by omega) ws hw
theorem dText_len {d : Pu} (h : okPu d = true) : (dText d).length ≤ 2068 := by
  have h0 := h
  unfold okPu okPy at h
  simp only [Bool.and_eq_true, inP_iff, okSp_iff, decide_eq_true_eq] at h
  obtain ⟨h1, h2, h3, h4, ⟨h5, h6, h7, h8⟩, h9⟩ := h
  have hl := dL_len d
  have := textL_len_le 43 (ls := dL d) (fun ws hw => by
    rcases List.mem_cons.1 hw with rfl | hw
    · have a := itoa_len (n := d.wide) (by omega) (by omega)
      have b := itoa_len (n := d.high) (by omega) (by omega)
      show ((if d.turn then wTurning else wDrawing) ++ 32 :: (Lib.itoa d.wide ++ 32 :: Lib.itoa d.high)).length ≤ 43
      have c : (if d.turn then wTurning else wDrawing).length = 7 := by cases d.turn <;> rfl
      simp only [List.length_append, List.length_cons]
      omega
    · rcases List.mem_cons.1 hw with rfl | hw
      · have a := itoa_len (n := d.play.len) (by omega) (by omega)
        have b := itoa_len (n := d.play.slack) (by omega) (by omega)
        have c := itoa_len (n := d.play.loose) (by omega) (by omega)
        have e := spT_len (s := d.play.damp) (by omega) (by omega) (by omega)
        show (wPlay ++ 32 :: (Lib.itoa d.play.len ++ 32 :: (Lib.itoa d.play.slack ++ 32 :: (Lib.itoa d.play.loose ++ 32 :: spT d.play.damp)))).length ≤ 43
        simp only [List.length_append, List.length_cons]
        have : wPlay.length = 4 := rfl
        omega
      · exact pcsL_glen _ _ h9 (by omega) ws hw)
  unfold dText
  rw [hl] at this
  omega
/-! Scans. -/
theorem parseS_more {l : List Pc} (r : Tx) (h : okPcs l = true) (hn : l.length ≤ 12) : parseS (scanB l ++ r) = some l := by
  unfold parseS scanB bodyB
  rw [List.append_assoc, List.append_assoc, next3_grp _ (by omega)]
  dsimp only
  rw [if_pos hn, pcsN_pcsB l _ h]
theorem scan_cut {l : List Pc} (h : okPcs l = true) (hn : l.length ≤ 12) {k : Nat} (hk : k < (scanB l).length) : readS ((scanB l).take k) = none := by
  cases e : readS ((scanB l).take k) with
  | none => rfl
  | some m =>
    exfalso
    obtain ⟨h1, h2, h3⟩ := readS_iff.1 e
    have h4 := parseS_more ((scanB l).drop k) h1 h2
    rw [h3, List.take_append_drop, parseS_scan h hn] at h4
    injection h4 with h4
    rw [← h4] at h3
    have := congrArg List.length h3
    rw [List.length_take] at this
    omega
theorem scan_more {l : List Pc} (h : okPcs l = true) (hn : l.length ≤ 12) {r : Tx} (hr : r ≠ []) : readS (scanB l ++ r) = none := by
  unfold readS
  rw [parseS_more r h hn]
  dsimp only
  rw [if_neg]
  rintro ⟨-, e⟩
  have := congrArg List.length e
  rw [List.length_append] at this
  exact hr (List.eq_nil_of_length_eq_zero (by omega))
theorem sum_set {b : Tx} {k : Nat} (hk : k < b.length) (y : UInt8) : sumB (b.set k (b.getD k 0 + y)) = sumB b + y := by
  have e1 : b = b.take k ++ b.getD k 0 :: b.drop (k + 1) := by
    rw [List.getD_eq_getElem?_getD, List.getElem?_eq_getElem hk]
    show b = b.take k ++ b[k] :: b.drop (k + 1)
    rw [List.getElem_cons_drop, List.take_append_drop]
  have hs : ∀ (x : UInt8) (t : Tx), sumB (x :: t) = x + sumB t := fun x t => by
    have := sum_app [x] t
    show sumB ([x] ++ t) = _
    rw [this]
    show 0 + x + _ = _
    rw [UInt8.zero_add]
  generalize b.getD k 0 = x at *
  have hl : (b.take k).length = k := by rw [List.length_take]; omega
  generalize b.take k = p at *
  generalize b.drop (k + 1) = q at *
  subst e1
  rw [List.set_append_right _ _ (by omega), hl, Nat.sub_self]
  show sumB (p ++ (x + y) :: q) = _
  rw [sum_app, sum_app, hs, hs]
  rw [UInt8.add_assoc (sumB p), UInt8.add_assoc x, UInt8.add_assoc x, UInt8.add_comm y]
theorem grp_len {n : Nat} (h : n < 2097152) : (grp n).length ≤ 3 ∧ 1 ≤ (grp n).length := by
  by_cases h1 : n < 128
  · rw [grp_small h1]; exact ⟨by simp, by simp⟩
  · rw [grp_big h1]
    by_cases h2 : n / 128 < 128
    · rw [grp_small h2]; exact ⟨by simp, by simp⟩
    · rw [grp_big h2, grp_small (by omega)]; exact ⟨by simp, by simp⟩
theorem edB_len {e : Ed} (h : okEd e = true) : (edB e).length ≤ 19 := by
  rcases okEd_cases h with rfl | ⟨hk, ha, hw, hd⟩
  · decide
  · rw [okSp_iff] at ha hw hd
    have hk0 : ¬ e.kind = 0 := by omega
    have a := (grp_len (n := e.a.lo.toNat) (by omega)).1
    have b := (grp_len (n := (e.a.hi - e.a.lo).toNat) (by omega)).1
    have c := (grp_len (n := e.w.lo.toNat) (by omega)).1
    have d := (grp_len (n := (e.w.hi - e.w.lo).toNat) (by omega)).1
    have f := (grp_len (n := e.d.lo.toNat) (by omega)).1
    have g := (grp_len (n := (e.d.hi - e.d.lo).toNat) (by omega)).1
    unfold edB spB
    rw [if_neg hk0]
    simp only [List.length_cons, List.length_append]
    omega
theorem pcB_len {p : Pc} (h : okPc p = true) : (pcB p).length ≤ 76 := by
  unfold okPc edges at h
  simp only [List.all_cons, List.all_nil, Bool.and_true, Bool.and_eq_true] at h
  have a := edB_len h.1
  have b := edB_len h.2.1
  have c := edB_len h.2.2.1
  have d := edB_len h.2.2.2
  unfold pcB edges
  simp only [List.flatMap_cons, List.flatMap_nil, List.length_append, List.length_nil]
  omega
theorem pcsB_len : ∀ {l : List Pc}, okPcs l = true → (l.flatMap pcB).length ≤ 76 * l.length
  | [], _ => Nat.zero_le _
  | p :: l, h => by
    have h : (okPc p && okPcs l) = true := h
    rw [Bool.and_eq_true] at h
    have a := pcB_len h.1
    have b := pcsB_len h.2
    rw [List.flatMap_cons, List.length_append, List.length_cons]
    omega
theorem scanB_len {l : List Pc} (h : okPcs l = true) (hn : l.length ≤ 12) : (scanB l).length ≤ 916 ∧ 2 ≤ (scanB l).length := by
  have a := pcsB_len h
  have b := grp_len (n := l.length) (by omega)
  unfold scanB bodyB
  rw [List.length_append, List.length_append]
  show _ + _ + 1 ≤ _ ∧ _ ≤ _ + _ + 1
  omega
/-! Logs. -/
theorem lgL_take : ∀ (l : List Wo) (last : Int) (k : Nat), lgL last (l.take k) = (lgL last l).take k
  | [], _, k => by cases k <;> rfl
  | w :: l, last, 0 => rfl
  | w :: l, last, k + 1 => by
    show _ :: lgL w.minute (l.take k) = _ :: (lgL w.minute l).take k
    rw [lgL_take l]
theorem textL_take (ls : List (List Tx)) (k : Nat) : ∃ r, textL ls = textL (ls.take k) ++ r := by
  refine ⟨textL (ls.drop k), ?_⟩
  unfold textL
  rw [← List.flatMap_append, List.take_append_drop]
theorem log_take (l : List Wo) (k : Nat) : ∃ r, logT l = logT (l.take k) ++ r := by
  unfold logT
  rw [lgL_take]
  exact textL_take _ _
theorem sortW_iff : ∀ {l : List Wo}, sortW l = true ↔ l.Pairwise (fun x y => x.minute ≤ y.minute)
  | [] => by simp [sortW]
  | [x] => by simp [sortW]
  | x :: y :: l => by
    have ih := sortW_iff (l := y :: l)
    show (decide (x.minute ≤ y.minute) && sortW (y :: l)) = true ↔ _
    rw [Bool.and_eq_true, decide_eq_true_eq, ih, List.pairwise_cons (a := x)]
    constructor
    · rintro ⟨h1, h2⟩
      refine ⟨fun z hz => ?_, h2⟩
      rcases List.mem_cons.1 hz with rfl | hz
      · exact h1
      · have := (List.pairwise_cons.1 h2).1 z hz
        omega
    · rintro ⟨h1, h2⟩
      exact ⟨h1 y (List.mem_cons_self ..), h2⟩
theorem check_take {l : List Wo} (h : checkW l = 0) (k : Nat) : checkW (l.take k) = 0 := by
  obtain ⟨h1, h2, h3⟩ := check_zero.1 h
  refine check_zero.2 ⟨by rw [List.length_take]; omega, ?_, ?_⟩
  · rw [List.all_eq_true] at h2 ⊢
    exact fun x hx => h2 x (List.mem_of_mem_take hx)
  · rw [sortW_iff] at h3 ⊢
    exact h3.sublist (List.take_sublist _ _)
/-- All words are of one minute. -/
def flatB (l : List Wo) : Bool := l.isEmpty || decide ((l.getD 0 wo0).minute = (l.getD (l.length - 1) wo0).minute)
theorem check_turned {l : List Wo} (h : checkW l = 0) : checkW l.reverse = if flatB l then 0 else 7 := by
  obtain ⟨h1, h2, h3⟩ := check_zero.1 h
  have h3' := sortW_iff.1 h3
  have a1 : l.reverse.all okWo = true := by rw [List.all_reverse]; exact h2
  unfold checkW
  rw [List.length_reverse, if_neg (by omega), a1, if_neg (by decide)]
  have key : sortW l.reverse = flatB l := by
    rw [Bool.eq_iff_iff, sortW_iff, List.pairwise_reverse]
    cases l with
    | nil => simp [flatB]
    | cons x l =>
      have hlast : ((x :: l).getD ((x :: l).length - 1) wo0) ∈ x :: l := by
        rw [List.getD_eq_getElem?_getD, List.getElem?_eq_getElem (by rw [List.length_cons]; omega)]
        exact List.getElem_mem _
      have hfl : flatB (x :: l) = true ↔ x.minute = ((x :: l).getD ((x :: l).length - 1) wo0).minute := by
        show (false || decide (x.minute = _)) = true ↔ _
        rw [Bool.false_or, decide_eq_true_eq]
      rw [hfl]
      constructor
      · intro hp
        have ha := (List.pairwise_cons.1 hp).1
        have hb := (List.pairwise_cons.1 h3').1
        rcases List.mem_cons.1 hlast with e | e
        · rw [e]
        · have := ha _ e
          have := hb _ e
          omega
      · intro he
        have hall : ∀ y ∈ x :: l, y.minute = x.minute := by
          intro y hy
          obtain ⟨j, hj⟩ := List.getElem?_of_mem hy
          have hjl := (List.getElem?_eq_some_iff.1 hj).1
          have e1 : x.minute ≤ y.minute := by
            rcases List.mem_cons.1 hy with rfl | hy
            · exact Int.le_refl _
            · exact (List.pairwise_cons.1 h3').1 y hy
          have e2 : y.minute ≤ ((x :: l).getD ((x :: l).length - 1) wo0).minute := by
            by_cases ej : j = (x :: l).length - 1
            · subst ej
              rw [List.getD_eq_getElem?_getD, hj]
              exact Int.le_refl _
            · have hp := List.pairwise_iff_getElem.1 h3' j ((x :: l).length - 1) hjl (by rw [List.length_cons]; omega) (by omega)
              rw [List.getD_eq_getElem?_getD, List.getElem?_eq_getElem (by rw [List.length_cons]; omega)]
              have e3 := (List.getElem?_eq_some_iff.1 hj).2
              rw [e3] at hp
              exact hp
          omega
        refine List.pairwise_of_forall_mem_list fun a ha b hb => ?_
        have := hall a ha
        have := hall b hb
        omega
  rw [key]
  cases flatB l <;> rfl
end
end Go.Proofs.YtonnemkecppmiaaGreatDoor
