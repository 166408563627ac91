import Derived.Test.YtkcfpnpejaekjaaDoorD4
namespace Go.Proofs.YtkcfpnpejaekjaaDoor
/-! Plain: with a look more. -/
def addL (t : Tl) (s : Look) : Tl := { t with looks := t.looks ++ [s] }
theorem add_ok {t : Tl} {s : Look} (h : okTale (addL t s) = true) : okTale t = true := by
  unfold okTale addL at h
  unfold okTale
  simp only [Bool.and_eq_true, List.all_append, decide_eq_true_eq, List.length_append, List.length_singleton] at h ⊢
  obtain ⟨h1, h2, h3, h4, h5, ⟨h6, -⟩, h7⟩ := h
  exact ⟨h1, h2, h3, by push_cast at h4; omega, h5, h6, h7⟩
theorem inW_add {l : List Look} {s : Look} {k : Nat} {h : Int} (hw : InW (l ++ [s]) k h) : InW l k h := ⟨hw.1, hw.2.1, fun x hx => hw.2.2 x (List.mem_append_left _ hx)⟩
theorem OkT.hours {t : Tl} (ok : OkT t) : ∀ x ∈ t.looks, 0 ≤ x.h ∧ x.h ≤ mxH := fun x hx => (ok.look x hx).1
theorem susp_add {t : Tl} {s : Look} (ok : OkT (addL t s)) (ok' : OkT t) {k p : Nat} (h : suspB (addL t s) k p = true) : suspB t k p = true := by
  obtain ⟨x, hx, e⟩ := (susp_iff ok.lent ok.hours).1 h
  exact (susp_iff ok'.lent ok'.hours).2 ⟨x, inW_add hx, e⟩
theorem FitBy.mono {n : Nat} {S S' : Nat → Nat → Bool} {a : Nat → Option Nat} {f : Nat → Nat} (h : FitBy n S a f) (hs : ∀ k p, S k p = true → S' k p = true) : FitBy n S' a f := ⟨fun k hk => hs _ _ (h.can k hk), h.adm⟩
theorem fit_add {t : Tl} {s : Look} (ok : OkT (addL t s)) (ok' : OkT t) (h : fitB (addL t s) = true) : fitB t = true := by
  obtain ⟨f, hf⟩ := (fitB_iff ok.lent ok.hours).1 h
  exact (fitB_iff ok'.lent ok'.hours).2 ⟨f, hf.mono fun _ _ => susp_add ok ok'⟩
theorem whoB_add {t : Tl} {s : Look} (ok : OkT (addL t s)) (ok' : OkT t) {k p : Nat} (hk : k < t.n.toNat) (h : whoB (addL t s) k p = true) : whoB t k p = true := by
  obtain ⟨f, hf, e⟩ := (whoB_iff ok.lent ok.hours hk).1 h
  exact (whoB_iff ok'.lent ok'.hours hk).2 ⟨f, hf.mono fun _ _ => susp_add ok ok', e⟩
theorem whoS_ok {t : Tl} {k : Int} {b : Nat} (h : whoS t k = (b, 0)) : OkT t ∧ inS k 0 (t.n - 1) = true ∧ fitB t = true ∧ b = setB (whoB t k.toNat) 8 := by
  unfold whoS at h
  split at h
  · injection h with _ h; cases h
  · rename_i h1
    split at h
    · injection h with _ h; cases h
    · rename_i h2
      split at h
      · injection h with _ h; cases h
      · rename_i h3
        injection h with h4 _
        exact ⟨okT_of (by simpa using h1), by simpa using h2, by simpa using h3, h4.symm⟩
theorem whoS_of {t : Tl} {k : Int} (ok : okTale t = true) (hk : inS k 0 (t.n - 1) = true) (hf : fitB t = true) : whoS t k = (setB (whoB t k.toNat) 8, 0) := by
  unfold whoS; rw [ok, hk, hf]; rfl
theorem who_more {t : Tl} {s : Look} {k : Int} {b : Nat} (h : whoS (addL t s) k = (b, 0)) : ∃ a, whoS t k = (a, 0) ∧ ∀ p, has b p = true → has a p = true := by
  obtain ⟨ok, hk, hf, rfl⟩ := whoS_ok h
  have hok : okTale t = true := by
    refine Classical.byContradiction fun hn => ?_
    have : okTale (addL t s) = false := by cases h2 : okTale (addL t s) with | false => rfl | true => exact absurd (add_ok h2) hn
    unfold whoS at h
    rw [this] at h
    injection h with _ h; cases h
  have ok' := okT_of hok
  refine ⟨_, whoS_of hok hk (fit_add ok ok' hf), fun p hp => ?_⟩
  have hk' : k.toNat < t.n.toNat := by have h1 := inS_iff.1 hk; have h2 : k ≤ t.n - 1 := h1.2; omega
  unfold has at hp ⊢
  rw [setB_bit, Bool.and_eq_true] at hp ⊢
  exact ⟨hp.1, whoB_add ok ok' hk' hp.2⟩
/-! How many. -/
theorem lostL_spec (t : Tl) (p : Nat) : ∀ N : Nat, ((lostL t p N).2.2 = false ∧ ∀ n, n < N → fitB (saysT t p n) = false) ∨
    ((lostL t p N).2.2 = true ∧ ∃ a b : Nat, (lostL t p N).1 = a ∧ (lostL t p N).2.1 = b ∧ a < N ∧ b < N ∧ fitB (saysT t p a) = true ∧ fitB (saysT t p b) = true ∧ ∀ n, n < N → fitB (saysT t p n) = true → a ≤ n ∧ n ≤ b)
  | 0 => .inl ⟨rfl, fun n h => by omega⟩
  | N + 1 => by
    have ih := lostL_spec t p N
    show ((if fitB (saysT t p N) then (if (lostL t p N).2.2 then (lostL t p N).1 else (N : Int), (N : Int), true) else lostL t p N).2.2 = false ∧ _) ∨ ((if fitB (saysT t p N) then (if (lostL t p N).2.2 then (lostL t p N).1 else (N : Int), (N : Int), true) else lostL t p N).2.2 = true ∧ ∃ a b : Nat, (if fitB (saysT t p N) then (if (lostL t p N).2.2 then (lostL t p N).1 else (N : Int), (N : Int), true) else lostL t p N).1 = a ∧ (if fitB (saysT t p N) then (if (lostL t p N).2.2 then (lostL t p N).1 else (N : Int), (N : Int), true) else lostL t p N).2.1 = b ∧ _)
    cases hN : fitB (saysT t p N)
    · rw [if_neg (by decide)]
      rcases ih with ⟨h1, h2⟩ | ⟨h1, a, b, ha, hb, ha', hb', hfa, hfb, hall⟩
      · refine .inl ⟨h1, fun n hn => ?_⟩
        by_cases e : n = N
        · rw [e]; exact hN
        · exact h2 n (by omega)
      · refine .inr ⟨h1, a, b, ha, hb, by omega, by omega, hfa, hfb, fun n hn hf => ?_⟩
        by_cases e : n = N
        · subst e; rw [hN] at hf; cases hf
        · exact hall n (by omega) hf
    · rw [if_pos rfl]
      right
      refine ⟨rfl, ?_⟩
      rcases ih with ⟨h1, h2⟩ | ⟨h1, a, b, ha, hb, ha', hb', hfa, hfb, hall⟩
      · refine ⟨N, N, by show (if (lostL t p N).2.2 = true then _ else _) = _; rw [h1]; rfl, rfl, by omega, by omega, hN, hN, fun n hn hf => ?_⟩
        by_cases e : n = N
        · omega
        · rw [h2 n (by omega)] at hf; cases hf
      · refine ⟨a, N, by show (if (lostL t p N).2.2 = true then _ else _) = _; rw [h1]; exact ha, rfl, by omega, by omega, hfa, hN, fun n hn hf => ?_⟩
        by_cases e : n = N
        · omega
        · have := hall n (by omega) hf; omega
theorem lostS_ok {t : Tl} {p : Int} {sp : Int × Int} (h : lostS t p = (sp, 0)) : OkT t ∧ inS p 0 ((t.admits.length : Int) - 1) = true ∧ fitB t = true := by
  unfold lostS at h
  split at h
  · injection h with _ h; cases h
  · rename_i h1
    split at h
    · injection h with _ h; cases h
    · rename_i h2
      split at h
      · injection h with _ h; cases h
      · rename_i h3
        exact ⟨okT_of (by simpa using h1), by simpa using h2, by simpa using h3⟩
theorem lostS_of {t : Tl} {p : Int} (ok : okTale t = true) (hp : inS p 0 ((t.admits.length : Int) - 1) = true) (hf : fitB t = true) : lostS t p = if t.admits.getD p.toNat 0 ≠ -1 then ((t.admits.getD p.toNat 0, t.admits.getD p.toNat 0), 0) else (((lostL t p.toNat (t.n.toNat + 1)).1, (lostL t p.toNat (t.n.toNat + 1)).2.1), 0) := by
  unfold lostS; rw [ok, hp, hf]; rfl
theorem ok_says {t : Tl} (ok : OkT t) (p : Nat) {v : Int} (hv : 0 ≤ v ∧ v ≤ 16) : OkT (saysT t p v) := says_ok ok hv
theorem okTale_t {t : Tl} {s : Look} {b : Bool} (h : okTale (addL t s) = b) (hb : b = true) : okTale t = true := add_ok (h.trans hb)
theorem ne_false {b : Bool} (h : ¬ b = false) : b = true := by cases b; exact absurd rfl h; rfl
theorem lost_more {t : Tl} {s : Look} {p : Int} {lo' hi' : Int} (h : lostS (addL t s) p = ((lo', hi'), 0)) : ∃ lo hi, lostS t p = ((lo, hi), 0) ∧ lo ≤ lo' ∧ hi' ≤ hi := by
  obtain ⟨ok, hp, hf⟩ := lostS_ok h
  have hx : okTale (addL t s) = true := ne_false fun e => by
    unfold lostS at h; rw [e] at h; injection h with _ h; cases h
  have hok := add_ok hx
  have ok' := okT_of hok
  have hf' := fit_add ok ok' hf
  rw [lostS_of hx hp hf] at h
  rw [lostS_of hok hp hf']
  have hadm : (addL t s).admits = t.admits := rfl
  rw [hadm] at h
  by_cases hs : t.admits.getD p.toNat 0 = -1
  · rw [if_neg (fun e => e hs)] at h ⊢
    have hlt : p.toNat < t.admits.length := by have h1 := inS_iff.1 hp; have h2 : p ≤ (t.admits.length : Int) - 1 := h1.2; omega
    have hfd := lost_found ok hlt hs hf
    have hfd' := lost_found ok' hlt hs hf'
    injection h with h _
    injection h with h1 h2
    have hn : (addL t s).n = t.n := rfl
    rw [hn] at h1 h2 hfd
    rcases lostL_spec (addL t s) p.toNat (t.n.toNat + 1) with ⟨e, -⟩ | ⟨-, a, b, ha, hb, ha', hb', hfa, hfb, -⟩
    · rw [hfd] at e; cases e
    rcases lostL_spec t p.toNat (t.n.toNat + 1) with ⟨e, -⟩ | ⟨-, a2, b2, ha2, hb2, -, -, -, -, hall⟩
    · rw [hfd'] at e; cases e
    have hn16 := ok'.n2
    have q1 := hall a ha' (fit_add (t := saysT t p.toNat a) (s := s) (says_ok ok ⟨by omega, by omega⟩) (says_ok ok' ⟨by omega, by omega⟩) hfa)
    have q2 := hall b hb' (fit_add (t := saysT t p.toNat b) (s := s) (says_ok ok ⟨by omega, by omega⟩) (says_ok ok' ⟨by omega, by omega⟩) hfb)
    exact ⟨_, _, rfl, by omega, by omega⟩
  · rw [if_pos hs] at h ⊢
    injection h with h _
    injection h with h1 h2
    exact ⟨_, _, rfl, by omega, by omega⟩
/-! Windows. -/
theorem seen_add (l : List Look) (s : Look) (k : Nat) : seenS l k ≤ seenS (l ++ [s]) k := by
  unfold seenS
  rw [List.foldl_append]
  show _ ≤ (if ibit s.there k then max _ s.h else _)
  split <;> omega
theorem gone_add (l : List Look) (s : Look) (k : Nat) : goneS (l ++ [s]) k ≤ goneS l k := by
  unfold goneS
  rw [List.foldl_append]
  show (if ibit s.gone k then min _ s.h else _) ≤ _
  split <;> omega
theorem winS_of {t : Tl} {k : Int} (ok : okTale t = true) (hk : inS k 0 (t.n - 1) = true) : winS t k = if goneS t.looks k.toNat ≤ seenS t.looks k.toNat then ⟨0, 0, false, 6⟩ else if seenS t.looks k.toNat = mxH then ⟨0, 0, false, 0⟩ else
  ⟨seenS t.looks k.toNat, min (goneS t.looks k.toNat) mxH - 1, decide (goneS t.looks k.toNat ≤ mxH), 0⟩ := by unfold winS; rw [ok, hk]; rfl
theorem win_more {t : Tl} {s : Look} {k : Int} (h : (winS (addL t s) k).e = 0) : (winS t k).e = 0 ∧ ((winS t k).gone = true → (winS (addL t s) k).gone = true) ∧
    (¬ ((winS (addL t s) k).lo = 0 ∧ (winS (addL t s) k).hi = 0) → (winS t k).lo ≤ (winS (addL t s) k).lo ∧ (winS (addL t s) k).hi ≤ (winS t k).hi) := by
  have h1 := seen_add t.looks s k.toNat
  have h2 := gone_add t.looks s k.toNat
  have hx : okTale (addL t s) = true := ne_false fun e => by
    have e2 : winS (addL t s) k = ⟨0, 0, false, 1⟩ := by unfold winS; rw [e]; rfl
    rw [e2] at h; exact absurd h (by decide)
  have hok := add_ok hx
  have ok := okT_of hx
  have ok' := okT_of hok
  have h3 := seenS_le (l := t.looks ++ [s]) (k := k.toNat) fun x hx => (ok.hours x hx).2
  cases hk : inS k 0 (t.n - 1)
  · exfalso
    have e : winS (addL t s) k = ⟨0, 0, false, 2⟩ := by unfold winS; rw [hx, show inS k 0 ((addL t s).n - 1) = false from hk]; rfl
    rw [e] at h
    exact absurd h (by decide)
  · rw [winS_of hx (show inS k 0 ((addL t s).n - 1) = true from hk), show (addL t s).looks = t.looks ++ [s] from rfl] at h ⊢
    rw [winS_of hok hk]
    by_cases e1 : goneS (t.looks ++ [s]) k.toNat ≤ seenS (t.looks ++ [s]) k.toNat
    · rw [if_pos e1] at h; exact absurd h (by decide)
    · rw [if_neg e1] at h ⊢
      rw [if_neg (by omega)]
      by_cases e2 : seenS (t.looks ++ [s]) k.toNat = mxH
      · rw [if_pos e2]
        by_cases e3 : seenS t.looks k.toNat = mxH
        · rw [if_pos e3]; exact ⟨rfl, fun h => h, fun h => absurd ⟨rfl, rfl⟩ h⟩
        · rw [if_neg e3]
          refine ⟨rfl, fun h => ?_, fun h => absurd ⟨rfl, rfl⟩ h⟩
          have h : goneS t.looks k.toNat ≤ mxH := of_decide_eq_true h
          omega
      · rw [if_neg e2, if_neg (by omega)]
        refine ⟨rfl, fun h => ?_, fun _ => ?_⟩
        · have h : goneS t.looks k.toNat ≤ mxH := of_decide_eq_true h
          exact decide_eq_true (by omega)
        · show seenS t.looks k.toNat ≤ seenS (t.looks ++ [s]) k.toNat ∧ min (goneS (t.looks ++ [s]) k.toNat) mxH - 1 ≤ min (goneS t.looks k.toNat) mxH - 1
          omega
/-! What clashes. -/
theorem clashL_add (t : Tl) (s : Look) : ∀ i : Nat, i ≤ t.looks.length → clashL (addL t s) i = clashL t i
  | 0, _ => rfl
  | i + 1, h => by
    rw [clashL_step, clashL_step, clashL_add t s i (by omega)]
    have e : (addL t s).looks.take (i + 1) = t.looks.take (i + 1) := by show (t.looks ++ [s]).take (i + 1) = _; rw [List.take_append_of_le_length h]
    rw [e]; rfl
theorem clashS_of {t : Tl} (ok : okTale t = true) : clashS t = match clashL t t.looks.length with
    | some i => ((i : Int), 0)
    | none => if fitB t = false then ((t.looks.length : Int), 0) else (0, 4) := by unfold clashS; rw [ok]; rfl
theorem clash_more {t : Tl} {s : Look} {c : Int} (h : clashS t = (c, 0)) (hx : okTale (addL t s) = true) : ∃ d, clashS (addL t s) = (d, 0) ∧ (c = d ∨ (c = t.looks.length ∧ d = ((t.looks.length + 1 : Nat) : Int))) := by
  have hok := add_ok hx
  rw [clashS_of hok] at h
  rw [clashS_of hx]
  have hl : (addL t s).looks.length = t.looks.length + 1 := by show (t.looks ++ [s]).length = _; simp
  have e := clashL_add t s t.looks.length (Nat.le_refl _)
  rw [hl]
  cases hc : clashL t t.looks.length with
  | some i =>
    rw [hc] at h e
    injection h with h _
    rw [clash_mono e 1]
    exact ⟨_, rfl, .inl (by rw [← h])⟩
  | none =>
    rw [hc] at h e
    have h : (if fitB t = false then ((t.looks.length : Int), (0 : Int)) else (0, 4)) = (c, 0) := h
    by_cases hf : fitB t = false
    · rw [if_pos hf] at h
      injection h with h _
      subst h
      have hf' : fitB (addL t s) = false := by
        cases e : fitB (addL t s) with
        | false => rfl
        | true => rw [fit_add (okT_of hx) (okT_of hok) e] at hf; cases hf
      have ho : clashL (addL t s) (t.looks.length + 1) = some t.looks.length ∨ clashL (addL t s) (t.looks.length + 1) = none := by
        rw [clashL_step, e]
        dsimp only
        split
        · exact .inl rfl
        · exact .inr rfl
      rcases ho with ho | ho
      · rw [ho]; exact ⟨_, rfl, .inl rfl⟩
      · rw [ho]
        dsimp only
        rw [if_pos hf']; exact ⟨_, rfl, .inr ⟨rfl, rfl⟩⟩
    · rw [if_neg hf] at h; injection h with _ h; cases h
/-! Bits. -/
theorem i64_andNot_nat (a b : Nat) (ha : a < 9223372036854775808) (hb : b < 9223372036854775808) : Go.bits .andNot .i64 (a : Int) (b : Int) = ((a &&& (2 ^ 64 - (b + 1)) : Nat) : Int) := by
  have hx : a &&& (2 ^ 64 - (b + 1)) < 2 ^ 63 := Nat.lt_of_le_of_lt Nat.and_le_left (by omega)
  have h1 : (BitVec.ofInt 64 (a : Int)).toNat = a := by
    rw [BitVec.ofInt_natCast, BitVec.toNat_ofNat]; exact Nat.mod_eq_of_lt (by omega)
  have h2 : (BitVec.ofInt 64 (b : Int)).toNat = b := by
    rw [BitVec.ofInt_natCast, BitVec.toNat_ofNat]; exact Nat.mod_eq_of_lt (by omega)
  show IntKind.i64.wrap ((BitVec.ofInt 64 (a : Int) &&& ~~~BitVec.ofInt 64 (b : Int)).toNat : Int) = _
  rw [BitVec.toNat_and, BitVec.toNat_not, h1, h2, show 2 ^ 64 - 1 - b = 2 ^ 64 - (b + 1) by omega, IntKind.wrap_i64]
  omega
theorem andNot_sub {a b : Nat} (ha : a < 256) (hb : b < 256) (h : ∀ p, has b p = true → has a p = true) : Go.bits .andNot .i64 (b : Int) (a : Int) = 0 := by
  rw [i64_andNot_nat _ _ (by omega) (by omega)]
  have : b &&& (2 ^ 64 - (a + 1)) = 0 := bits_eq fun p => by
    rw [Nat.testBit_and, Nat.testBit_two_pow_sub_succ (by omega), Nat.zero_testBit]
    cases hp : b.testBit p
    · rfl
    · have := h p hp
      unfold has at this
      rw [this]; simp
  rw [this]; rfl
theorem who_lt (t : Tl) (k : Int) : (whoS t k).1 < 256 := by
  unfold whoS
  split
  · decide
  · split
    · decide
    · split
      · decide
      · exact setB_lt _ 8
end Go.Proofs.YtkcfpnpejaekjaaDoor
