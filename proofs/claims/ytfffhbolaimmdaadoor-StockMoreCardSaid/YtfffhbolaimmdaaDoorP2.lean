import Derived.Test.YtfffhbolaimmdaaDoorP1
import Derived.Laws.EntriesVeiled
namespace Go.Proofs.YtfffhbolaimmdaaDoor
open Go.RowKit
theorem not_any {α : Type} (l : List α) (p q : α → Bool) (h : ∀ x, p x = !q x) : l.any p = !l.all q := by
  rw [List.all_eq_not_any_not]; simp only [Bool.not_not]; congr 1; funext x; exact h x
theorem isStore_eq (s : Store) : storeS s = (inS s.sheets.length 1 4 && (inS s.lics.length 1 5 && (inS s.makes.length 1 6 && (decide ((s.wishes.length : Int) ≤ 9) && (!(s.sheets.any badSheet) && (!(s.lics.any badLic) && (!(s.makes.any (badMake s)) && !(s.wishes.any (badWish s))))))))) := by
  rw [not_any s.sheets badSheet Sheet.ok (fun _ => rfl), not_any s.lics badLic Licence.ok (fun _ => rfl), not_any s.makes (badMake s) (Make.ok s.lics.length s.sheets.length) (fun _ => rfl), not_any s.wishes (badWish s) (Wish.ok s.makes.length) (fun _ => rfl)]
  unfold storeS sheetsS licsS makesS
  generalize s.sheets.all _ = a, s.lics.all _ = b, s.makes.all _ = c, s.wishes.all _ = d
  generalize inS _ 1 4 = e, inS _ 1 5 = f, inS _ 1 6 = g, decide ((s.wishes.length : Int) ≤ 9) = h
  cases a <;> cases b <;> cases c <;> cases d <;> cases e <;> cases f <;> cases g <;> cases h <;> rfl
theorem fkeep {W W' : World} {b : Nat} {v : Value} (h : b < W.heap.size ∧ W.cell? ⟨b, 0, none⟩ = some v) (hb : Below W.heap.size W W') : b < W'.heap.size ∧ W'.cell? ⟨b, 0, none⟩ = some v :=
  ⟨Nat.lt_of_lt_of_le h.1 hb.size, (hb.cell (p := ⟨b, 0, none⟩) h.1).trans h.2⟩
set_option maxHeartbeats 1000000 in
theorem isStore_any (s : Store) (w : World) (hr : StoreAt w w.heap.size s) : Calls Tryd.prog 52 #[.agg #[.slice s.A1 s.sheets.length s.c1, .slice s.A2 s.lics.length s.c2, .slice s.A3 s.makes.length s.c3, .slice s.A4 s.wishes.length s.c4]] w (Ret (.bool (storeS s)) w) := by
  have l1 := hr.l1
  have l2 := hr.l2
  have l3 := hr.l3
  have l4 := hr.l4
  have hb0 := ((Below.refl w.heap.size w).alloc (Nat.le_refl _) (.cells #[.slice s.A1 s.sheets.length s.c1, .slice s.A2 s.lics.length s.c2, .slice s.A3 s.makes.length s.c3, .slice s.A4 s.wishes.length s.c4] 27)).alloc (by simp) (.cells #[.func (.func 71) #[] #[]] 111)
  have hx0 := (SBox.new w s 27).next ((Below.refl _ _).alloc (Nat.le_refl _) (.cells #[.func (.func 71) #[] #[]] 111))
  have hf0 : w.heap.size + 1 < ((w.alloc (.cells #[.slice s.A1 s.sheets.length s.c1, .slice s.A2 s.lics.length s.c2, .slice s.A3 s.makes.length s.c3, .slice s.A4 s.wishes.length s.c4] 27)).alloc (.cells #[.func (.func 71) #[] #[]] 111)).heap.size ∧ ((w.alloc (.cells #[.slice s.A1 s.sheets.length s.c1, .slice s.A2 s.lics.length s.c2, .slice s.A3 s.makes.length s.c3, .slice s.A4 s.wishes.length s.c4] 27)).alloc (.cells #[.func (.func 71) #[] #[]] 111)).cell? ⟨w.heap.size + 1, 0, none⟩ = some (.func (.func 71) #[] #[]) := ⟨by simp, by simp [go_sem]⟩
  have hr0 := hr.next hb0
  go_enter Tryd.func52, Tryd.ntmps52
  go_wp2_with fail
  generalize ((w.alloc (.cells #[.slice s.A1 s.sheets.length s.c1, .slice s.A2 s.lics.length s.c2, .slice s.A3 s.makes.length s.c3, .slice s.A4 s.wishes.length s.c4] 27)).alloc (.cells #[.func (.func 71) #[] #[]] 111)) = W at *
  have hbr : Below W.heap.size W W := Below.refl _ _
  obtain ⟨hz, c0, c1, c2, c3⟩ := id hx0
  have Hx := Lib.hid hx0
  have Hr := Lib.hid hr0
  have Hf := Lib.hid hf0
  have Hb := Lib.hid hb0
  have HE := Lib.hid (isStore_eq s)
  clear hr hb0 hx0 hr0 hf0
  go_wp2_with (first
    | (go_at_call 59; (with_reducible refine (within_any _ _ _ _).mono ?_); rintro e w' ⟨rfl, rfl⟩; generalize hq : inS _ _ _ = q; cases q)
    | (go_at_call 75; (with_reducible refine (contains75_any _ _ _ _ (Hr.out.next hbr).sheets l1).mono ?_); rintro e w1 ⟨rfl, hb1⟩; obtain ⟨hc1, hf1⟩ := bcell hb1; have hz1 := hb1.size; replace hbr := hbr.trans (hb1.mono hbr.size); obtain ⟨hcr, hfr⟩ := bcell hbr; generalize hq : List.any _ badSheet = q; cases q)
    | (go_at_call 76; (with_reducible refine (contains76_any _ _ _ _ (Hr.out.next hbr).lics l2).mono ?_); rintro e w1 ⟨rfl, hb1⟩; obtain ⟨hc1, hf1⟩ := bcell hb1; have hz1 := hb1.size; replace hbr := hbr.trans (hb1.mono hbr.size); obtain ⟨hcr, hfr⟩ := bcell hbr; generalize hq : List.any _ badLic = q; cases q)
    | (go_at_call 77; (with_reducible refine (contains77_any s _ _ _ _ _ _ (Hr.out.next hbr).makes l3 (Hx.out.next hbr) (fkeep Hf.out hbr) l1 l2 (Hr.out.next hbr).takes).mono ?_); rintro e w1 ⟨rfl, hb1⟩; obtain ⟨hc1, hf1⟩ := bcell hb1; have hz1 := hb1.size; replace hbr := hbr.trans (hb1.mono hbr.size); obtain ⟨hcr, hfr⟩ := bcell hbr; generalize hq : List.any _ (badMake s) = q; cases q)
    | (go_at_call 78; (with_reducible refine (contains78_any s _ _ _ _ _ (Hr.out.next hbr).wishes l4 (Hx.out.next hbr) l3).mono ?_); rintro e w1 ⟨rfl, hb1⟩; obtain ⟨hc1, hf1⟩ := bcell hb1; have hz1 := hb1.size; replace hbr := hbr.trans (hb1.mono hbr.size); obtain ⟨hcr, hfr⟩ := bcell hbr; generalize hq : List.any _ (badWish s) = q; cases q))
  all_goals (go_ret; exact ret_bool (by rw [HE.out]; first | (simp [*]; done) | (simp [*]; intro h; omega)) (Hb.out.trans (hbr.mono Hb.out.size)))
end Go.Proofs.YtfffhbolaimmdaaDoor
