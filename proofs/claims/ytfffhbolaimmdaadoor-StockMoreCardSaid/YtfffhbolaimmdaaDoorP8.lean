import Derived.Test.YtfffhbolaimmdaaDoorP7
namespace Go.Proofs.YtfffhbolaimmdaaDoor
open Go.RowKit
def bring1 (s : Store) (i : Nat) : Int := (wishAt s i).many * (wishAt s i).price
def bring2 (s : Store) (i : Nat) : Int := -(wishAt s i).many * (licAt s i).fee
def bringS (s : Store) (i : Nat) : Int := bring1 s i + bring2 s i + -(wishAt s i).ship
def bringF (s : Store) (i : Nat) : Nat → Int
  | 0 => bring1 s i
  | 1 => bring2 s i
  | _ => -(wishAt s i).ship
theorem bring_bd {s : Store} (ok : Ok s) {i : Nat} (hi : i < s.wishes.length) : (0 ≤ bring1 s i ∧ bring1 s i ≤ 10000000) ∧ (-10000000 ≤ bring2 s i ∧ bring2 s i ≤ 0) ∧ (-100000 ≤ -(wishAt s i).ship ∧ -(wishAt s i).ship ≤ 0) := by
  have h1 := ok.wishOk hi
  have h2 := ok.lic _ (licAt_mem ok hi)
  have h3 := mul_bd (a := (wishAt s i).many) (b := (wishAt s i).price) (A := 1000) (B := 10000) (by omega) (by omega) (by omega) (by omega)
  have h4 := mul_bd (a := (wishAt s i).many) (b := (licAt s i).fee) (A := 1000) (B := 10000) (by omega) (by omega) (by omega) (by omega)
  unfold bring1 bring2
  rw [Int.neg_mul]
  omega
theorem bringF_bd {s : Store} (ok : Ok s) {i : Nat} (hi : i < s.wishes.length) (k : Nat) (hk : k < 3) : -1000000000000 ≤ bringF s i k ∧ bringF s i k ≤ 1000000000000 := by
  obtain ⟨h1, h2, h3⟩ := bring_bd ok hi
  match k, hk with
  | 0, _ => simp only [bringF]; omega
  | 1, _ => simp only [bringF]; omega
  | 2, _ => simp only [bringF]; omega
theorem at3 {w : World} {g : Nat} {a b c : Int} {f : Nat → Int} {t : TypeId} (hg : g = w.heap.size) (h0 : f 0 = a) (h1 : f 1 = b) (h2 : f 2 = c) :
    At (w.alloc (.cells #[.int .i64 a, .int .i64 b, .int .i64 c] t)) (g + 1) 1 icell (some ⟨g, 0, none⟩) (tab 3 f) := fun k x hx => by
  subst hg
  obtain ⟨hk, rfl⟩ := tab_get 3 f k x hx
  refine ⟨_, 0, rfl, by omega, fun j u hu => ?_⟩
  match j, hu with
  | 0, hu =>
    cases hu
    match k, hk with
    | 0, _ => rw [h0]; simp [go_sem]
    | 1, _ => rw [h1]; simp [go_sem]
    | 2, _ => rw [h2]; simp [go_sem]
/-- A wish that lies in a block of its own. -/
structure WBox (w : World) (b : Nat) (x : Wish) : Prop where
  lt : b < w.heap.size
  c0 : w.cell? ⟨b, 0, none⟩ = some (.int .i64 x.puz)
  c1 : w.cell? ⟨b, 1, none⟩ = some (.int .i64 x.many)
  c2 : w.cell? ⟨b, 2, none⟩ = some (.int .i64 x.hour)
  c3 : w.cell? ⟨b, 3, none⟩ = some (.int .i64 x.price)
  c4 : w.cell? ⟨b, 4, none⟩ = some (.int .i64 x.ship)
theorem WBox.new {w : World} {g : Nat} (hg : g = w.heap.size) (x : Wish) (t : TypeId) : WBox (w.alloc (.cells #[.int .i64 x.puz, .int .i64 x.many, .int .i64 x.hour, .int .i64 x.price, .int .i64 x.ship] t)) g x := by
  subst hg
  exact ⟨by simp, by simp [go_sem], by simp [go_sem], by simp [go_sem], by simp [go_sem], by simp [go_sem]⟩
theorem WBox.next {w w' : World} {b : Nat} {x : Wish} (h : WBox w b x) (hb : Below w.heap.size w w') : WBox w' b x :=
  ⟨Nat.lt_of_lt_of_le h.lt hb.size, (hb.cell (p := ⟨b, 0, none⟩) h.lt).trans h.c0, (hb.cell (p := ⟨b, 1, none⟩) h.lt).trans h.c1, (hb.cell (p := ⟨b, 2, none⟩) h.lt).trans h.c2, (hb.cell (p := ⟨b, 3, none⟩) h.lt).trans h.c3, (hb.cell (p := ⟨b, 4, none⟩) h.lt).trans h.c4⟩
theorem sum3 (f : Nat → Int) : sumTo 3 f = f 0 + f 1 + f 2 := by simp only [sumTo]; omega
set_option maxHeartbeats 400000 in
theorem brings_any (s : Store) (i : Nat) (w : World) (ok : Ok s) (hi : i < s.wishes.length) (hr : StoreAt w w.heap.size s) :
    Calls Tryd.prog 47 #[.agg #[.slice s.A1 s.sheets.length s.c1, .slice s.A2 s.lics.length s.c2, .slice s.A3 s.makes.length s.c3, .slice s.A4 s.wishes.length s.c4], .agg #[.int .i64 (wishAt s i).puz, .int .i64 (wishAt s i).many, .int .i64 (wishAt s i).hour, .int .i64 (wishAt s i).price, .int .i64 (wishAt s i).ship]] w
      (Ret (.int .i64 (bringS s i)) w) := by
  have hb0 := ((Below.refl w.heap.size w).alloc (Nat.le_refl _) (.cells #[.slice s.A1 s.sheets.length s.c1, .slice s.A2 s.lics.length s.c2, .slice s.A3 s.makes.length s.c3, .slice s.A4 s.wishes.length s.c4] 72)).alloc (by simp) (.cells #[.int .i64 (wishAt s i).puz, .int .i64 (wishAt s i).many, .int .i64 (wishAt s i).hour, .int .i64 (wishAt s i).price, .int .i64 (wishAt s i).ship] 57)
  have hr0 := Lib.hid (hr.next hb0)
  have hbd := bring_bd ok hi
  have hw := ok.wishOk hi
  have hl := ok.lic _ (licAt_mem ok hi)
  have Hb := Lib.hid hb0
  have hw0 := WBox.new (w := w.alloc (.cells #[.slice s.A1 s.sheets.length s.c1, .slice s.A2 s.lics.length s.c2, .slice s.A3 s.makes.length s.c3, .slice s.A4 s.wishes.length s.c4] 72)) (g := w.heap.size + 1) (by simp) (wishAt s i) 57
  clear hr hb0
  go_enter Tryd.func47, Tryd.ntmps47
  go_wp2_with fail
  refine (licence_any s i _ ok hi hr0.out).mono ?_
  rintro e w1 ⟨rfl, hb1⟩
  have Hb2 := Lib.hid (Hb.out.trans (hb1.mono Hb.out.size))
  obtain ⟨hz, c0, c1, c2, c3, c4⟩ := (hw0.next hb1)
  clear hb1 Hb hr0 hw0 c0 c2
  obtain ⟨q1, q2, q3⟩ := hbd
  have HF := Lib.hid (bringF_bd ok hi)
  have E := Lib.hid (show bringS s i = sumTo 3 (bringF s i) from by rw [sum3]; rfl)
  unfold bring1 at q1
  unfold bring2 at q2
  go_wp2_with fail
  refine (sum_any _ _ 3 _ (bringF s i) _ (by omega) (at3 (by simp) rfl rfl rfl) ?_).mono ?_
  · exact HF.out
  rintro e w2 ⟨rfl, rfl⟩
  go_wp2
  go_ret
  rw [E.out]
  exact ⟨rfl, (Hb2.out.alloc Hb2.out.size _).alloc (by have := Hb2.out.size; simp; omega) _⟩
end Go.Proofs.YtfffhbolaimmdaaDoor
