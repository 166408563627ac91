import Derived.Test.YtkcfpnpejaekjaaDoorP1
namespace Go.Proofs.YtkcfpnpejaekjaaDoor
open Go.RowKit
/-! The law: is a tale far beyond what can be? And the two small closures. -/
def farS (t : Tl) : Bool := decide ((17 : Int) < t.loans.length) || (decide ((25 : Int) < t.looks.length) || decide ((11 : Int) < t.admits.length))
theorem far_any (m : Mt) (w : World) : Calls Tryd.prog 12 #[.agg #[.int .i64 m.t.n, .slice m.A1 m.t.loans.length m.c1, .slice m.A2 m.t.looks.length m.c2, .slice m.A3 m.t.admits.length m.c3]] w (Ret (.bool (farS m.t)) w) := by
  have HD := Lib.hid (show farS m.t = (decide ((17 : Int) < m.t.loans.length) || (decide ((25 : Int) < m.t.looks.length) || decide ((11 : Int) < m.t.admits.length))) from rfl)
  have HB := Lib.hid (nxA w (.cells #[.int .i64 m.t.n, .slice m.A1 m.t.loans.length m.c1, .slice m.A2 m.t.looks.length m.c2, .slice m.A3 m.t.admits.length m.c3] 26))
  cases a1 : decide ((17 : Int) < m.t.loans.length) <;> cases a2 : decide ((25 : Int) < m.t.looks.length) <;> cases a3 : decide ((11 : Int) < m.t.admits.length)
  all_goals
    go_enter Tryd.func12, Tryd.ntmps12
    go_wp2
    go_ret
    exact ret_bool (by rw [HD.out]; simp [*]) HB.out
theorem whoF_any (m : Mt) (p : Int) (bp bt : Nat) (w : World) (hp : Bx w bp [.int .i64 p]) (ht : Bx w bt m.cells) (hn : 1 ≤ m.t.n ∧ m.t.n ≤ 16) : Calls Tryd.prog 40 #[.pointer (some ⟨bp, 0, none⟩), .pointer (some ⟨bt, 0, none⟩)] w (RetQ (.bool (inS p 0 (m.t.n - 1))) w) := by
  have c0 := hp.c 0 _ rfl
  have t0 := ht.c 0 _ rfl
  have l0 := hp.lt
  have l1 := ht.lt
  clear hp ht
  go_enter Tryd.func40, Tryd.ntmps40
  go_wp2_with (go_at_call 31; (with_reducible refine (within_any _ _ _ _).mono ?_); rintro e w' ⟨rfl, rfl⟩)
  go_ret
  exact retq_bool rfl
theorem lostF_any (m : Mt) (p : Int) (bp bt : Nat) (w : World) (hp : Bx w bp [.int .i64 p]) (ht : Bx w bt m.cells) (l3 : m.t.admits.length ≤ 9223372036854775807) : Calls Tryd.prog 46 #[.pointer (some ⟨bp, 0, none⟩), .pointer (some ⟨bt, 0, none⟩)] w (RetQ (.bool (inS p 0 ((m.t.admits.length : Int) - 1))) w) := by
  have c0 := hp.c 0 _ rfl
  have t0 := ht.c 3 _ rfl
  have l0 := hp.lt
  have l1 := ht.lt
  clear hp ht
  go_enter Tryd.func46, Tryd.ntmps46
  go_wp2_with (go_at_call 31; (with_reducible refine (within_any _ _ _ _).mono ?_); rintro e w' ⟨rfl, rfl⟩)
  go_ret
  exact retq_bool rfl
end Go.Proofs.YtkcfpnpejaekjaaDoor
