import Derived.Test.YtkcfpnpejaekjaaDoorP9
import Derived.Defers
import Derived.Recover
import Derived.Laws.Pointers
namespace Go.Proofs.YtkcfpnpejaekjaaDoor
open Go.RowKit
/-! The program: open. -/
set_option maxRecDepth 100000 in
set_option maxHeartbeats 1000000 in
theorem open1_panicking (b : Nat) (x : Bool) (older : List PanicEntry) (w : World) (hc : w.cell? ⟨b, 0, none⟩ = some (.bool x)) (hz : w.frozen? ⟨b, 0, none⟩ = false) (hb : b < w.heap.size) :
    CallsD Tryd.prog 66 #[.pointer (some ⟨b, 0, none⟩)] (.panicking ({ v := .iface 95 (.agg #[]), recovered := false } :: older)) w fun e u' w' =>
      e = .returned (.tuple #[]) ∧ u' = .panicking ({ v := .iface 95 (.agg #[]), recovered := true } :: older) ∧ w' = (w.setCell ⟨b, 0, none⟩ (.bool false)).alloc (.cells #[] 95) := by
  refine callsD_of_wpS Tryd.func66 rfl fun c₀ cs hu => ?_
  apply wpS_seq
  apply wpS_region
  simp [wpOpsS, go_sem, recoverD, hu, Tryd.ntmps66, Exit.thenS]
  refine wpS_of_wp ?_
  change Code.wp _ _ _ { tmps := #[.pointer (some ⟨b, 0, none⟩), .iface 95 (.agg #[]), undef, undef, .iface 95 (.agg #[]), undef, undef, undef, undef, undef, undef, undef, undef, undef, undef], defers := [] } w
  have hne : ∀ W : World, (binOp .neq 20 (.iface 95 (.agg #[])) .nilIface).run Tryd.prog W = .ok (.bool true) W := fun W => by kernel_rfl
  have hta : ∀ W : World, (Instr.typeAssert (.iface 95 (.agg #[])) 20 95 true).run Tryd.prog W = .ok (.tuple #[.agg #[], .bool true]) W := fun W => by kernel_rfl
  go_wp2_with fail
  cases c₀
  simp_all [bodyPostS, results, Tryd.results66]
theorem open1_idle (p : Addr) (w : World) :
    CallsD Tryd.prog 66 #[.pointer (some p)] .returning w fun e u' w' => e = .returned (.tuple #[]) ∧ u' = .returning ∧ w' = w := by
  refine callsD_of_wpS Tryd.func66 rfl fun c₀ cs hu => ?_
  apply wpS_seq
  apply wpS_region
  simp [wpOpsS, go_sem, recoverD, hu, Tryd.ntmps66, Exit.thenS]
  refine wpS_of_wp ?_
  go_wp2
  cases c₀
  simp_all [bodyPostS, results, Tryd.results66]
theorem bk_set (m : Mt) (g : Nat → Nat) {k : Nat} (hk : k < 16) (x : Nat) : (bkA m g).toList.set (4 + k) (.int .i64 (x : Int)) = (bkA m (fun i => if i = k then x else g i)).toList := by
  have : k = 0 ∨ k = 1 ∨ k = 2 ∨ k = 3 ∨ k = 4 ∨ k = 5 ∨ k = 6 ∨ k = 7 ∨ k = 8 ∨ k = 9 ∨ k = 10 ∨ k = 11 ∨ k = 12 ∨ k = 13 ∨ k = 14 ∨ k = 15 := by omega
  rcases this with rfl | rfl | rfl | rfl | rfl | rfl | rfl | rfl | rfl | rfl | rfl | rfl | rfl | rfl | rfl | rfl <;> rfl
/-- What open lays: who can have lost each piece. -/
def opG (t : Tl) (k : Nat) : Nat → Nat := fun i => if i < k then susp t.loans t.looks i else 0
def emptyW (t : Tl) (k : Nat) : Prop := goneS t.looks k ≤ seenS t.looks k
def RetOp (m : Mt) (w : World) (e : Ending) (w' : World) : Prop := Below w.heap.size w w' ∧
  (((∀ k, k < m.t.n.toNat → ¬ emptyW m.t k) ∧ e = .returned (.tuple #[.agg (bkA m (opG m.t m.t.n.toNat)), .bool true])) ∨ ((∃ k, k < m.t.n.toNat ∧ emptyW m.t k) ∧ ∃ g, e = .returned (.tuple #[.agg (bkA m g), .bool false])))
structure ROp (m : Mt) (w : World) (k : Nat) (W : World) : Prop where
  hk : k ≤ m.t.n.toNat
  b : Below w.heap.size w W
  x1 : Bx W w.heap.size m.cells
  x2 : Bx W (w.heap.size + 1) (bkA m (opG m.t k)).toList
  x3 : Bx W (w.heap.size + 1 + 1) [.bool false]
  ne : ∀ q, q < k → ¬ emptyW m.t q
theorem loadB {w : World} {b : Nat} {x : Bool} (h : Bx w b [.bool x]) : (loadVar 4 ⟨b, 0, none⟩).run Tryd.prog w = .ok (.bool x) w := by
  have c0 := h.c 0 _ rfl
  clear h
  go_simp
theorem wset_eq (b : Nat) : ∀ (vs : List Value) (o : Nat) (W : World), W.setCells b o vs = setCells W b o vs
  | [], _, _ => rfl
  | _ :: vs, o, _ => wset_eq b vs (o + 1) _
set_option maxRecDepth 100000 in
set_option maxHeartbeats 2000000 in
theorem open_any (m : Mt) (w : World) (hr : TaleAt w w.heap.size m) (ok : OkT m.t) : Calls Tryd.prog 49 #[.agg #[.int .i64 m.t.n, .slice m.A1 m.t.loans.length m.c1, .slice m.A2 m.t.looks.length m.c2, .slice m.A3 m.t.admits.length m.c3]] w (RetOp m w) := by
  have hmf : ∀ (fn : Fn) (first cap : Array Value) (w : World), (Instr.makeFunc fn first cap).run Tryd.prog w = .ok (.func fn first cap) w := fun _ _ _ _ => rfl
  have OK := Lib.hid ok
  have n1 := nxA w (.cells #[.int .i64 m.t.n, .slice m.A1 m.t.loans.length m.c1, .slice m.A2 m.t.looks.length m.c2, .slice m.A3 m.t.admits.length m.c3] 26)
  have y1 := Bx.new w #[.int .i64 m.t.n, .slice m.A1 m.t.loans.length m.c1, .slice m.A2 m.t.looks.length m.c2, .slice m.A3 m.t.admits.length m.c3] 26
  have s1 : (w.alloc (.cells #[.int .i64 m.t.n, .slice m.A1 m.t.loans.length m.c1, .slice m.A2 m.t.looks.length m.c2, .slice m.A3 m.t.admits.length m.c3] 26)).heap.size = w.heap.size + 1 := by simp
  have HR := Lib.hid hr
  clear hr ok
  go_enter_defers Tryd.func49, Tryd.ntmps49
  go_upto_region 2 with fail
  generalize w.alloc (.cells #[.int .i64 m.t.n, .slice m.A1 m.t.loans.length m.c1, .slice m.A2 m.t.looks.length m.c2, .slice m.A3 m.t.admits.length m.c3] 26) = V1 at *
  have n2 := nxA V1 (.cells #[.int .i64 0, .slice none 0 0, .slice none 0 0, .slice none 0 0, .int .i64 0, .int .i64 0, .int .i64 0, .int .i64 0, .int .i64 0, .int .i64 0, .int .i64 0, .int .i64 0, .int .i64 0, .int .i64 0, .int .i64 0, .int .i64 0, .int .i64 0, .int .i64 0, .int .i64 0, .int .i64 0] 69)
  have y2 := Bx.new V1 #[.int .i64 0, .slice none 0 0, .slice none 0 0, .slice none 0 0, .int .i64 0, .int .i64 0, .int .i64 0, .int .i64 0, .int .i64 0, .int .i64 0, .int .i64 0, .int .i64 0, .int .i64 0, .int .i64 0, .int .i64 0, .int .i64 0, .int .i64 0, .int .i64 0, .int .i64 0, .int .i64 0] 69
  have s2 : (V1.alloc (.cells #[.int .i64 0, .slice none 0 0, .slice none 0 0, .slice none 0 0, .int .i64 0, .int .i64 0, .int .i64 0, .int .i64 0, .int .i64 0, .int .i64 0, .int .i64 0, .int .i64 0, .int .i64 0, .int .i64 0, .int .i64 0, .int .i64 0, .int .i64 0, .int .i64 0, .int .i64 0, .int .i64 0] 69)).heap.size = w.heap.size + 1 + 1 := by simp [s1]
  generalize V1.alloc (.cells #[.int .i64 0, .slice none 0 0, .slice none 0 0, .slice none 0 0, .int .i64 0, .int .i64 0, .int .i64 0, .int .i64 0, .int .i64 0, .int .i64 0, .int .i64 0, .int .i64 0, .int .i64 0, .int .i64 0, .int .i64 0, .int .i64 0, .int .i64 0, .int .i64 0, .int .i64 0, .int .i64 0] 69) = V2 at *
  have n3 := nxA V2 (.cells #[.bool false] 4)
  have y3 := Bx.new V2 #[.bool false] 4
  generalize V2.alloc (.cells #[.bool false] 4) = V3 at *
  rw [s1] at y2
  rw [s2] at y3
  have x1 := (y1.next n2).next n3
  have x2 := y2.next n3
  have x3 := y3
  have HB := Lib.hid (n1.trans ((n2.trans (n3.mono n2.size)).mono n1.size))
  clear n1 n2 n3 y1 y2 y3 s1 s2
  have c0 := x1.c 0 _ rfl
  have c1 := x1.c 1 _ rfl
  have c2 := x1.c 2 _ rfl
  have c3 := x1.c 3 _ rfl
  have d0 := x2.c 0 _ rfl
  have d1 := x2.c 1 _ rfl
  have d2 := x2.c 2 _ rfl
  have d3 := x2.c 3 _ rfl
  have f0 := x2.fr 0
  have f1 := x2.fr 1
  have f2 := x2.fr 2
  have f3 := x2.fr 3
  have l1 := x1.lt
  have l2 := x2.lt
  have H0 := Lib.hid (show ROp m w 0 ((((V3.setCell ⟨w.heap.size + 1, 0, none⟩ (.int .i64 m.t.n)).setCell ⟨w.heap.size + 1, 1, none⟩ (.slice m.A1 m.t.loans.length m.c1)).setCell ⟨w.heap.size + 1, 2, none⟩ (.slice m.A2 m.t.looks.length m.c2)).setCell ⟨w.heap.size + 1, 3, none⟩ (.slice m.A3 m.t.admits.length m.c3)) from by
    refine ⟨by omega, ?_, ?_, ?_, ?_, fun q hq => by omega⟩
    · exact ((((HB.out.setCell (p := ⟨w.heap.size + 1, 0, none⟩) (by show w.heap.size ≤ w.heap.size + 1; omega) _).setCell (p := ⟨w.heap.size + 1, 1, none⟩) (by show w.heap.size ≤ w.heap.size + 1; omega) _).setCell (p := ⟨w.heap.size + 1, 2, none⟩) (by show w.heap.size ≤ w.heap.size + 1; omega) _).setCell (p := ⟨w.heap.size + 1, 3, none⟩) (by show w.heap.size ≤ w.heap.size + 1; omega) _)
    · exact (((x1.other (by omega) _ _).other (by omega) _ _).other (by omega) _ _).other (by omega) _ _
    · have h1 := x2.set (k := 0) (by simp) (.int .i64 m.t.n)
      have h2 := h1.set (k := 1) (by simp) (.slice m.A1 m.t.loans.length m.c1)
      have h3 := h2.set (k := 2) (by simp) (.slice m.A2 m.t.looks.length m.c2)
      have h4 := h3.set (k := 3) (by simp) (.slice m.A3 m.t.admits.length m.c3)
      exact h4
    · exact (((x3.other (by omega) _ _).other (by omega) _ _).other (by omega) _ _).other (by omega) _ _)
  clear x1 x2 x3
  go_upto_region 3 with fail
  clear c0 c1 c2 c3 d0 d1 d2 d3 f0 f1 f2 f3 l1 l2
  generalize (((V3.setCell ⟨w.heap.size + 1, 0, none⟩ (.int .i64 m.t.n)).setCell ⟨w.heap.size + 1, 1, none⟩ (.slice m.A1 m.t.loans.length m.c1)).setCell ⟨w.heap.size + 1, 2, none⟩ (.slice m.A2 m.t.looks.length m.c2)).setCell ⟨w.heap.size + 1, 3, none⟩ (.slice m.A3 m.t.admits.length m.c3) = V4 at *
  obtain ⟨n, hn⟩ : ∃ n : Nat, m.t.n = n := ⟨m.t.n.toNat, by have := OK.out.n1; omega⟩
  have HN := Lib.hid (show m.t.n.toNat = n by omega)
  have hn16 : n ≤ 16 := by have := OK.out.n2; omega
  have c0 := H0.out.x1.c 0 (.int .i64 n) (by rw [← hn]; rfl)
  have l1 := H0.out.x1.lt
  clear hn hmf
  go_wp2_with fail
  clear c0 l1
  have HROP := Lib.hid (fun k W => show ROp m w k W → ROp m w k W from id)
  go_loopw [10] (fun iv wr => ∃ k : Nat, iv = .int .i64 k ∧ ROp m w k wr) (fun iv _ => n - (intOf iv).toNat)
  case atStart => exact ⟨0, rfl, H0.out⟩
  case round =>
    obtain ⟨k, rfl, hop⟩ := hrel
    have HO := Lib.hid hop
    have hk := hop.hk
    rw [HN.out] at hk
    clear hop
    by_cases hlt : k < n
    · have c0 := HO.out.x1.c 0 _ rfl
      have c1 := HO.out.x1.c 1 _ rfl
      have c2 := HO.out.x1.c 2 _ rfl
      have c3 := HO.out.x1.c 3 _ rfl
      have l1 := HO.out.x1.lt
      go_wp2_with fail
      refine (suspects_any m k wr ((HR.out.below HO.out.b).more HO.out.b.size) OK.out (by omega)).mono ?_
      intro e w1 hsu
      clear c0 c1 c2 c3 l1
      by_cases he : emptyW m.t k
      · have h1 : RetSu m k wr e w1 = (e = .panicked [{ v := .iface 95 (.agg #[]), recovered := false }] ∧ Below wr.heap.size wr w1) := if_pos he
        rw [h1] at hsu
        obtain ⟨rfl, hb⟩ := hsu
        dsimp only
        have X3 := Lib.hid (HO.out.x3.next hb)
        have X2 := Lib.hid (HO.out.x2.next hb)
        have HB1 := Lib.hid (HO.out.b.trans (hb.mono HO.out.b.size))
        have HE := Lib.hid he
        clear hb he h1
        go_wp2_with fail
        refine leaves_cons (f := 66) (args := #[.pointer (some ⟨w.heap.size + 1 + 1, 0, none⟩)]) (by simp) (by simp [go_sem]) ?_
        refine (open1_panicking (w.heap.size + 1 + 1) false [] w1 (X3.out.c 0 _ rfl) (X3.out.fr 0) X3.out.lt).mono ?_
        rintro e u' w'' ⟨rfl, rfl, rfl⟩
        have n4 := nxA (w1.setCell ⟨w.heap.size + 1 + 1, 0, none⟩ (.bool false)) (.cells #[] 95)
        have x3 := (X3.out.set (k := 0) (by simp) (.bool false)).next n4
        have x2 := (X2.out.other (g := w.heap.size + 1 + 1) (by omega) 0 (.bool false)).next n4
        have hb5 := HB1.out.setCell (p := ⟨w.heap.size + 1 + 1, 0, none⟩) (by show w.heap.size ≤ w.heap.size + 1 + 1; omega) (.bool false)
        refine ⟨_, results_cells2 rfl rfl rfl (run_loadVar_mid _ _ _ _ _ _ x2.range bk_und rfl (show _ = some (bkA m (opG m.t k)).toList.length from bk_size)) (loadB x3), ?_⟩
        exact ⟨hb5.trans (n4.mono hb5.size), .inr ⟨⟨k, by rw [HN.out]; exact hlt, HE.out⟩, _, rfl⟩⟩
      · have h1 : RetSu m k wr e w1 = Ret (.int .i64 (susp m.t.loans m.t.looks k)) wr e w1 := if_neg he
        rw [h1] at hsu
        obtain ⟨rfl, hb⟩ := hsu
        have X2 := Lib.hid (HO.out.x2.next hb)
        have HE := Lib.hid he
        have hck := X2.out.c _ _ (can_at m (opG m.t k) (k := k) (by omega))
        have hfk := X2.out.fr (4 + k)
        have hl2 := X2.out.lt
        have HF := Lib.hid (show ROp m w (k + 1) (w1.setCell ⟨w.heap.size + 1, 4 + k, none⟩ (.int .i64 (susp m.t.loans m.t.looks k))) from by
          refine ⟨by rw [HN.out]; omega, ?_, (HO.out.x1.next hb).other (by omega) _ _, ?_, (HO.out.x3.next hb).other (by omega) _ _, fun q hq => ?_⟩
          · exact (HO.out.b.trans (hb.mono HO.out.b.size)).setCell (p := ⟨w.heap.size + 1, 4 + k, none⟩) (by show w.heap.size ≤ w.heap.size + 1; omega) _
          · have h2 := X2.out.set (k := 4 + k) (by simp [bkA]; omega) (.int .i64 (susp m.t.loans m.t.looks k))
            rw [bk_set m _ (by omega)] at h2
            rw [show opG m.t (k + 1) = (fun i => if i = k then susp m.t.loans m.t.looks k else opG m.t k i) from by
              funext i; unfold opG
              by_cases e1 : i = k
              · subst e1; rw [if_pos (by omega), if_pos rfl]
              · rw [if_neg e1]
                by_cases e2 : i < k
                · rw [if_pos e2, if_pos (by omega)]
                · rw [if_neg e2, if_neg (by omega)]]
            exact h2
          · by_cases e1 : q = k
            · subst e1; exact HE.out
            · exact HO.out.ne q (by omega))
        clear hb he h1
        generalize susp m.t.loans m.t.looks k = x at *
        go_wp2_with fail
        refine ⟨?_, by simp [intOf]; omega⟩
        exact ⟨k + 1, by go_num, HF.out⟩
    · obtain rfl : k = n := by omega
      have HX2 := Lib.hid HO.out.x2
      obtain ⟨L, hL⟩ : ∃ L, L = (bkA m (opG m.t k)).toList := ⟨_, rfl⟩
      have HL := Lib.hid hL
      have HL20 := Lib.hid (show L.length = 20 from by rw [hL]; rfl)
      have HON := Lib.hid (show L.toArray.all (·.oneCell') = true from by rw [hL]; unfold bkA; simp [Value.oneCell'])
      rw [← hL] at HX2
      clear hL
      have HRNG := Lib.hid HX2.out.range
      have HTH := Lib.hid (show wr.there (w.heap.size + 1) 0 L.toArray.size from fun j hj => by
        have hj2 : j < L.length := by simpa using hj
        exact ⟨by rw [HRNG.out j _ (List.getElem?_eq_getElem hj2)]; rfl, by rw [Nat.zero_add]; exact HX2.out.fr j⟩)
      have HSI := Lib.hid (show (Tryd.prog.info? 69).map (·.size) = some L.length from by rw [HL20.out]; exact bk_size)
      have HSI2 := Lib.hid (show (Tryd.prog.info? 69).map (·.size) = some L.toArray.size from by rw [List.size_toArray, HL20.out]; exact bk_size)
      have HF := Lib.hid (HX2.out.setAll L rfl)
      have HX3 := Lib.hid (HO.out.x3.setOther (g := w.heap.size + 1) (by omega) L 0)
      have HB9 := Lib.hid (below_setCells (b := w.heap.size + 1) (by omega) L 0 HO.out.b)
      rw [← wset_eq] at HF HX3 HB9
      go_upto_region 8 with fail
      have z0 := HX3.out.c 0 _ rfl
      have zf := HX3.out.fr 0
      go_wp2_with (first | (refine wpList_load_mid rfl 69 (.tmp 2) rfl (w.heap.size + 1) 0 rfl L _ HRNG.out bk_und rfl HSI.out ?_) | (refine wpList_store_mid rfl 69 (.tmp 2) (.tmp 20) rfl (w.heap.size + 1) 0 L.toArray rfl rfl HTH.out HSI2.out HON.out ?_))
      refine leaves_cons (f := 66) (args := #[.pointer (some ⟨w.heap.size + 1 + 1, 0, none⟩)]) (by simp) (by simp [go_sem]) ?_
      refine (open1_idle _ _).mono ?_
      rintro e u' w'' ⟨rfl, rfl, rfl⟩
      have x3 := HX3.out.set (k := 0) (by simp) (.bool true)
      have x2 := HF.out.other (g := w.heap.size + 1 + 1) (by omega) 0 (.bool true)
      refine ⟨_, results_cells2 rfl rfl rfl (run_loadVar_mid _ _ _ _ _ _ x2.range bk_und rfl HSI.out) (loadB x3), ?_⟩
      exact ⟨HB9.out.setCell (p := ⟨w.heap.size + 1 + 1, 0, none⟩) (by show w.heap.size ≤ w.heap.size + 1 + 1; omega) (.bool true), .inl ⟨fun q hq => HO.out.ne q (by rw [HN.out] at hq; exact hq), by rw [HL.out, HN.out]⟩⟩
end Go.Proofs.YtkcfpnpejaekjaaDoor
