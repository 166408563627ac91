import Derived.Test.YtfffhbolaimmdaaDoorC2
import Derived.Test.YtfffhbolaimmdaaDoorG0
import Derived.Test.YtfffhbolaimmdaaDoorQ5
import Derived.BigQuiet
namespace Go.Proofs.YtfffhbolaimmdaaDoor
open Go.RowKit
set_option maxHeartbeats 1000000 in
theorem pick31_any (lo hi x : Int) (w : World) (h0 : 0 ≤ lo) (h1 : lo ≤ hi) (h2 : hi ≤ 100000) (x0 : 0 ≤ x) (x1 : x < 4294967296) : Calls Tryd.prog 31 #[.agg #[.int .i64 lo, .int .i64 hi], .int .u32 x] w (Ret (.int .i64 (lo + x % (hi - lo + 1))) w) := by
  have r0 := Int.emod_nonneg x (b := hi - lo + 1) (by omega)
  have r1 := Int.emod_lt_of_pos x (b := hi - lo + 1) (by omega)
  have et := Int.tmod_eq_emod_of_nonneg (b := hi - lo + 1) x0
  have hB := nxA w (.cells #[.int .i64 lo, .int .i64 hi] 44)
  have c0 : (w.alloc (.cells #[.int .i64 lo, .int .i64 hi] 44)).cell? ⟨w.heap.size, 0, none⟩ = some (.int .i64 lo) := by simp [go_sem]
  have c1 : (w.alloc (.cells #[.int .i64 lo, .int .i64 hi] 44)).cell? ⟨w.heap.size, 1, none⟩ = some (.int .i64 hi) := by simp [go_sem]
  have HB := Lib.hid hB
  clear hB
  go_enter Tryd.func31, Tryd.ntmps31
  go_wp2_with fail
  generalize (w.alloc (.cells #[.int .i64 lo, .int .i64 hi] 44)) = V at *
  have x2 : IntKind.i64.wrap x = x := IntWalk.i64_in _ (by omega)
  have w2 : wrap64 (hi - lo) = hi - lo := IntWalk.wrap64_in _ ⟨by omega, by omega⟩
  go_quiet (fail)
  go_wp2
  go_ret
  exact ⟨rfl, below_drewN HB.out nq⟩
theorem at_cells {W : World} {B : Nat} {A : Option Addr} {l : List Int} {cl : Int → List Value} {v : Int → Value} (hv : ∀ x, (cl x)[0]? = some (v x)) (h : At W B 1 cl A l) (hn : 1 ≤ l.length) : ∃ b off, A = some ⟨b, off, none⟩ ∧ b < B ∧ ∀ k, k < l.length → W.cell? ⟨b, off + k, none⟩ = some (v (l.getD k 0)) := by
  obtain ⟨b, off, e, hb, -⟩ := h.at (k := 0) (by omega) 0
  refine ⟨b, off, e, hb, fun k hk => ?_⟩
  obtain ⟨b', off', e', -, hc⟩ := h.at hk 0
  rw [e] at e'
  injection e' with e'
  injection e' with e1 e2
  subst e1 e2
  have := hc 0 _ (hv _)
  rwa [Nat.mul_one] at this
theorem tab_getD {n : Nat} {f : Nat → Int} {k : Nat} (hk : k < n) : (tab n f).getD k 0 = f k := by simp [tab, hk]
theorem at_tab {W : World} {B : Nat} {A : Option Addr} {n : Nat} {f : Nat → Int} (h : At W B 1 icell A (tab n f)) (hn : 1 ≤ n) : ∃ b off, A = some ⟨b, off, none⟩ ∧ b < B ∧ ∀ k, k < n → W.cell? ⟨b, off + k, none⟩ = some (.int .i64 (f k)) := by
  obtain ⟨b, off, e, hb, hc⟩ := at_cells (v := fun x => .int .i64 x) (fun x => rfl) h (by rw [length_tab]; exact hn)
  exact ⟨b, off, e, hb, fun k hk => by have := hc k (by rw [length_tab]; exact hk); rwa [tab_getD hk] at this⟩
def R9T (s : Store) (l : List Int) (V : World) (v i : Value) (W : World) : Prop := ∃ (n : Nat) (u : Value), n ≤ s.sheets.length ∧ u = v ∧ i = .int .i64 n ∧ W.ownsRow V.heap.size 3 1 u n (tabV n (pickS s l)) ∧ Below V.heap.size V W
def R13T (V : World) (i : Value) (W : World) : Prop := ∃ n : Nat, n ≤ 2 ∧ i = .int .i64 n ∧ Below V.heap.size V W
def R31T (s : Store) (x : Nat) (f : Nat → Int) (V : World) (cv pv nv : Value) (W : World) : Prop := ∃ (n : Nat) (ck : Bool) (cs : Int), n ≤ s.sheets.length ∧ nv = .int .i64 n ∧ cv = .bool ck ∧ pv = .int .i64 cs ∧ covTo s x f n = ck ∧ costTo s x f n = cs ∧ Below V.heap.size V W
def R40T (s : Store) (x : Nat) (c : Int) (V : World) (ov nv : Value) (W : World) : Prop := ∃ (n : Nat) (o : Int), n ≤ s.wishes.length ∧ nv = .int .i64 n ∧ ov = .int .i64 o ∧ o = gainTo s x n - c ∧ Below V.heap.size V W
def mask13 : List (Option Nat) := [none, none, none, none, none, none, some 6, none, none, none, none, none, none, none, some 14, some 15, some 16, some 17, some 18, some 19, some 20, some 21, some 22, some 23, some 24, some 25, some 26, some 27, some 28, some 29, some 30, some 31, some 32, none, none, none, none, none, none, none, none, none, none, none, none, none, none, none, none, none, none, none, none, none, none, none, none, none, none, none, none, none, none, none, none, none, none, none, none, none, none, none, none, none, none, none, none, none, none, none, none, none, none, none, none, none, none, none, none, none, none, none, none, none, none, some 95, some 96, some 97, some 98, some 99, some 100, some 101, some 102, some 103, some 104, some 105, some 106, some 107, some 108, some 109, some 110, some 111, some 112, some 113, some 114, some 115, some 116, some 117, some 118, some 119, some 120, some 121, some 122, some 123, some 124, some 125, some 126, some 127, some 128, some 129, some 130, some 131, some 132, some 133, some 134, some 135, some 136, some 137, some 138, some 139, some 140, some 141, some 142, some 143, some 144, some 145, some 146, some 147, some 148, some 149, some 150, some 151, some 152, some 153, some 154, some 155, some 156, some 157, some 158, some 159, some 160, some 161, some 162, some 163, some 164, some 165, some 166, some 167, some 168, some 169, some 170, some 171, some 172, some 173, some 174, some 175, some 176, some 177, some 178, some 179, some 180, some 181, some 182, some 183, some 184, some 185, some 186, some 187, some 188, some 189, some 190, some 191, some 192, some 193, some 194, some 195, some 196, some 197, some 198, some 199, some 200, some 201, some 202, some 203, some 204, some 205, some 206, some 207, some 208, some 209, some 210, some 211, some 212, some 213, some 214, some 215, some 216, some 217, some 218, some 219, some 220, some 221, some 222, some 223, some 224, some 225, some 226, some 227, some 228, some 229, some 230, some 231, some 232, some 233, some 234, some 235, some 236, some 237, some 238, some 239, some 240, some 241, some 242, some 243, some 244, some 245, some 246, some 247, some 248, some 249, some 250, some 251, some 252, some 253, some 254, some 255, some 256, some 257, some 258, some 259, some 260, some 261, some 262, some 263, some 264, some 265, some 266, some 267, some 268, some 269, some 270, some 271, some 272, some 273, some 274, some 275, some 276, some 277, some 278, some 279, some 280, some 281, some 282, some 283, some 284, some 285, some 286, some 287, some 288, some 289, some 290, some 291, some 292, some 293, some 294, some 295, some 296, some 297, some 298, some 299, some 300, some 301, some 302, some 303, some 304, some 305, some 306, some 307, some 308, some 309, some 310, some 311, some 312, some 313, some 314, some 315, some 316, some 317, some 318, some 319, some 320, some 321, some 322, some 323, some 324, some 325, some 326, some 327, some 328, some 329, some 330, some 331, some 332, some 333, some 334, some 335, some 336, some 337, some 338, some 339, some 340, some 341, some 342, some 343, some 344, some 345, some 346, some 347, some 348, some 349, some 350, some 351, some 352, some 353, some 354, none]
def mask31 : List (Option Nat) := [none, none, none, none, none, none, some 6, none, none, none, none, none, none, none, none, none, none, none, none, none, none, none, none, none, none, some 25, some 26, some 27, some 28, some 29, none, none, none, none, none, none, none, none, none, none, none, none, none, none, none, none, none, none, none, none, none, none, none, none, none, none, none, none, none, none, none, none, none, none, none, none, none, none, none, none, none, none, none, none, none, none, none, none, none, none, none, none, none, none, none, none, none, none, none, none, none, none, none, none, none, none, none, none, none, none, none, none, none, none, none, none, none, none, none, none, none, none, none, none, none, none, none, none, none, none, none, none, none, none, none, none, none, none, none, none, none, none, none, none, none, none, none, none, none, none, none, none, none, none, none, none, none, none, none, none, none, none, none, none, none, none, none, none, none, none, none, none, none, none, none, none, none, none, none, none, none, none, none, some 173, some 174, some 175, some 176, some 177, some 178, some 179, some 180, some 181, some 182, some 183, some 184, some 185, some 186, some 187, some 188, some 189, some 190, some 191, some 192, some 193, some 194, some 195, some 196, some 197, some 198, some 199, some 200, some 201, some 202, some 203, some 204, some 205, some 206, some 207, some 208, some 209, some 210, some 211, some 212, some 213, some 214, some 215, some 216, some 217, some 218, some 219, some 220, some 221, some 222, some 223, some 224, some 225, some 226, some 227, some 228, some 229, some 230, some 231, some 232, some 233, some 234, some 235, some 236, some 237, some 238, some 239, some 240, some 241, some 242, some 243, some 244, some 245, some 246, some 247, some 248, some 249, some 250, some 251, some 252, some 253, some 254, some 255, some 256, some 257, some 258, some 259, some 260, some 261, some 262, some 263, some 264, some 265, some 266, some 267, some 268, some 269, some 270, some 271, some 272, some 273, none, none, none, none, none, none, none, none, none, none, none, none, none, none, none, none, none, none, none, none, none, none, none, none, none, none, none, none, none, none, none, none, none, none, none, none, none, none, none, none, none, none, none, none, none, none, none, none, none, none, none, none, none, none, none, none, none, none, none, none, none, none, none, none, none, none, none, none, none, none, none, none, none, none, none, none, none, none, none, none, none, none]
def mask40 : List (Option Nat) := [none, none, none, none, none, none, none, none, none, none, none, none, none, none, none, none, none, none, none, none, none, none, none, none, none, none, none, none, none, none, some 30, some 31, some 32, none, none, none, none, none, none, none, none, none, none, none, none, none, none, none, none, none, none, none, none, none, none, none, none, none, none, none, none, none, none, none, none, none, none, none, none, none, none, none, none, none, none, none, none, none, none, none, none, none, none, none, none, none, none, none, none, none, none, none, none, none, none, none, none, none, none, none, none, none, none, none, none, none, none, none, none, none, none, none, none, none, none, none, none, none, none, none, none, none, none, none, none, none, none, none, none, none, none, none, none, none, none, none, none, none, none, none, none, none, none, none, none, none, none, none, none, none, none, none, none, none, none, none, none, none, none, none, none, none, none, none, none, none, none, none, none, none, none, none, none, none, none, none, none, none, none, none, none, none, none, none, none, none, none, none, none, none, none, none, none, none, none, none, none, none, none, none, none, none, none, none, none, none, none, none, none, none, none, none, none, none, none, none, none, none, none, none, none, none, none, none, none, none, none, none, none, none, none, none, none, none, none, none, none, none, none, none, none, none, none, none, none, none, none, none, none, none, none, none, none, none, none, none, none, none, none, none, none, none, none, none, none, none, none, none, none, none, none, none, none, none, none, none, none, none, none, some 279, some 280, some 281, some 282, some 283, some 284, some 285, some 286, some 287, some 288, some 289, some 290, some 291, some 292, some 293, some 294, some 295, some 296, some 297, some 298, some 299, some 300, some 301, some 302, some 303, some 304, some 305, some 306, some 307, some 308, some 309, some 310, some 311, some 312, some 313, some 314, some 315, none, none, none, none, none, none, none, none, none, none, none, none, none, none, none, none, none, none, none, none, none, none, none, none, none, none, none, none, none, none, none, none, none, none, none, none, none, none, none, none]
def Cl1 (W : World) (b o n : Nat) (f : Nat → Int) : Prop := b < W.heap.size ∧ ∀ k, k < n → W.cell? ⟨b, o + k, none⟩ = some (.int .i64 (f k))
def Cl2 (W : World) (b o n : Nat) (f : Nat → Int × Int) : Prop := b < W.heap.size ∧ ∀ k, k < n → W.cell? ⟨b, o + k * 2, none⟩ = some (.int .i64 (f k).1) ∧ W.cell? ⟨b, o + k * 2 + 1, none⟩ = some (.int .i64 (f k).2)
theorem Cl1.next {W W' : World} {b o n : Nat} {f : Nat → Int} (h : Cl1 W b o n f) (hb : Below W.heap.size W W') : Cl1 W' b o n f := ⟨Nat.lt_of_lt_of_le h.1 hb.size, fun k hk => ((bcell hb).1 _ _ h.1).trans (h.2 k hk)⟩
theorem Cl2.next {W W' : World} {b o n : Nat} {f : Nat → Int × Int} (h : Cl2 W b o n f) (hb : Below W.heap.size W W') : Cl2 W' b o n f := ⟨Nat.lt_of_lt_of_le h.1 hb.size, fun k hk => ⟨((bcell hb).1 _ _ h.1).trans (h.2 k hk).1, ((bcell hb).1 _ _ h.1).trans (h.2 k hk).2⟩⟩
theorem accepted_pos {s : Store} {st : Int} (ha : acceptedS s st = 0) : ((st.toNat : Nat) : Int) = st := by
  have := accepted_check ha
  unfold checkS at this
  split at this
  · split at this
    · rename_i h; simp [inS] at h; omega
    · omega
  · omega
theorem accepted_lt {s : Store} {x : Nat} (ok : Ok s) (ha : acceptedS s (x : Nat) = 0) : x < 512 := by
  have := accepted_check ha
  have h9 := ok.nw
  have hp : 2 ^ s.wishes.length ≤ 2 ^ 9 := Nat.pow_le_pow_right (by omega) h9
  unfold checkS at this
  rw [if_pos ((ok_iff s).2 ok)] at this
  split at this
  · rename_i h; unfold inS powI at h; simp only [decide_eq_true_eq] at h; omega
  · omega
theorem takes_ok {s : Store} {x : Nat} (hx : acceptedS s (x : Nat) = 0) (W : World) (hr : StoreAt W W.heap.size s) (he : Env W) : Calls Tryd.prog 14 #[.agg #[.slice s.A1 s.sheets.length s.c1, .slice s.A2 s.lics.length s.c2, .slice s.A3 s.makes.length s.c3, .slice s.A4 s.wishes.length s.c4], .int .i64 (x : Nat)] W (RetL1 s.sheets.length (takeS s x) 0 W) := by
  have := Takes14_any s (x : Nat) W hr he
  rw [accepted_check hx] at this; exact this
theorem lacks_ok {s : Store} {x : Nat} (hx : acceptedS s (x : Nat) = 0) (W : World) (hr : StoreAt W W.heap.size s) (he : Env W) : Calls Tryd.prog 19 #[.agg #[.slice s.A1 s.sheets.length s.c1, .slice s.A2 s.lics.length s.c2, .slice s.A3 s.makes.length s.c3, .slice s.A4 s.wishes.length s.c4], .int .i64 (x : Nat)] W (RetL2 s.sheets.length (lacksS s x) 0 W) := by
  have := Lacks19_any s (x : Nat) W hr he
  rw [hx] at this; exact this
theorem covered_ok {s : Store} {x : Nat} (hx : acceptedS s (x : Nat) = 0) (W : World) (hr : StoreAt W W.heap.size s) (he : Env W) : Calls Tryd.prog 21 #[.agg #[.slice s.A1 s.sheets.length s.c1, .slice s.A2 s.lics.length s.c2, .slice s.A3 s.makes.length s.c3, .slice s.A4 s.wishes.length s.c4], .int .i64 (x : Nat)] W (Ret3 (.bool (covTo s x (loAt s) s.sheets.length)) (.bool (covTo s x (hiAt s) s.sheets.length)) (.int .i64 0) W) := by
  have := Covered21_any s (x : Nat) W hr he
  rw [hx, show surelyS s (x : Nat) = covTo s x (loAt s) s.sheets.length by unfold surelyS; rw [hx]; rfl, show canS s (x : Nat) = covTo s x (hiAt s) s.sheets.length by unfold canS; rw [hx]; rfl] at this; exact this
theorem profit_ok {s : Store} {x : Nat} (hx : acceptedS s (x : Nat) = 0) (W : World) (hr : StoreAt W W.heap.size s) (he : Env W) : Calls Tryd.prog 23 #[.agg #[.slice s.A1 s.sheets.length s.c1, .slice s.A2 s.lics.length s.c2, .slice s.A3 s.makes.length s.c3, .slice s.A4 s.wishes.length s.c4], .int .i64 (x : Nat)] W (RetP (gainS s x (loAt s), gainS s x (hiAt s)) 0 W) := by
  have := Profit23_any s (x : Nat) W hr he
  rw [hx, profit_zero hx] at this; exact this
set_option maxRecDepth 100000 in
set_option maxHeartbeats 4000000 in
theorem StockTrue_walk (s : Store) (st : Int) (A : Option Addr) (c : Nat) (l : List Int) (w : World) (hr : StoreAt w w.heap.size s) (he : Env w) (hat : At w w.heap.size 1 ucell A l) (hln : l.length ≤ 9223372036854775807) (hlw : ∀ x ∈ l, 0 ≤ x ∧ x < 4294967296) : Calls Tryd.prog 6 #[.agg #[.slice s.A1 s.sheets.length s.c1, .slice s.A2 s.lics.length s.c2, .slice s.A3 s.makes.length s.c3, .slice s.A4 s.wishes.length s.c4], .int .i64 st, .slice A l.length c] w (Ret (.bool true) w) := by
  have K1 := Lib.hid (AwW.start hr he 27)
  have B1 := Lib.hid (nxA w (.cells #[.slice s.A1 s.sheets.length s.c1, .slice s.A2 s.lics.length s.c2, .slice s.A3 s.makes.length s.c3, .slice s.A4 s.wishes.length s.c4] 27))
  have HAT := Lib.hid hat
  have HLW := Lib.hid hlw
  clear hr he hat hlw
  have p0 := True.intro
  have p1 := True.intro
  have p2 := True.intro
  have p3 := True.intro
  go_enter Tryd.func6, Tryd.ntmps6
  go_wp2_with fail
  generalize (w.alloc (.cells #[.slice s.A1 s.sheets.length s.c1, .slice s.A2 s.lics.length s.c2, .slice s.A3 s.makes.length s.c3, .slice s.A4 s.wishes.length s.c4] 27)) = V1 at *
  refine (far_any s V1 K1.out.st).mono ?_
  rintro e V2 ⟨rfl, hb⟩
  have K2 := Lib.hid (K1.out.next hb)
  have B2 := Lib.hid (B1.out.trans (hb.mono B1.out.size))
  clear hb K1 B1 p0 p1 p2 p3
  obtain ⟨-, -, -, p0, p1, p2, p3⟩ := id K2.out
  cases hf : farS s
  · clear hf
    by_cases hl0 : l.length = 0
    · go_wp2_with fail
      refine (awake_any V2 K2.out.en).mono ?_
      rintro e V3 ⟨rfl, hb⟩
      have B3 := Lib.hid (B2.out.trans (hb.mono B2.out.size))
      clear hb
      go_wp2
      go_ret
      exact ⟨rfl, B3.out⟩
    · go_wp2_with fail
      refine (Store_any s V2 K2.out.st).mono ?_
      rintro e V3 ⟨rfl, hb⟩
      have K3 := Lib.hid (K2.out.next hb)
      have B3 := Lib.hid (B2.out.trans (hb.mono B2.out.size))
      clear hb K2 B2 p0 p1 p2 p3
      obtain ⟨-, -, -, p0, p1, p2, p3⟩ := id K3.out
      cases hs : storeS s
      · clear hs
        go_wp2_with fail
        refine (awake_any V3 K3.out.en).mono ?_
        rintro e V4 ⟨rfl, hb⟩
        have B4 := Lib.hid (B3.out.trans (hb.mono B3.out.size))
        clear hb
        go_wp2
        go_ret
        exact ⟨rfl, B4.out⟩
      · have Hok := Lib.hid ((ok_iff s).1 hs)
        clear hs
        have hns := Hok.out.ns
        obtain ⟨bu, ou, rfl, hbu, hcu⟩ := at_cells (v := fun x => .int .u32 x) (fun x => rfl) HAT.out (by omega)
        have HCU := Lib.hid hcu
        have HBU := Lib.hid hbu
        clear hcu HAT hbu
        obtain ⟨bx, hbx⟩ : ∃ bx : Nat, bx = bestS s := ⟨_, rfl⟩
        obtain ⟨gx, hgx⟩ : ∃ gx : Int, gx = G s (bestS s) := ⟨_, rfl⟩
        have HBX := Lib.hid hbx
        have HGX := Lib.hid hgx
        clear hbx hgx
        go_wp2_with fail
        refine ((show Calls Tryd.prog 26 #[.agg #[.slice s.A1 s.sheets.length s.c1, .slice s.A2 s.lics.length s.c2, .slice s.A3 s.makes.length s.c3, .slice s.A4 s.wishes.length s.c4]] V3 (Ret3 (.int .i64 (bx : Nat)) (.int .i64 gx) (.int .i64 0) V3) from by have := Accept26_any s V3 K3.out.st; rw [show acS s = 0 from if_pos ((ok_iff s).2 Hok.out), show acSet s = (bx : Int) from (if_pos ((ok_iff s).2 Hok.out)).trans (congrArg _ HBX.out.symm), show acGain s = gx from (if_pos ((ok_iff s).2 Hok.out)).trans HGX.out.symm] at this; exact this)).mono ?_
        rintro e V4 ⟨rfl, hb⟩
        have K4 := Lib.hid (K3.out.next hb)
        have B4 := Lib.hid (B3.out.trans (hb.mono B3.out.size))
        clear hb K3 B3 p0 p1 p2 p3
        obtain ⟨-, -, -, p0, p1, p2, p3⟩ := id K4.out
        go_wp2_with fail
        refine (show Calls Tryd.prog 28 #[.agg #[.slice s.A1 s.sheets.length s.c1, .slice s.A2 s.lics.length s.c2, .slice s.A3 s.makes.length s.c3, .slice s.A4 s.wishes.length s.c4]] V4 (RetL2 s.sheets.length (spareS s) 0 V4) from by have := Spare28_any s V4 K4.out.st K4.out.en; rw [show acS s = 0 from if_pos ((ok_iff s).2 Hok.out)] at this; exact this).mono ?_
        rintro e V5 ⟨Ap, cp, rfl, hA, hb⟩
        obtain ⟨bp, op, rfl, hbp, hcp⟩ := at_span hA hns.1
        have HBP := Lib.hid hbp
        have HCP := Lib.hid hcp
        have K5 := Lib.hid (K4.out.next hb)
        have B5 := Lib.hid (B4.out.trans (hb.mono B4.out.size))
        clear hb K4 B4 hA hcp hbp p0 p1 p2 p3
        obtain ⟨-, -, hz5, p0, p1, p2, p3⟩ := id K5.out
        obtain ⟨bs, os, e1, hbs, -⟩ := K5.out.st.sheetC (k := 0) (by omega)
        rw [e1] at p0
        have E1 := Lib.hid e1
        have HBS := Lib.hid hbs
        have HP1 := Lib.hid p1
        obtain ⟨i0, hi, hz0, hz1, hz2⟩ := info_parts int_info
        clear hbs e1
        go_wp2_with fail
        go_loopw [12, 13] (fun v i wr => R9T s l V5 v i wr) (fun _ i _ => s.sheets.length - (intOf i).toNat)
        case atStart => exact ⟨0, _, by omega, rfl, rfl, World.ownsRow_nil _ _ _ _, Below.refl _ _⟩
        case round =>
          obtain ⟨n, v, hn, rfl, rfl, hown, hb⟩ := hrel
          have K6 := Lib.hid (K5.out.next hb)
          by_cases hlt : n < s.sheets.length
          · obtain ⟨b', off', e, hb2, x0, x1, x2⟩ := K6.out.st.sheetL hlt
            rw [E1.out] at e
            injection e with e
            injection e with e1 e2
            subst e1 e2
            have q0 := K6.out.bx.c0
            rw [E1.out] at q0
            have hml : n % l.length < l.length := Nat.mod_lt _ (by omega)
            have u0 := ((bcell (B5.out.trans (hb.mono B5.out.size))).1 _ _ HBU.out).trans (HCU.out _ hml)
            have hu := HLW.out (l.getD (n % l.length) 0) (by rw [List.getD_eq_getElem?_getD, List.getElem?_eq_getElem hml]; exact List.getElem_mem hml)
            have hlo := Hok.out.sheet _ (sheetAt_mem hlt)
            have HP := Lib.hid (show loAt s n + (l.getD (n % l.length) 0) % (hiAt s n - loAt s n + 1) = pickS s l n from rfl)
            have HN := Lib.hid (tabV_succ n (pickS s l))
            have HL2 := Lib.hid (show 0 ≤ loAt s n ∧ loAt s n ≤ hiAt s n ∧ hiAt s n ≤ 100000 from ⟨hlo.1, hlo.2.1, hlo.2.2.1⟩)
            clear hlo
            have htm : (n : Int).tmod (l.length : Int) = ((n % l.length : Nat) : Int) := by rw [Int.tmod_eq_emod_of_nonneg (by omega)]; exact (Int.natCast_emod n l.length).symm
            generalize n % l.length = m at *
            generalize l.getD m 0 = ux at *
            have hrow := Lib.hid (fun k hk => hown.lt k hk)
            have hz5 := hb.size
            have HS := Lib.hid (show ∀ W : World, (∀ b o, b < V5.heap.size → W.cell? ⟨b, o, none⟩ = wr.cell? ⟨b, o, none⟩) → (W.cell? ⟨w.heap.size, 0, none⟩ = some (.slice (some ⟨bs, os, none⟩) s.sheets.length s.c1) ∧ W.cell? ⟨bs, os + n * 3, none⟩ = some (.int .i64 (loAt s n)) ∧ W.cell? ⟨bs, os + n * 3 + 1, none⟩ = some (.int .i64 (hiAt s n)) ∧ W.cell? ⟨bu, ou + m, none⟩ = some (.int .u32 ux)) from fun W h =>
              ⟨(h _ _ K5.out.bx.lt).trans q0, (h _ _ HBS.out).trans x0, (h _ _ HBS.out).trans x1, (h _ _ (Nat.lt_of_lt_of_le HBU.out B5.out.size)).trans u0⟩)
            have HB := Lib.hid hb
            have Hown := Lib.hid hown
            clear x0 x1 x2 u0 hb hown p1 p2 p3 p0
            go_wp2_with fail
            clear q0
            refine wp_region_noPanic ?_
            refine wp_region_held_drew (S := (fun W => W.cell? ⟨w.heap.size, 0, none⟩ = some (.slice (some ⟨bs, os, none⟩) s.sheets.length s.c1) ∧ W.cell? ⟨bs, os + n * 3, none⟩ = some (.int .i64 (loAt s n)) ∧ W.cell? ⟨bs, os + n * 3 + 1, none⟩ = some (.int .i64 (hiAt s n)) ∧ W.cell? ⟨bu, ou + m, none⟩ = some (.int .u32 ux))) (by kernel_rfl) ?_ (fun hHeld => ?_)
            · (try dsimp only); exact HS.out _ (fun b o hlt => rfl)
            refine htake (i := 0) (v := ?v1) rfl (by kernel_rfl) (by kernel_rfl) (by kernel_rfl) (fun _ _ _ h => h) (Or.inl ⟨by rfl, ?hy1⟩) (by assumption) ?_
            case hy1 => (intro w hSw; (try dsimp only at hSw); go_simp; try (with_reducible rfl))
            try simp only [Act.put, List.setIfInBounds_toArray, List.set_cons_zero, List.set_cons_succ]
            refine htake (i := 1) (v := ?v2) rfl (by kernel_rfl) (by kernel_rfl) (by kernel_rfl) (fun _ _ _ h => h) (Or.inl ⟨by rfl, ?hy2⟩) (by assumption) ?_
            case hy2 => (intro w hSw; (try dsimp only at hSw); go_simp; try (with_reducible rfl))
            try simp only [Act.put, List.setIfInBounds_toArray, List.set_cons_zero, List.set_cons_succ]
            refine htake (i := 2) (v := ?v3) rfl (by kernel_rfl) (by kernel_rfl) (by kernel_rfl) (fun _ _ _ h => h) (Or.inl ⟨by rfl, ?hy3⟩) (by assumption) ?_
            case hy3 => (intro w hSw; (try dsimp only at hSw); go_simp; try (with_reducible rfl))
            try simp only [Act.put, List.setIfInBounds_toArray, List.set_cons_zero, List.set_cons_succ]
            refine htake (i := 3) (v := ?v4) rfl (by kernel_rfl) (by kernel_rfl) (by kernel_rfl) (fun _ _ _ h => h) (Or.inl ⟨by rfl, ?hy4⟩) (by assumption) ?_
            case hy4 => (intro w hSw; (try dsimp only at hSw); go_simp; try (with_reducible rfl))
            try simp only [Act.put, List.setIfInBounds_toArray, List.set_cons_zero, List.set_cons_succ]
            refine htake (i := 4) (v := ?v5) rfl (by kernel_rfl) (by kernel_rfl) (by kernel_rfl) (fun _ _ _ h => h) (Or.inl ⟨by rfl, ?hy5⟩) (by assumption) ?_
            case hy5 => (intro w hSw; (try dsimp only at hSw); go_simp; try (with_reducible rfl))
            try simp only [Act.put, List.setIfInBounds_toArray, List.set_cons_zero, List.set_cons_succ]
            refine htake (i := 5) (v := ?v6) rfl (by kernel_rfl) (by kernel_rfl) (by kernel_rfl) (fun _ _ _ h => h) (Or.inl ⟨by rfl, ?hy6⟩) (by assumption) ?_
            case hy6 => (intro w hSw; (try dsimp only at hSw); go_simp; try (with_reducible rfl))
            try simp only [Act.put, List.setIfInBounds_toArray, List.set_cons_zero, List.set_cons_succ]
            refine htake (i := 6) (v := ?v7) rfl (by kernel_rfl) (by kernel_rfl) (by kernel_rfl) (fun _ _ _ h => h) (Or.inl ⟨by rfl, ?hy7⟩) (by assumption) ?_
            case hy7 => (intro w hSw; (try dsimp only at hSw); go_simp; try (with_reducible rfl))
            try simp only [Act.put, List.setIfInBounds_toArray, List.set_cons_zero, List.set_cons_succ]
            refine htake (i := 7) (v := ?v8) rfl (by kernel_rfl) (by kernel_rfl) (by kernel_rfl) (fun _ _ _ h => h) (Or.inl ⟨by rfl, ?hy8⟩) (by assumption) ?_
            case hy8 => (intro w hSw; (try dsimp only at hSw); go_simp; try (with_reducible rfl))
            try simp only [Act.put, List.setIfInBounds_toArray, List.set_cons_zero, List.set_cons_succ]
            refine htake (i := 8) (v := ?v9) rfl (by kernel_rfl) (by kernel_rfl) (by kernel_rfl) (fun _ _ _ h => h) (Or.inl ⟨by rfl, ?hy9⟩) (by assumption) ?_
            case hy9 => (intro w hSw; (try dsimp only at hSw); go_simp; try (with_reducible rfl))
            try simp only [Act.put, List.setIfInBounds_toArray, List.set_cons_zero, List.set_cons_succ]
            refine htake (i := 9) (v := ?v10) rfl (by kernel_rfl) (by kernel_rfl) (by kernel_rfl) (fun _ _ _ h => h) (Or.inl ⟨by rfl, ?hy10⟩) (by assumption) ?_
            case hy10 => (intro w hSw; (try dsimp only at hSw); go_simp; try (with_reducible rfl))
            try simp only [Act.put, List.setIfInBounds_toArray, List.set_cons_zero, List.set_cons_succ]
            refine htake (i := 10) (v := ?v11) rfl (by kernel_rfl) (by kernel_rfl) (by kernel_rfl) (fun _ _ _ h => h) (Or.inl ⟨by rfl, ?hy11⟩) (by assumption) ?_
            case hy11 => (intro w hSw; (try dsimp only at hSw); go_simp; try (with_reducible rfl))
            try simp only [Act.put, List.setIfInBounds_toArray, List.set_cons_zero, List.set_cons_succ]
            refine htake (i := 11) (v := ?v12) rfl (by kernel_rfl) (by kernel_rfl) (by kernel_rfl) (fun _ _ _ h => h) (Or.inl ⟨by rfl, ?hy12⟩) (by assumption) ?_
            case hy12 => (intro w hSw; (try dsimp only at hSw); go_simp; try (with_reducible rfl))
            try simp only [Act.put, List.setIfInBounds_toArray, List.set_cons_zero, List.set_cons_succ]
            refine htake (i := 12) (v := ?v13) rfl (by kernel_rfl) (by kernel_rfl) (by kernel_rfl) (fun _ _ _ h => h) (Or.inl ⟨by rfl, ?hy13⟩) (by assumption) ?_
            case hy13 => (intro w hSw; (try dsimp only at hSw); go_simp; try (with_reducible rfl))
            try simp only [Act.put, List.setIfInBounds_toArray, List.set_cons_zero, List.set_cons_succ]
            refine htake (i := 13) (v := ?v14) rfl (by kernel_rfl) (by kernel_rfl) (by kernel_rfl) (fun _ _ _ h => h) (Or.inl ⟨by rfl, ?hy14⟩) (by assumption) ?_
            case hy14 => (intro w hSw; (try dsimp only at hSw); go_simp; try (with_reducible rfl))
            try simp only [Act.put, List.setIfInBounds_toArray, List.set_cons_zero, List.set_cons_succ]
            refine wpAnyH_ready (rs := [14]) (by kernel_rfl) (by simp) ?_
            refine hcons rfl (fun K hK => ?_) (AllReadyH.nil)
            go_simp
            (with_reducible refine (pick31_any (loAt s n) (hiAt s n) _ _ HL2.out.1 HL2.out.2.1 HL2.out.2.2 hu.1 hu.2).mono ?_); rw [HP.out]; rintro e w4 ⟨rfl, hb4⟩; have hk4 : Below wr.heap.size wr w4 := (Below.refl _ _).drew.trans hb4; have hz4 := hk4.size
            refine hK.out _ _ ?_ (fun hHeld => ?_)
            · (try dsimp only); exact HS.out _ (fun b o hlt => (bcell hk4).1 _ _ (by omega))
            clear hK K
            try simp only [Act.put, List.setIfInBounds_toArray, List.set_cons_zero, List.set_cons_succ]
            refine wpAnyH_ready (rs := [15]) (by kernel_rfl) (by simp) ?_
            refine hcons rfl (fun K hK => ?_) (AllReadyH.nil)
            go_simp
            refine hK.out _ _ ?_ (fun hHeld => ?_)
            · (try dsimp only); exact HS.out _ (fun b o hlt => (bcell (hk4.alloc hk4.size _)).1 _ _ (by omega))
            clear hK K
            try simp only [Act.put, List.setIfInBounds_toArray, List.set_cons_zero, List.set_cons_succ]
            refine wpAnyH_ready (rs := [16]) (by kernel_rfl) (by simp) ?_
            refine hcons rfl (fun K hK => ?_) (AllReadyH.nil)
            (refine step_append_lies _ rfl (.tmp 78) (.tmp 93) 30 rfl V5.heap.size 3 i0 (.int .i64 0) 1 8 Tryd.underlying30 hi hz0 hz1 hz2 rfl (by decide) v n (tabV n (pickS s l)) rfl ((own_below Hown.out hk4).alloc _) ⟨w4.heap.size, 0, none⟩ 1 1 [.int .i64 (pickS s l n)] rfl rfl (cell_one_new _ _ _) (by simp [Value.oneCell']) (by omega) (by unfold maxLen; omega) (by omega) (by simp; omega) _ rfl ?_); intro g cap w' hown' hgrow hgg hlt'; have hgA : wr.grownBy w' v.ownBlock := grown_trans (only_of_below (hk4.alloc hk4.size _) _) hgrow; have Hgr := Lib.hid hgA; have Ho' := Lib.hid hown'; clear hgA hown' hgrow
            refine hK.out _ _ ?_ (fun hHeld => ?_)
            · (try dsimp only); exact HS.out _ (fun b o hlt => grown_cell Hgr.out (by omega) (fun e => by have := (hrow.out _ e).1; omega) _)
            clear hK K
            try simp only [Act.put, List.setIfInBounds_toArray, List.set_cons_zero, List.set_cons_succ]
            refine htake (i := 17) (v := ?v15) rfl (by kernel_rfl) (by kernel_rfl) (by kernel_rfl) (fun _ _ _ h => h) (Or.inl ⟨by rfl, ?hy15⟩) (by assumption) ?_
            case hy15 => (intro w hSw; (try dsimp only at hSw); go_simp; try (with_reducible rfl))
            try simp only [Act.put, List.setIfInBounds_toArray, List.set_cons_zero, List.set_cons_succ]
            refine wpAnyH_done (by kernel_rfl) ?_ _
            refine NoPanic.normal ?_
            iterate 19 (try clear hHeld)
            have ho2 : w'.ownsRow V5.heap.size 3 1 (.slice (some ⟨g, 0, none⟩) (n + 1) cap) (n + 1) (tabV (n + 1) (pickS s l)) := by rw [HN.out]; exact Ho'.out
            have hb3 := HB.out.grown Hgr.out HB.out.size (fun k hk => (hrow.out k hk).1)
            go_wp2
            all_goals (first | (refine ⟨?_, ?_⟩; (unfold R9T; exact ⟨n + 1, _, by omega, rfl, by go_num, ho2, hb3⟩); (simp [intOf]; omega)) | (go_roundw; (case rel => (unfold R9T; exact ⟨n + 1, _, by omega, rfl, by go_num, ho2, hb3⟩)); (case measure => (simp [intOf]; omega))) | (go_round; (case rel => (unfold R9T; exact ⟨n + 1, _, by omega, rfl, by go_num, ho2, hb3⟩)); (case measure => (simp [intOf]; omega))))
          · obtain rfl : n = s.sheets.length := by omega
            obtain ⟨Am, cm, rfl, hM⟩ := own_tab hown
            obtain ⟨bm, om, rfl, hbm, hcm⟩ := at_tab hM hns.1
            have M6 := Lib.hid (show Cl1 wr bm om _ _ from ⟨hbm, hcm⟩)
            have B6 := Lib.hid (B5.out.trans (hb.mono B5.out.size))
            have P6 := Lib.hid ((show Cl2 V5 bp op _ _ from ⟨HBP.out, HCP.out⟩).next hb)
            have KK := Lib.hid K6.out
            clear K6 K5 B5 HBP HCP hbm hcm hM hown hb p0 p1 p2 p3 hz5 hlt HBS HP1 HCU HBU HLW
            generalize wr = V6 at *
            obtain ⟨-, -, -, p0, p1, p2, p3⟩ := id KK.out
            go_wp2_with fail
            clear p0 p1 p2 p3
            refine wp_loopM mask13 (fun g W => R13T V6 (g 14) W) (fun g _ => 2 - (intOf (g 14)).toNat) (by kernel_rfl) ?_ ?_
            · exact ⟨0, by omega, slotF_at rfl, Below.refl _ _⟩
            intro f wr hrel
            obtain ⟨i, hi2, e14, hb⟩ := hrel
            have K7 := Lib.hid (KK.out.next hb)
            have B7 := Lib.hid hb
            have M7 := Lib.hid (M6.out.next hb)
            have P7 := Lib.hid (P6.out.next hb)
            clear hb KK M6 P6
            generalize wr = V7 at *
            obtain ⟨-, -, -, p0, p1, p2, p3⟩ := id K7.out
            have h012 : i = 0 ∨ i = 1 ∨ i = 2 := by omega
            rcases h012 with rfl | rfl | rfl <;> (simp only [mask13, mixF, e14]; have E14 := Lib.hid e14; clear e14)
            · by_cases ha : acceptedS s st = 0
              · obtain ⟨set, rfl⟩ : ∃ set : Nat, st = (set : Nat) := ⟨st.toNat, (accepted_pos ha).symm⟩
                have HXA := Lib.hid ha
                have HXL := Lib.hid (accepted_lt Hok.out ha)
                clear ha
                go_wp2_with fail
                refine (takes_ok HXA.out V7 K7.out.st K7.out.en).mono ?_
                rintro e V8 ⟨At7, ct, rfl, hA, hb⟩
                have K8 := Lib.hid (K7.out.next hb)
                have B8 := Lib.hid (B7.out.trans (hb.mono B7.out.size))
                have M8 := Lib.hid (M7.out.next hb)
                have P8 := Lib.hid (P7.out.next hb)
                obtain ⟨bt, ot, rfl, hbt, hct⟩ := at_tab hA hns.1
                have T8 := Lib.hid (show Cl1 V8 bt ot _ _ from ⟨hbt, hct⟩)
                clear hA hbt hct
                clear hb K7 B7 M7 P7 p0 p1 p2 p3
                obtain ⟨-, -, -, p0, p1, p2, p3⟩ := id K8.out
                go_wp2_with fail
                refine (lacks_ok HXA.out V8 K8.out.st K8.out.en).mono ?_
                rintro e V9 ⟨Al7, cl, rfl, hA, hb⟩
                have K9 := Lib.hid (K8.out.next hb)
                have B9 := Lib.hid (B8.out.trans (hb.mono B8.out.size))
                have M9 := Lib.hid (M8.out.next hb)
                have P9 := Lib.hid (P8.out.next hb)
                have T9 := Lib.hid (T8.out.next hb)
                obtain ⟨bl, ol, rfl, hbl, hcl⟩ := at_span hA hns.1
                have L9 := Lib.hid (show Cl2 V9 bl ol _ _ from ⟨hbl, hcl⟩)
                clear hA hbl hcl
                clear hb K8 B8 M8 P8 T8 p0 p1 p2 p3
                obtain ⟨-, -, -, p0, p1, p2, p3⟩ := id K9.out
                go_wp2_with fail
                obtain ⟨sv, hsv⟩ : ∃ sv, sv = covTo s set (loAt s) s.sheets.length := ⟨_, rfl⟩
                obtain ⟨cv, hcv⟩ : ∃ cv, cv = covTo s set (hiAt s) s.sheets.length := ⟨_, rfl⟩
                have HC := Lib.hid (covered_ok HXA.out V9 K9.out.st K9.out.en)
                rw [← hsv, ← hcv] at HC
                have HSV := Lib.hid hsv
                have HCV := Lib.hid hcv
                clear hsv hcv
                refine (HC.out).mono ?_
                rintro e V10 ⟨rfl, hb⟩
                have K10 := Lib.hid (K9.out.next hb)
                have B10 := Lib.hid (B9.out.trans (hb.mono B9.out.size))
                have M10 := Lib.hid (M9.out.next hb)
                have P10 := Lib.hid (P9.out.next hb)
                have T10 := Lib.hid (T9.out.next hb)
                have L10 := Lib.hid (L9.out.next hb)
                clear hb K9 B9 M9 P9 T9 L9 p0 p1 p2 p3
                obtain ⟨-, -, -, p0, p1, p2, p3⟩ := id K10.out
                go_wp2_with fail
                clear HC
                obtain ⟨pl, hpl⟩ : ∃ pl, pl = gainS s set (loAt s) := ⟨_, rfl⟩
                obtain ⟨ph, hph⟩ : ∃ ph, ph = gainS s set (hiAt s) := ⟨_, rfl⟩
                have HPr := Lib.hid (profit_ok HXA.out V10 K10.out.st K10.out.en)
                rw [← hpl, ← hph] at HPr
                have HPL := Lib.hid hpl
                have HPH := Lib.hid hph
                clear hpl hph
                refine HPr.out.mono ?_
                rintro e V11 ⟨rfl, hb⟩
                clear HPr
                dsimp only
                replace hb := hb.alloc hb.size (.cells #[.int .i64 pl, .int .i64 ph] 44)
                have Q11 := Lib.hid (IBlk.span V11 pl ph 44)
                have K11 := Lib.hid (K10.out.next hb)
                have B11 := Lib.hid (B10.out.trans (hb.mono B10.out.size))
                have M11 := Lib.hid (M10.out.next hb)
                have P11 := Lib.hid (P10.out.next hb)
                have T11 := Lib.hid (T10.out.next hb)
                have L11 := Lib.hid (L10.out.next hb)
                clear hb K10 B10 M10 P10 T10 L10 p0 p1 p2 p3
                go_wp2_with fail
                generalize (V11.alloc (.cells #[.int .i64 pl, .int .i64 ph] 44)) = W at *
                generalize V11.heap.size = gp at *
                refine wp_loopM mask31 (fun g W' => R31T s set (pickS s l) W (g 25) (g 26) (g 27) W') (fun g _ => s.sheets.length - (intOf (g 27)).toNat) (by kernel_rfl) ?_ ?_
                · exact ⟨0, true, 0, by omega, slotF_at rfl, slotF_at rfl, slotF_at rfl, rfl, rfl, Below.refl _ _⟩
                intro f3 wr hrel
                obtain ⟨k, ck, cs, hk, e27, e25, e26, eck, ecs, hb⟩ := hrel
                simp only [mask31, mixF, e25, e26, e27]
                by_cases hlt : k < s.sheets.length
                · obtain ⟨b', off', e, hb2, -, -, x2⟩ := (K11.out.next hb).st.sheetL hlt
                  rw [E1.out] at e
                  injection e with e
                  injection e with e1 e2
                  subst e1 e2
                  have q0 := (K11.out.next hb).bx.c0
                  rw [E1.out] at q0
                  have t0 := (T11.out.next hb).2 k hlt
                  have m0 := (M11.out.next hb).2 k hlt
                  obtain ⟨l0, l1⟩ := (L11.out.next hb).2 k hlt
                  obtain ⟨T, Mm, Bt, Lf, ll, lh, co, cs0, cs', sl, sh, ck0, ck', eT, eM, eL, eC, e1, e2, e3, e4, e5, e6, eB, eF, tb, pb, bb, fb, esum, bl1, sl1, mb, cb, ec, ek⟩ := true_facts Hok.out l set hlt
                  obtain rfl : cs = cs0 := ecs.symm.trans e1
                  obtain rfl : ck = ck0 := eck.symm.trans e3
                  rw [eT] at t0
                  rw [eM] at m0
                  rw [eL] at l0 l1
                  rw [eC] at x2
                  dsimp only at l0 l1
                  have E2 := Lib.hid e2
                  have E4 := Lib.hid e4
                  have EC := Lib.hid ec
                  have EK := Lib.hid ek
                  have E25 := Lib.hid e25
                  have E26 := Lib.hid e26
                  have E27 := Lib.hid e27
                  have hB : (if Mm < T then T - Mm else 0) = Bt := by rw [← eB]; split <;> omega
                  have hF : (if T < Mm then Mm - T else 0) = Lf := by rw [← eF]; split <;> omega
                  have d1 : decide (T < 0) = false := by simp; omega
                  have d3 : decide (Bt < ll) = false := by simp; omega
                  have d4 : decide (lh < Bt) = false := by simp; omega
                  clear eT eM eL eC e1 e2 e3 e4 e5 e6 eB eF ec ek eck ecs e25 e26 e27 bl1 sl1
                  have HB := Lib.hid hb
                  go_wp2_with fail
                  go_quiet (fail)
                  go_wp2_with fail
                  go_quiet (fail)
                  cases ck
                  · go_wp2_with fail
                    refine endM (by kernel_rfl) (by kernel_rfl) ?_ ?_
                    · exact ⟨k + 1, _, _, by omega, (slotF_at rfl).trans (by go_num), (slotF_at rfl).trans (by rfl), slotF_at rfl, E4.out.trans (EK.out.trans (by simp)), E2.out.trans EC.out, below_drewN HB.out _⟩
                    · (simp [slotF, intOf, E27.out]; omega)
                  · go_wp2_with fail
                    refine endM (by kernel_rfl) (by kernel_rfl) ?_ ?_
                    · exact ⟨k + 1, _, _, by omega, (slotF_at rfl).trans (by go_num), (slotF_at rfl).trans (by rfl), slotF_at rfl, E4.out.trans (EK.out.trans (by simp)), E2.out.trans EC.out, below_drewN HB.out _⟩
                    · (simp [slotF, intOf, E27.out]; omega)
                · have kn : k = s.sheets.length := by omega
                  subst kn
                  have K12 := Lib.hid (K11.out.next hb)
                  have B12 := Lib.hid (B11.out.trans (hb.mono B11.out.size))
                  have Q12 := Lib.hid (Q11.out.next hb)
                  have cb := costTo_bd Hok.out set (f := pickS s l) (fun j hj => by have h3 := pick_in Hok.out l hj; have h4 := Hok.out.sheet _ (sheetAt_mem hj); unfold loAt hiAt at h3; omega) (n := s.sheets.length) (Nat.le_refl _)
                  rw [ecs] at cb
                  have hS1 : sv = true → ck = true := fun h => by rw [← eck]; rw [HSV.out] at h; exact covTo_mono (fun k hk => (pick_in Hok.out l hk).1) h
                  have hS2 : ck = true → cv = true := fun h => by rw [HCV.out]; rw [← eck] at h; exact covTo_mono (fun k hk => (pick_in Hok.out l hk).2) h
                  have hge : pl ≤ gainTo s set s.wishes.length - cs := by rw [HPL.out, ← ecs]; exact gainS_mono Hok.out set (fun k hk => (pick_in Hok.out l hk).1)
                  have hle : gainTo s set s.wishes.length - cs ≤ ph := by rw [HPH.out, ← ecs]; exact gainS_mono Hok.out set (fun k hk => (pick_in Hok.out l hk).2)
                  have HS1 := Lib.hid hS1
                  have HS2 := Lib.hid hS2
                  have HGE := Lib.hid hge
                  have HLE := Lib.hid hle
                  obtain ⟨-, -, -, p0, p1, p2, p3⟩ := id K12.out
                  clear hb K11 B11 Q11 M11 P11 T11 L11 hS1 hS2 hge hle eck ecs e25 e26 e27 hlt
                  go_wp2_with fail
                  clear p0 p1 p2 p3
                  generalize wr = V12 at *
                  refine wp_loopM mask40 (fun g W' => R40T s set cs V12 (g 30) (g 279) W') (fun g _ => s.wishes.length - (intOf (g 279)).toNat) (by kernel_rfl) ?_ ?_
                  · exact ⟨0, -cs, by omega, slotF_at rfl, slotF_at rfl, (Int.zero_sub cs).symm, Below.refl _ _⟩
                  intro f4 wr hrel
                  obtain ⟨n, o, hn2, e279, e30, eo, hb⟩ := hrel
                  simp only [mask40, mixF, e279, e30]
                  by_cases hlt : n < s.wishes.length
                  · obtain ⟨bw, ow, e4, hbw, c0, c1, c2, c3, c4⟩ := (K12.out.next hb).st.wishC hlt
                    obtain ⟨b3, o3, e3, hb3, y0, -⟩ := (K12.out.next hb).st.makeC Hok.out hlt
                    obtain ⟨b2, o2, e2, hb2, -, -, -, z3⟩ := (K12.out.next hb).st.licC Hok.out hlt
                    obtain ⟨pz, mn, ho, pr, sp, pc, fe, g, g', ew, ep, ef, eg, eg', zb, cb2, sb, mb1, mb2, gb, ht, hfl⟩ := wish_facts Hok.out set hlt
                    rw [ew] at c0 c1 c2 c3 c4 y0
                    rw [ep] at y0 z3
                    rw [ef] at z3
                    dsimp only at c0 c1 c2 c3 c4 y0
                    have hx63 : set < 9223372036854775808 := by have h1 := HXL.out; omega
                    have hbe := bit_eqG set n hx63
                    have E30 := Lib.hid e30
                    have E279 := Lib.hid e279
                    have EG := Lib.hid eg'
                    have HT := Lib.hid ht
                    have HFL := Lib.hid hfl
                    have eo2 : o = g - cs := by rw [eo, eg]
                    have HB := Lib.hid hb
                    have hn9 := Hok.out.nw
                    clear eo eg eg' ht hfl e30 e279 ew ep ef hx63
                    cases hhas : has set n
                    · have hbit : (bits BinOp.and IntKind.i64 ((set : Int) / 2 ^ n) 1 == 1) = false := by rw [hbe, hhas]; rfl
                      clear hbe
                      go_wp2_with fail
                      try rw [← e4]
                      refine endM (by kernel_rfl) (by kernel_rfl) ?_ ?_
                      · exact ⟨n + 1, _, by omega, (slotF_at rfl).trans (by go_num), (slotF_at rfl).trans (by rfl), by rw [eo2, EG.out, HFL.out hhas], HB.out.alloc HB.out.size _⟩
                      · (simp [slotF, intOf, E279.out]; omega)
                    · have hbit : (bits BinOp.and IntKind.i64 ((set : Int) / 2 ^ n) 1 == 1) = true := by rw [hbe, hhas]; rfl
                      clear hbe
                      go_wp2_with fail
                      have hV := nxA wr (.cells #[.int .i64 pz, .int .i64 mn, .int .i64 ho, .int .i64 pr, .int .i64 sp] 57)
                      obtain ⟨-, v0, v1, v2, v3, v4⟩ := WBox.new (w := wr) rfl ⟨pz, mn, ho, pr, sp⟩ 57
                      dsimp only at v0 v1 v2 v3 v4
                      have HV := Lib.hid (HB.out.trans (hV.mono HB.out.size))
                      replace y0 := ((bcell hV).1 _ _ hb3).trans y0
                      replace z3 := ((bcell hV).1 _ _ hb2).trans z3
                      obtain ⟨-, -, -, -, p1, p2, p3⟩ := id (K12.out.next HV.out)
                      rw [e2] at p1
                      rw [e3] at p2
                      clear hV HB hb
                      generalize (wr.alloc (.cells #[.int .i64 pz, .int .i64 mn, .int .i64 ho, .int .i64 pr, .int .i64 sp] 57)) = V13 at *
                      go_quiet (fail)
                      go_wp2_with fail
                      try rw [← e4]
                      refine endM (by kernel_rfl) (by kernel_rfl) ?_ ?_
                      · exact ⟨n + 1, _, by omega, (slotF_at rfl).trans (by go_num), (slotF_at rfl).trans (by rfl), by rw [EG.out, HT.out hhas]; omega, below_drewN HV.out _⟩
                      · (simp [slotF, intOf, E279.out]; omega)
                  · have nn : n = s.wishes.length := by omega
                    subst nn
                    have hge := HGE.out
                    have hle := HLE.out
                    rw [← eo] at hge hle
                    have d1 : decide (o < pl) = false := by simp; omega
                    have d2 : decide (ph < o) = false := by simp; omega
                    obtain ⟨qp0, qp1⟩ := IBlk2.cells (Q12.out.next hb)
                    have BB := Lib.hid (B12.out.trans (hb.mono B12.out.size))
                    have hS1 := HS1.out
                    have hS2 := HS2.out
                    clear HS1 HS2 HSV HCV HPL HPH HGE HLE hge hle eo e30 e279 hlt hb HXA
                    cases sv <;> cases ck <;> cases cv <;> simp at hS1 hS2 <;> clear hS1 hS2
                    all_goals
                      go_wp2_with fail
                      refine endM (by kernel_rfl) (by kernel_rfl) ?_ ?_
                      · exact ⟨1, by omega, (slotF_at rfl).trans (by go_num), BB.out⟩
                      · (simp [slotF, intOf, E14.out])
              · have HL := Lib.hid (fun (W : World) (h1 : StoreAt W W.heap.size s) (h2 : Env W) => (show Calls Tryd.prog 19 #[.agg #[.slice s.A1 s.sheets.length s.c1, .slice s.A2 s.lics.length s.c2, .slice s.A3 s.makes.length s.c3, .slice s.A4 s.wishes.length s.c4], .int .i64 st] W (RetL2 0 (lacksS s st.toNat) (acceptedS s st) W) from by have := Lacks19_any s st W h1 h2; rw [show lenIf (acceptedS s st) s.sheets.length = 0 from if_neg ha] at this; exact this))
                have HP := Lib.hid (fun (W : World) (h1 : StoreAt W W.heap.size s) (h2 : Env W) => (show Calls Tryd.prog 23 #[.agg #[.slice s.A1 s.sheets.length s.c1, .slice s.A2 s.lics.length s.c2, .slice s.A3 s.makes.length s.c3, .slice s.A4 s.wishes.length s.c4], .int .i64 st] W (RetP ((profitS s st).1, (profitS s st).2) (acceptedS s st) W) from Profit23_any s st W h1 h2))
                have HC := Lib.hid (fun (W : World) (h1 : StoreAt W W.heap.size s) (h2 : Env W) => Covered21_any s st W h1 h2)
                have HT := Lib.hid (fun (W : World) (h1 : StoreAt W W.heap.size s) (h2 : Env W) => Takes14_any s st W h1 h2)
                have d0 : (acceptedS s st != 0) = true := by simpa using ha
                clear ha
                generalize acceptedS s st = av at HL HP HC d0
                generalize checkS s st = ck at HT
                generalize lenIf ck s.sheets.length = nt at HT
                generalize surelyS s st = q1 at HC
                generalize canS s st = q2 at HC
                generalize (profitS s st).1 = xp at HP
                generalize (profitS s st).2 = yp at HP
                go_wp2_with fail
                refine (HT.out V7 K7.out.st K7.out.en).mono ?_
                rintro e V8 ⟨At7, ct, rfl, hA, hb⟩
                have K8 := Lib.hid (K7.out.next hb)
                have B8 := Lib.hid (B7.out.trans (hb.mono B7.out.size))
                clear hA
                clear hb K7 B7 p0 p1 p2 p3
                obtain ⟨-, -, -, p0, p1, p2, p3⟩ := id K8.out
                go_wp2_with fail
                refine (HL.out V8 K8.out.st K8.out.en).mono ?_
                rintro e V9 ⟨Al7, cl, rfl, hA, hb⟩
                have K9 := Lib.hid (K8.out.next hb)
                have B9 := Lib.hid (B8.out.trans (hb.mono B8.out.size))
                clear hA
                clear hb K8 B8 p0 p1 p2 p3
                obtain ⟨-, -, -, p0, p1, p2, p3⟩ := id K9.out
                go_wp2_with fail
                refine (HC.out V9 K9.out.st K9.out.en).mono ?_
                rintro e V10 ⟨rfl, hb⟩
                have K10 := Lib.hid (K9.out.next hb)
                have B10 := Lib.hid (B9.out.trans (hb.mono B9.out.size))
                clear hb K9 B9 p0 p1 p2 p3
                obtain ⟨-, -, -, p0, p1, p2, p3⟩ := id K10.out
                go_wp2_with fail
                refine (HP.out V10 K10.out.st K10.out.en).mono ?_
                rintro e V11 ⟨rfl, hb⟩
                dsimp only
                have BE := Lib.hid (B10.out.trans ((hb.alloc hb.size (.cells #[.int .i64 xp, .int .i64 yp] 44)).mono B10.out.size))
                clear hb HT HL HC HP
                go_wp2_with fail
                refine endM (by kernel_rfl) (by kernel_rfl) ?_ ?_
                · exact ⟨1, by omega, (slotF_at rfl).trans (by go_num), BE.out⟩
                · (simp [slotF, intOf, E14.out])
            · have HXA := Lib.hid (show acceptedS s (bx : Nat) = 0 by rw [HBX.out]; exact (accepted_zero Hok.out (best_lt s)).2 (best_ok s))
              have HXL := Lib.hid (accepted_lt Hok.out HXA.out)
              go_wp2_with fail
              refine (takes_ok HXA.out V7 K7.out.st K7.out.en).mono ?_
              rintro e V8 ⟨At7, ct, rfl, hA, hb⟩
              have K8 := Lib.hid (K7.out.next hb)
              have B8 := Lib.hid (B7.out.trans (hb.mono B7.out.size))
              have M8 := Lib.hid (M7.out.next hb)
              have P8 := Lib.hid (P7.out.next hb)
              obtain ⟨bt, ot, rfl, hbt, hct⟩ := at_tab hA hns.1
              have T8 := Lib.hid (show Cl1 V8 bt ot _ _ from ⟨hbt, hct⟩)
              clear hA hbt hct
              clear hb K7 B7 M7 P7 p0 p1 p2 p3
              obtain ⟨-, -, -, p0, p1, p2, p3⟩ := id K8.out
              go_wp2_with fail
              refine (lacks_ok HXA.out V8 K8.out.st K8.out.en).mono ?_
              rintro e V9 ⟨Al7, cl, rfl, hA, hb⟩
              have K9 := Lib.hid (K8.out.next hb)
              have B9 := Lib.hid (B8.out.trans (hb.mono B8.out.size))
              have M9 := Lib.hid (M8.out.next hb)
              have P9 := Lib.hid (P8.out.next hb)
              have T9 := Lib.hid (T8.out.next hb)
              obtain ⟨bl, ol, rfl, hbl, hcl⟩ := at_span hA hns.1
              have L9 := Lib.hid (show Cl2 V9 bl ol _ _ from ⟨hbl, hcl⟩)
              clear hA hbl hcl
              clear hb K8 B8 M8 P8 T8 p0 p1 p2 p3
              obtain ⟨-, -, -, p0, p1, p2, p3⟩ := id K9.out
              go_wp2_with fail
              obtain ⟨sv, hsv⟩ : ∃ sv, sv = covTo s bx (loAt s) s.sheets.length := ⟨_, rfl⟩
              obtain ⟨cv, hcv⟩ : ∃ cv, cv = covTo s bx (hiAt s) s.sheets.length := ⟨_, rfl⟩
              have HC := Lib.hid (covered_ok HXA.out V9 K9.out.st K9.out.en)
              rw [← hsv, ← hcv] at HC
              have HSV := Lib.hid hsv
              have HCV := Lib.hid hcv
              clear hsv hcv
              refine (HC.out).mono ?_
              rintro e V10 ⟨rfl, hb⟩
              have K10 := Lib.hid (K9.out.next hb)
              have B10 := Lib.hid (B9.out.trans (hb.mono B9.out.size))
              have M10 := Lib.hid (M9.out.next hb)
              have P10 := Lib.hid (P9.out.next hb)
              have T10 := Lib.hid (T9.out.next hb)
              have L10 := Lib.hid (L9.out.next hb)
              clear hb K9 B9 M9 P9 T9 L9 p0 p1 p2 p3
              obtain ⟨-, -, -, p0, p1, p2, p3⟩ := id K10.out
              go_wp2_with fail
              clear HC
              obtain ⟨pl, hpl⟩ : ∃ pl, pl = gainS s bx (loAt s) := ⟨_, rfl⟩
              obtain ⟨ph, hph⟩ : ∃ ph, ph = gainS s bx (hiAt s) := ⟨_, rfl⟩
              have HPr := Lib.hid (profit_ok HXA.out V10 K10.out.st K10.out.en)
              rw [← hpl, ← hph] at HPr
              have HPL := Lib.hid hpl
              have HPH := Lib.hid hph
              clear hpl hph
              refine HPr.out.mono ?_
              rintro e V11 ⟨rfl, hb⟩
              clear HPr
              dsimp only
              replace hb := hb.alloc hb.size (.cells #[.int .i64 pl, .int .i64 ph] 44)
              have Q11 := Lib.hid (IBlk.span V11 pl ph 44)
              have K11 := Lib.hid (K10.out.next hb)
              have B11 := Lib.hid (B10.out.trans (hb.mono B10.out.size))
              have M11 := Lib.hid (M10.out.next hb)
              have P11 := Lib.hid (P10.out.next hb)
              have T11 := Lib.hid (T10.out.next hb)
              have L11 := Lib.hid (L10.out.next hb)
              clear hb K10 B10 M10 P10 T10 L10 p0 p1 p2 p3
              go_wp2_with fail
              generalize (V11.alloc (.cells #[.int .i64 pl, .int .i64 ph] 44)) = W at *
              generalize V11.heap.size = gp at *
              refine wp_loopM mask31 (fun g W' => R31T s bx (pickS s l) W (g 25) (g 26) (g 27) W') (fun g _ => s.sheets.length - (intOf (g 27)).toNat) (by kernel_rfl) ?_ ?_
              · exact ⟨0, true, 0, by omega, slotF_at rfl, slotF_at rfl, slotF_at rfl, rfl, rfl, Below.refl _ _⟩
              intro f3 wr hrel
              obtain ⟨k, ck, cs, hk, e27, e25, e26, eck, ecs, hb⟩ := hrel
              simp only [mask31, mixF, e25, e26, e27]
              by_cases hlt : k < s.sheets.length
              · obtain ⟨b', off', e, hb2, -, -, x2⟩ := (K11.out.next hb).st.sheetL hlt
                rw [E1.out] at e
                injection e with e
                injection e with e1 e2
                subst e1 e2
                have q0 := (K11.out.next hb).bx.c0
                rw [E1.out] at q0
                have t0 := (T11.out.next hb).2 k hlt
                have m0 := (M11.out.next hb).2 k hlt
                obtain ⟨l0, l1⟩ := (L11.out.next hb).2 k hlt
                obtain ⟨s0, s1⟩ := (P11.out.next hb).2 k hlt
                obtain ⟨T, Mm, Bt, Lf, ll, lh, co, cs0, cs', sl, sh, ck0, ck', eT, eM, eL, eC, e1, e2, e3, e4, e5, e6, eB, eF, tb, pb, bb, fb, esum, bl1, sl1, mb, cb, ec, ek⟩ := true_facts Hok.out l bx hlt
                obtain rfl : cs = cs0 := ecs.symm.trans e1
                obtain rfl : ck = ck0 := eck.symm.trans e3
                rw [eT] at t0
                rw [eM] at m0
                rw [eL] at l0 l1
                rw [eC] at x2
                rw [show spareS s k = (sl, sh) by rw [← e5, ← e6, ← eT, HBX.out]; rfl] at s0 s1
                dsimp only at s0 s1
                dsimp only at l0 l1
                have E2 := Lib.hid e2
                have E4 := Lib.hid e4
                have EC := Lib.hid ec
                have EK := Lib.hid ek
                have E25 := Lib.hid e25
                have E26 := Lib.hid e26
                have E27 := Lib.hid e27
                have hB : (if Mm < T then T - Mm else 0) = Bt := by rw [← eB]; split <;> omega
                have hF : (if T < Mm then Mm - T else 0) = Lf := by rw [← eF]; split <;> omega
                have d1 : decide (T < 0) = false := by simp; omega
                have d3 : decide (Bt < ll) = false := by simp; omega
                have d4 : decide (lh < Bt) = false := by simp; omega
                have d5 : decide (Lf < sl) = false := by simp; omega
                have d6 : decide (sh < Lf) = false := by simp; omega
                clear eT eM eL eC e1 e2 e3 e4 e5 e6 eB eF ec ek eck ecs e25 e26 e27 bl1 sl1
                have HB := Lib.hid hb
                go_wp2_with fail
                go_quiet (fail)
                go_wp2_with fail
                go_quiet (fail)
                cases ck
                · go_wp2_with fail
                  refine endM (by kernel_rfl) (by kernel_rfl) ?_ ?_
                  · exact ⟨k + 1, _, _, by omega, (slotF_at rfl).trans (by go_num), (slotF_at rfl).trans (by rfl), slotF_at rfl, E4.out.trans (EK.out.trans (by simp)), E2.out.trans EC.out, below_drewN HB.out _⟩
                  · (simp [slotF, intOf, E27.out]; omega)
                · go_wp2_with fail
                  refine endM (by kernel_rfl) (by kernel_rfl) ?_ ?_
                  · exact ⟨k + 1, _, _, by omega, (slotF_at rfl).trans (by go_num), (slotF_at rfl).trans (by rfl), slotF_at rfl, E4.out.trans (EK.out.trans (by simp)), E2.out.trans EC.out, below_drewN HB.out _⟩
                  · (simp [slotF, intOf, E27.out]; omega)
              · have kn : k = s.sheets.length := by omega
                subst kn
                have K12 := Lib.hid (K11.out.next hb)
                have B12 := Lib.hid (B11.out.trans (hb.mono B11.out.size))
                have Q12 := Lib.hid (Q11.out.next hb)
                have cb := costTo_bd Hok.out bx (f := pickS s l) (fun j hj => by have h3 := pick_in Hok.out l hj; have h4 := Hok.out.sheet _ (sheetAt_mem hj); unfold loAt hiAt at h3; omega) (n := s.sheets.length) (Nat.le_refl _)
                rw [ecs] at cb
                have hS1 : sv = true → ck = true := fun h => by rw [← eck]; rw [HSV.out] at h; exact covTo_mono (fun k hk => (pick_in Hok.out l hk).1) h
                have hS2 : ck = true → cv = true := fun h => by rw [HCV.out]; rw [← eck] at h; exact covTo_mono (fun k hk => (pick_in Hok.out l hk).2) h
                have hge : pl ≤ gainTo s bx s.wishes.length - cs := by rw [HPL.out, ← ecs]; exact gainS_mono Hok.out bx (fun k hk => (pick_in Hok.out l hk).1)
                have hle : gainTo s bx s.wishes.length - cs ≤ ph := by rw [HPH.out, ← ecs]; exact gainS_mono Hok.out bx (fun k hk => (pick_in Hok.out l hk).2)
                have hpg : pl = gx := by rw [HPL.out, HGX.out, HBX.out]; rfl
                have HS1 := Lib.hid hS1
                have HS2 := Lib.hid hS2
                have HGE := Lib.hid hge
                have HLE := Lib.hid hle
                obtain ⟨-, -, -, p0, p1, p2, p3⟩ := id K12.out
                clear hb K11 B11 Q11 M11 P11 T11 L11 hS1 hS2 hge hle eck ecs e25 e26 e27 hlt
                go_wp2_with fail
                clear p0 p1 p2 p3
                generalize wr = V12 at *
                refine wp_loopM mask40 (fun g W' => R40T s bx cs V12 (g 30) (g 279) W') (fun g _ => s.wishes.length - (intOf (g 279)).toNat) (by kernel_rfl) ?_ ?_
                · exact ⟨0, -cs, by omega, slotF_at rfl, slotF_at rfl, (Int.zero_sub cs).symm, Below.refl _ _⟩
                intro f4 wr hrel
                obtain ⟨n, o, hn2, e279, e30, eo, hb⟩ := hrel
                simp only [mask40, mixF, e279, e30]
                by_cases hlt : n < s.wishes.length
                · obtain ⟨bw, ow, e4, hbw, c0, c1, c2, c3, c4⟩ := (K12.out.next hb).st.wishC hlt
                  obtain ⟨b3, o3, e3, hb3, y0, -⟩ := (K12.out.next hb).st.makeC Hok.out hlt
                  obtain ⟨b2, o2, e2, hb2, -, -, -, z3⟩ := (K12.out.next hb).st.licC Hok.out hlt
                  obtain ⟨pz, mn, ho, pr, sp, pc, fe, g, g', ew, ep, ef, eg, eg', zb, cb2, sb, mb1, mb2, gb, ht, hfl⟩ := wish_facts Hok.out bx hlt
                  rw [ew] at c0 c1 c2 c3 c4 y0
                  rw [ep] at y0 z3
                  rw [ef] at z3
                  dsimp only at c0 c1 c2 c3 c4 y0
                  have hx63 : bx < 9223372036854775808 := by have h1 := HXL.out; omega
                  have hbe := bit_eqG bx n hx63
                  have E30 := Lib.hid e30
                  have E279 := Lib.hid e279
                  have EG := Lib.hid eg'
                  have HT := Lib.hid ht
                  have HFL := Lib.hid hfl
                  have eo2 : o = g - cs := by rw [eo, eg]
                  have HB := Lib.hid hb
                  have hn9 := Hok.out.nw
                  clear eo eg eg' ht hfl e30 e279 ew ep ef hx63
                  cases hhas : has bx n
                  · have hbit : (bits BinOp.and IntKind.i64 ((bx : Int) / 2 ^ n) 1 == 1) = false := by rw [hbe, hhas]; rfl
                    clear hbe
                    go_wp2_with fail
                    try rw [← e4]
                    refine endM (by kernel_rfl) (by kernel_rfl) ?_ ?_
                    · exact ⟨n + 1, _, by omega, (slotF_at rfl).trans (by go_num), (slotF_at rfl).trans (by rfl), by rw [eo2, EG.out, HFL.out hhas], HB.out.alloc HB.out.size _⟩
                    · (simp [slotF, intOf, E279.out]; omega)
                  · have hbit : (bits BinOp.and IntKind.i64 ((bx : Int) / 2 ^ n) 1 == 1) = true := by rw [hbe, hhas]; rfl
                    clear hbe
                    go_wp2_with fail
                    have hV := nxA wr (.cells #[.int .i64 pz, .int .i64 mn, .int .i64 ho, .int .i64 pr, .int .i64 sp] 57)
                    obtain ⟨-, v0, v1, v2, v3, v4⟩ := WBox.new (w := wr) rfl ⟨pz, mn, ho, pr, sp⟩ 57
                    dsimp only at v0 v1 v2 v3 v4
                    have HV := Lib.hid (HB.out.trans (hV.mono HB.out.size))
                    replace y0 := ((bcell hV).1 _ _ hb3).trans y0
                    replace z3 := ((bcell hV).1 _ _ hb2).trans z3
                    obtain ⟨-, -, -, -, p1, p2, p3⟩ := id (K12.out.next HV.out)
                    rw [e2] at p1
                    rw [e3] at p2
                    clear hV HB hb
                    generalize (wr.alloc (.cells #[.int .i64 pz, .int .i64 mn, .int .i64 ho, .int .i64 pr, .int .i64 sp] 57)) = V13 at *
                    go_quiet (fail)
                    go_wp2_with fail
                    try rw [← e4]
                    refine endM (by kernel_rfl) (by kernel_rfl) ?_ ?_
                    · exact ⟨n + 1, _, by omega, (slotF_at rfl).trans (by go_num), (slotF_at rfl).trans (by rfl), by rw [EG.out, HT.out hhas]; omega, below_drewN HV.out _⟩
                    · (simp [slotF, intOf, E279.out]; omega)
                · have nn : n = s.wishes.length := by omega
                  subst nn
                  have hge := HGE.out
                  have hle := HLE.out
                  rw [← eo] at hge hle
                  have d1 : decide (o < pl) = false := by simp; omega
                  have d2 : decide (ph < o) = false := by simp; omega
                  have d3 : decide (o < gx) = false := by simp; omega
                  obtain ⟨qp0, qp1⟩ := IBlk2.cells (Q12.out.next hb)
                  have BB := Lib.hid (B12.out.trans (hb.mono B12.out.size))
                  have hS1 := HS1.out
                  have hS2 := HS2.out
                  clear HS1 HS2 HSV HCV HPL HPH HGE HLE hge hle eo e30 e279 hlt hb HXA
                  cases sv <;> cases ck <;> cases cv <;> simp at hS1 hS2 <;> clear hS1 hS2
                  all_goals
                    go_wp2_with fail
                    refine endM (by kernel_rfl) (by kernel_rfl) ?_ ?_
                    · exact ⟨2, by omega, (slotF_at rfl).trans (by go_num), BB.out⟩
                    · (simp [slotF, intOf, E14.out])
            · go_wp2_with fail
              refine (awake_any V7 K7.out.en).mono ?_
              rintro e V8 ⟨rfl, hb⟩
              have B8 := Lib.hid (B6.out.trans ((B7.out.trans (hb.mono B7.out.size)).mono B6.out.size))
              clear hb
              go_wp2
              go_ret
              exact ⟨rfl, B8.out⟩
  · go_wp2_with fail
    refine (awake_any V2 K2.out.en).mono ?_
    rintro e V3 ⟨rfl, hb⟩
    have HB3 := Lib.hid (B2.out.trans (hb.mono B2.out.size))
    clear hb
    go_wp2
    go_ret
    exact ⟨rfl, HB3.out⟩
end Go.Proofs.YtfffhbolaimmdaaDoor
