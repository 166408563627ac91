import Derived.Test.YtbhkglokdomajaaDoorC1
import Derived.Test.YtbhkglokdomajaaDoorA3
import Derived.Test.YtbhkglokdomajaaDoorT0
import Derived.Test.YtbhkglokdomajaaDoorT1
import Derived.Test.YtbhkglokdomajaaDoorT2
import Derived.Deep.DeepCutAuto
namespace Go.Proofs.YtbhkglokdomajaaDoor
open Go.RowKit
/-! The law RuleProof. -/
structure LwP (d : Die) (A : Option Addr) (l : List Stint) (A3 : Option Addr) (bys : List Int) (bs : Nat) (W : World) : Prop where
  da : DieAt W W.heap.size d
  la : At W W.heap.size 2 Stint.cells A l
  ba : At W W.heap.size 1 u8cell A3 bys
  en : Env W
  bx : Bx W bs (dieL d)
theorem LwP.next {d : Die} {A : Option Addr} {l : List Stint} {A3 : Option Addr} {bys : List Int} {bs : Nat} {W W' : World} (h : LwP d A l A3 bys bs W) (hb : Below W.heap.size W W') : LwP d A l A3 bys bs W' := ⟨h.da.next hb, h.la.next hb, h.ba.next hb, h.en.next hb, h.bx.next hb⟩
structure StC (b o : Nat) (n more : Int) (W : World) : Prop where
  lt : b < W.heap.size
  c0 : W.cell? ⟨b, o, none⟩ = some (.int .i64 n)
  c1 : W.cell? ⟨b, o + 1, none⟩ = some (.int .i64 more)
theorem StC.next {b o : Nat} {n more : Int} {W W' : World} (h : StC b o n more W) (hb : Below W.heap.size W W') : StC b o n more W' := ⟨Nat.lt_of_lt_of_le h.lt hb.size, ((bcell hb).1 _ _ h.lt).trans h.c0, ((bcell hb).1 _ _ h.lt).trans h.c1⟩
structure CeC (b o : Nat) (v : Value) (W : World) : Prop where
  lt : b < W.heap.size
  c : W.cell? ⟨b, o, none⟩ = some v
theorem CeC.next {b o : Nat} {v : Value} {W W' : World} (h : CeC b o v W) (hb : Below W.heap.size W W') : CeC b o v W' := ⟨Nat.lt_of_lt_of_le h.lt hb.size, ((bcell hb).1 _ _ h.lt).trans h.c⟩
theorem bxOf {B : Nat} {V W : World} (_ : Below B V W) (vs : Array Value) (t : TypeId) : Bx (W.alloc (.cells vs t)) W.heap.size vs.toList := Bx.new W vs t
def R9P (d : Die) (l : List Stint) (V : World) (bv kv : Value) (W : World) : Prop := ∃ (k : Nat) (bb : Bool), k ≤ l.length ∧ kv = .int .i64 k ∧ bv = .bool bb ∧ (bb = false → ∀ i, i < k → stuckS d.blades d.bound l i i = none) ∧ Below V.heap.size V W
def R19P (d : Die) (l : List Stint) (rs : List (Nat × Nat × Nat)) (g : Nat) (V : World) (lv iv : Value) (W : World) : Prop := ∃ i : Nat, i ≤ rs.length ∧ iv = .int .i64 i ∧ lv = .int .i64 (rowLo rs i : Nat) ∧ IBlk W g (l.length - 1) (allF rs ((2 : Int) ^ d.blades.length - 1) i) ∧ Below g V W
def R27P (l : List Stint) (a b : Nat) (V : World) (rv sv : Value) (W : World) : Prop := ∃ s : Nat, a ≤ s ∧ s ≤ b + 1 ∧ sv = .int .i64 s ∧ rv = .int .i64 (runSum l a s) ∧ Below V.heap.size V W
def R45P (rs : List (Nat × Nat × Nat)) (V : World) (iv : Value) (W : World) : Prop := ∃ i : Nat, i ≤ rs.length ∧ iv = .int .i64 i ∧ Below V.heap.size V W
def R49P (plan : List Int) (a b : Nat) (V : World) (bv sv : Value) (W : World) : Prop := ∃ (s : Nat) (bb : Bool), a < s ∧ s ≤ b + 1 ∧ sv = .int .i64 s ∧ bv = .bool bb ∧ (bb = false → ∀ t, a < t → t < s → plan.getD (t - 1) 0 ≤ 0) ∧ Below V.heap.size V W
def mask9 : List (Option Nat) := [none, none, none, none, none, none, none, none, none, none, some 10, some 11, some 12, some 13, none, none, none, none, none, none, none, none, none, none, none, none, none, none, none, none, none, none, none, none, none, none, none, none, none, none, none, none, none, none, none, none, none, none, none, none, none, none, none, none, none, none, none, none, none, none, none, none, none, none, none, none, none, none, none, none, none, none, none, none, none, none, some 76, some 77, some 78, some 79, some 80, some 81, some 82, some 83, some 84, some 85, some 86, some 87, some 88, some 89, some 90, some 91, some 92, some 93, none, none, none, none, none, none, none, none, none, none, none, none, none, none, none, none, none, none, none, none, none, none, none, none, none, none, none, none, none, none, none, none, none, none, none, none, none, none, none, none, none, none, none, none, none, none, none, none, none, none, none, none, none, none, none, none, none, none, none, none, none, none, none, none, none, none, none, none, none, none, none, none, none, none, none, none, none, none, none, none, none, none, none, none, none, none, none, none, none, none, none, none, none, none, none, none, none, none, none, none, none, none, none, none, none, none, none, none, none, none, none, none, none, none, none, none, none, none, none, none, none, none, none, none, none, none, none, none, none, none, none, none, none, none, none, none, none, none, none, none, none, none, none, none, none, none, none, none, none, none, none, none, none, none, none, none, none, none, none, none, none, none, none, none, none, none, none, none, none, none, none, none, none, none, none, none, none, none, none, none, none, none, none, none, none, none, none, none, none, none, none, none]
def mask19 : List (Option Nat) := [none, none, none, none, none, none, some 6, none, none, none, none, none, none, none, none, some 15, some 16, some 17, some 18, some 19, some 20, some 21, some 22, some 23, none, none, none, none, none, none, none, none, none, none, none, none, none, none, none, none, none, none, none, none, none, none, none, none, none, none, none, none, none, none, none, none, none, none, none, none, none, none, none, none, none, none, none, none, none, none, none, none, none, none, none, none, none, none, none, none, none, none, none, none, none, none, none, none, none, none, none, none, none, none, none, none, none, none, none, none, none, none, none, none, none, none, none, none, some 108, some 109, some 110, some 111, some 112, some 113, some 114, some 115, some 116, some 117, some 118, some 119, some 120, some 121, some 122, some 123, some 124, some 125, some 126, some 127, some 128, some 129, some 130, some 131, some 132, some 133, some 134, some 135, some 136, some 137, some 138, some 139, some 140, some 141, some 142, some 143, some 144, some 145, some 146, some 147, some 148, some 149, some 150, some 151, some 152, some 153, some 154, some 155, some 156, some 157, some 158, some 159, some 160, some 161, some 162, some 163, some 164, some 165, some 166, some 167, some 168, some 169, some 170, some 171, some 172, some 173, some 174, some 175, some 176, some 177, some 178, some 179, some 180, some 181, some 182, some 183, some 184, some 185, some 186, some 187, some 188, some 189, some 190, some 191, some 192, some 193, some 194, some 195, some 196, some 197, some 198, some 199, some 200, some 201, some 202, some 203, some 204, some 205, some 206, some 207, some 208, some 209, some 210, some 211, some 212, some 213, some 214, some 215, some 216, some 217, some 218, some 219, some 220, some 221, none, none, none, none, none, none, none, none, none, none, none, none, none, none, none, none, none, none, none, none, none, none, none, none, none, none, none, none, none, none, none, none, none, none, none, none, none, none, none, none, none, none, none, none, none, none, none, none, none, none, none, none, none, none, none, none, none, none, none, none, none, none, none, none]
def mask27p : List (Option Nat) := [none, none, none, none, none, none, some 6, none, none, none, none, none, none, none, none, none, none, none, some 18, some 19, some 20, some 21, none, none, none, none, none, none, none, none, none, none, none, none, none, none, none, none, none, none, none, none, none, none, none, none, none, none, none, none, none, none, none, none, none, none, none, none, none, none, none, none, none, none, none, none, none, none, none, none, none, none, none, none, none, none, none, none, none, none, none, none, none, none, none, none, none, none, none, none, none, none, none, none, none, none, none, none, none, none, none, none, none, none, none, none, none, none, none, none, none, none, none, none, none, none, none, none, none, none, none, none, none, none, none, none, none, none, none, none, none, none, none, none, none, none, none, none, none, none, none, none, none, none, none, none, none, none, none, none, none, none, none, none, none, none, none, some 157, some 158, some 159, some 160, some 161, some 162, some 163, some 164, some 165, some 166, some 167, some 168, some 169, some 170, some 171, some 172, some 173, some 174, some 175, some 176, some 177, some 178, some 179, some 180, some 181, some 182, some 183, some 184, some 185, some 186, some 187, some 188, some 189, some 190, some 191, some 192, some 193, some 194, some 195, some 196, some 197, some 198, some 199, none, none, none, none, none, none, none, none, none, none, none, none, none, none, none, none, none, none, none, none, none, none, none, none, none, none, none, none, none, none, none, none, none, none, none, none, none, none, none, none, none, none, none, none, none, none, none, none, none, none, none, none, none, none, none, none, none, none, none, none, none, none, none, none, none, none, none, none, none, none, none, none, none, none, none, none, none, none, none, none, none, none, none, none, none, none]
def mask45 : List (Option Nat) := [none, none, none, none, none, none, some 6, none, none, none, none, none, none, none, none, none, none, none, none, none, none, none, none, none, none, none, none, none, none, none, none, none, none, some 33, some 34, some 35, none, none, none, none, none, none, none, none, none, none, none, none, none, none, none, none, none, none, none, none, none, none, none, none, none, none, none, none, none, none, none, none, none, none, none, none, none, none, none, none, none, none, none, none, none, none, none, none, none, none, none, none, none, none, none, none, none, none, none, none, none, none, none, none, none, none, none, none, none, none, none, none, none, none, none, none, none, none, none, none, none, none, none, none, none, none, none, none, none, none, none, none, none, none, none, none, none, none, none, none, none, none, none, none, none, none, none, none, none, none, none, none, none, none, none, none, none, none, none, none, none, none, none, none, none, none, none, none, none, none, none, none, none, none, none, none, none, none, none, none, none, none, none, none, none, none, none, none, none, none, none, none, none, none, none, none, none, none, none, none, none, none, none, none, none, none, none, none, none, none, none, none, none, none, none, none, none, none, none, none, none, none, none, none, none, none, none, none, none, none, none, none, none, none, none, none, none, none, none, none, none, none, none, none, none, none, none, none, none, none, none, none, none, none, none, none, none, some 253, some 254, some 255, some 256, some 257, some 258, some 259, some 260, some 261, some 262, some 263, some 264, some 265, some 266, some 267, some 268, some 269, some 270, some 271, some 272, some 273, some 274, some 275, some 276, some 277, some 278, some 279, some 280, some 281, some 282, some 283, some 284, none]
def mask49 : List (Option Nat) := [none, none, none, none, none, none, none, none, none, none, none, none, none, none, none, none, none, none, none, none, none, none, none, none, none, none, none, none, none, none, none, none, none, none, some 34, some 35, none, none, none, none, none, none, none, none, none, none, none, none, none, none, none, none, none, none, none, none, none, none, none, none, none, none, none, none, none, none, none, none, none, none, none, none, none, none, none, none, none, none, none, none, none, none, none, none, none, none, none, none, none, none, none, none, none, none, none, none, none, none, none, none, none, none, none, none, none, none, none, none, none, none, none, none, none, none, none, none, none, none, none, none, none, none, none, none, none, none, none, none, none, none, none, none, none, none, none, none, none, none, none, none, none, none, none, none, none, none, none, none, none, none, none, none, none, none, none, none, none, none, none, none, none, none, none, none, none, none, none, none, none, none, none, none, none, none, none, none, none, none, none, none, none, none, none, none, none, none, none, none, none, none, none, none, none, none, none, none, none, none, none, none, none, none, none, none, none, none, none, none, none, none, none, none, none, none, none, none, none, none, none, none, none, none, none, none, none, none, none, none, none, none, none, none, none, none, none, none, none, none, none, none, none, none, none, none, none, none, none, none, none, none, none, none, none, none, none, none, none, none, none, none, none, none, none, none, none, some 265, some 266, some 267, some 268, some 269, some 270, some 271, some 272, some 273, some 274, some 275, some 276, some 277, some 278, some 279, some 280, some 281, some 282, none, none, none]
set_option maxRecDepth 100000 in
set_option maxHeartbeats 4000000 in
theorem RuleProof_walk (d : Die) (A : Option Addr) (c : Nat) (l : List Stint) (A3 : Option Addr) (c3 : Nat) (bys : List Int) (w : World) (hd : DieAt w w.heap.size d) (hr : At w w.heap.size 2 Stint.cells A l) (hl : l.length ≤ 9223372036854775807) (hb : At w w.heap.size 1 u8cell A3 bys) (hbl : bys.length ≤ 9223372036854775807) (hbv : ∀ x ∈ bys, 0 ≤ x ∧ x < 256) (he : Env w) :
    Calls Tryd.prog 9 #[.agg #[.slice d.A d.blades.length d.c, .int .i64 d.bound, .int .i64 d.stop, .int .i64 d.bend], .slice A l.length c, .slice A3 bys.length c3] w (Ret (.bool true) w) := by
  have K := Lib.hid (show LwP d A l A3 bys w.heap.size (w.alloc (.cells #[.slice d.A d.blades.length d.c, .int .i64 d.bound, .int .i64 d.stop, .int .i64 d.bend] 24)) from ⟨hd.next (nxA _ _), hr.next (nxA _ _), hb.next (nxA _ _), he.next (nxA _ _), Bx.new w #[.slice d.A d.blades.length d.c, .int .i64 d.bound, .int .i64 d.stop, .int .i64 d.bend] 24⟩)
  have HB := Lib.hid (nxA w (.cells #[.slice d.A d.blades.length d.c, .int .i64 d.bound, .int .i64 d.stop, .int .i64 d.bend] 24))
  have HL := Lib.hid hl
  have HBL := Lib.hid hbl
  have HBV := Lib.hid hbv
  clear hd hr hb hl hbl hbv he
  go_enter Tryd.func9, Tryd.ntmps9
  go_wp2_with fail
  generalize (w.alloc (.cells #[.slice d.A d.blades.length d.c, .int .i64 d.bound, .int .i64 d.stop, .int .i64 d.bend] 24)) = V1 at *
  have p0 := K.out.bx.c 0 _ rfl
  have p1 := K.out.bx.c 1 _ rfl
  have p2 := K.out.bx.c 2 _ rfl
  have p3 := K.out.bx.c 3 _ rfl
  go_wp2_with fail
  refine (far_any d A none l.length c 0 0 V1).mono ?_
  rintro e V2 ⟨bf, rfl, hb⟩
  replace K := Lib.hid (K.out.next hb)
  replace HB := Lib.hid (HB.out.trans (hb.mono HB.out.size))
  clear hb p0 p1 p2 p3
  cases bf
  rotate_left
  · go_wp2_with fail
    refine (awake_any V2 K.out.en).mono ?_
    rintro e V99 ⟨rfl, hb⟩
    go_wp2_with fail
    go_ret
    exact ⟨rfl, HB.out.trans (hb.mono HB.out.size)⟩
  · skip
    by_cases hb0 : bys = []
    · go_wp2_with fail
      refine (awake_any V2 K.out.en).mono ?_
      rintro e V99 ⟨rfl, hb⟩
      go_wp2_with fail
      go_ret
      exact ⟨rfl, HB.out.trans (hb.mono HB.out.size)⟩
    · have hb1 : 0 < bys.length := List.length_pos_iff.2 hb0
      have p0 := K.out.bx.c 0 _ rfl
      have p1 := K.out.bx.c 1 _ rfl
      have p2 := K.out.bx.c 2 _ rfl
      have p3 := K.out.bx.c 3 _ rfl
      go_wp2_with fail
      refine (Die_any d V2 K.out.da).mono ?_
      rintro e V3 ⟨rfl, hb⟩
      replace K := Lib.hid (K.out.next hb)
      replace HB := Lib.hid (HB.out.trans (hb.mono HB.out.size))
      clear hb p0 p1 p2 p3
      cases hds : dieS d
      · go_wp2_with fail
        refine (awake_any V3 K.out.en).mono ?_
        rintro e V99 ⟨rfl, hb⟩
        go_wp2_with fail
        go_ret
        exact ⟨rfl, HB.out.trans (hb.mono HB.out.size)⟩
      · skip
        go_wp2_with fail
        refine (Stints_any A c l V3 K.out.la HL.out).mono ?_
        rintro e V4 ⟨rfl, hb⟩
        replace K := Lib.hid (K.out.next hb)
        replace HB := Lib.hid (HB.out.trans (hb.mono HB.out.size))
        clear hb 
        cases hst : stintsS l
        · go_wp2_with fail
          refine (awake_any V4 K.out.en).mono ?_
          rintro e V99 ⟨rfl, hb⟩
          go_wp2_with fail
          go_ret
          exact ⟨rfl, HB.out.trans (hb.mono HB.out.size)⟩
        · skip
          have OK := Lib.hid ((okd_iff d).1 hds)
          have OKL := Lib.hid ((okl_iff l).1 hst)
          have hch := check_zero.2 ⟨hds, hst⟩
          have HCH := Lib.hid hch
          have HPR := Lib.hid (show proofR d l = (if alonesS d.blades d.bound l = false then ([], 4) else (proofS d.blades d.bound l, 0)) from by unfold proofR; rw [if_neg (fun h => h hch)])
          have hll := OKL.out.nl
          have hnb := OK.out.nb
          clear hds hst hch
          have p0 := K.out.bx.c 0 _ rfl
          have p1 := K.out.bx.c 1 _ rfl
          have p2 := K.out.bx.c 2 _ rfl
          have p3 := K.out.bx.c 3 _ rfl
          go_wp2_with fail
          have hcon := (Proof_any d A c l V4 K.out.da K.out.la HL.out K.out.en)
          by_cases hal : alonesS d.blades d.bound l = false
          · rw [HPR.out, if_pos hal] at hcon
            refine (hcon).mono ?_
            rintro e V5 ⟨A1, c1, A2, c2, rfl, -, -, hb⟩
            replace K := Lib.hid (K.out.next hb)
            replace HB := Lib.hid (HB.out.trans (hb.mono HB.out.size))
            clear hb p0 p1 p2 p3 hcon
            dsimp only [List.length_nil]
            go_wp2_with fail
            refine wp_loopM mask9 (fun g W => R9P d l V5 (g 10) (g 11) W) (fun g _ => l.length - (intOf (g 11)).toNat) (by kernel_rfl) ?_ ?_
            · exact ⟨0, false, by omega, slotF_at rfl, slotF_at rfl, fun _ i h => by omega, Below.refl _ _⟩
            intro f wr hrel
            obtain ⟨k, bb, hk, e11, e10, hs, hb1⟩ := hrel
            simp only [mask9, mixF, e10, e11]
            have E11 := Lib.hid e11
            clear e10 e11
            replace K := Lib.hid (K.out.next hb1)
            have BT := Lib.hid hb1
            have HS := Lib.hid hs
            clear hb1 hs
            generalize wr = V20 at *
            by_cases hlt : k < l.length
            rotate_left
            · obtain rfl : k = l.length := by omega
              cases bb
              · exact (alones_stuck hal (HS.out rfl)).elim
              · skip
                go_wp2_with fail
                refine (awake_any V20 K.out.en).mono ?_
                rintro e V99 ⟨rfl, hb⟩
                go_wp2_with fail
                go_ret
                exact ⟨rfl, HB.out.trans ((BT.out.trans (hb.mono BT.out.size)).mono HB.out.size)⟩
            · skip
              have p0 := K.out.bx.c 0 _ rfl
              have p1 := K.out.bx.c 1 _ rfl
              have p2 := K.out.bx.c 2 _ rfl
              have p3 := K.out.bx.c 3 _ rfl
              go_wp2_with fail
              refine (Stuck_any d A c l k k V20 OK.out OKL.out (by omega) hlt K.out.da K.out.la).mono ?_
              rintro e V21 ⟨rfl, hb⟩
              replace K := Lib.hid (K.out.next hb)
              replace BT := Lib.hid (BT.out.trans (hb.mono BT.out.size))
              clear hb p0 p1 p2 p3
              cases hsk : stuckS d.blades d.bound l k k with
              | none =>
                have HS2 := Lib.hid (fun (h : bb = false) (i : Nat) (hi : i < k + 1) => (show stuckS d.blades d.bound l i i = none from by
                  by_cases e : i = k
                  · subst e; exact hsk
                  · exact HS.out h i (by omega)))
                dsimp only [stuckV]
                cases bb
                · have HS3 := Lib.hid (HS2.out rfl)
                  go_wp2_with fail
                  refine endM (by kernel_rfl) (by kernel_rfl) ?_ ?_
                  · exact ⟨k + 1, false, by omega, (slotF_at rfl).trans (by go_num), slotF_at rfl, fun _ => HS3.out, BT.out⟩
                  · (simp [slotF, intOf, E11.out]; omega)
                · go_wp2_with fail
                  refine endM (by kernel_rfl) (by kernel_rfl) ?_ ?_
                  · exact ⟨k + 1, true, by omega, (slotF_at rfl).trans (by go_num), slotF_at rfl, (fun h => by cases h), BT.out⟩
                  · (simp [slotF, intOf, E11.out]; omega)
              | some q =>
                dsimp only [stuckV]
                cases bb
                · go_wp2_with fail
                  refine endM (by kernel_rfl) (by kernel_rfl) ?_ ?_
                  · exact ⟨k + 1, true, by omega, (slotF_at rfl).trans (by go_num), slotF_at rfl, (fun h => by cases h), BT.out⟩
                  · (simp [slotF, intOf, E11.out]; omega)
                · go_wp2_with fail
                  refine endM (by kernel_rfl) (by kernel_rfl) ?_ ?_
                  · exact ⟨k + 1, true, by omega, (slotF_at rfl).trans (by go_num), slotF_at rfl, (fun h => by cases h), BT.out⟩
                  · (simp [slotF, intOf, E11.out]; omega)
          · have hal1 : alonesS d.blades d.bound l = true := by simpa using hal
            rw [HPR.out, if_neg hal] at hcon
            obtain ⟨rs, hrs⟩ : ∃ rs, rs = proofS d.blades d.bound l := ⟨_, rfl⟩
            have hrw := rows_ok hal1
            rw [← hrs] at hcon hrw
            have hrl := rows_len hrw
            have HRW := Lib.hid hrw
            have HAL := Lib.hid hal1
            clear hrs hrw hal hal1
            refine (hcon).mono ?_
            rintro e V5 ⟨A1, c1, A2, c2, rfl, ra, fa, hb⟩
            replace K := Lib.hid (K.out.next hb)
            replace HB := Lib.hid (HB.out.trans (hb.mono HB.out.size))
            have RA := Lib.hid (show At _ _ 2 spv A1 (spansOf rs) from ra)
            have FA := Lib.hid (show At _ _ 1 icell A2 (firstsOf rs) from fa)
            clear hb p0 p1 p2 p3 hcon ra fa
            dsimp only
            go_upto_region 16 with fail
            obtain ⟨N, hN⟩ : ∃ N, l.length - 1 = N := ⟨_, rfl⟩
            have hNm : max 0 ((l.length : Int) - 1) = (N : Int) := by omega
            obtain ⟨i0, hi, hz0, hz1, hz2⟩ := info_parts int_info
            have hmk : ∀ W : World, (Instr.makeSlice 34 (.int .i64 (N : Int)) (.int .i64 (N : Int))).run Tryd.prog W = .ok (.slice (some ⟨W.heap.size, 0, none⟩) N N) (W.alloc (.cells (zeros N) 3)) := fun W => by
              have := run_make (P := Tryd.prog) W 34 3 i0 (.int .i64 0) Tryd.underlying34 hi hz0 .i64 .i64 N N (by omega) (by omega) (by rw [hz2]; omega) (by omega)
              rw [hz1] at this
              simpa [zeros, Value.cells] using this
            clear hi hz0 hz1 hz2
            go_cut [14] (fun s14 wx => s14 = .slice (some ⟨V5.heap.size, 0, none⟩) N N ∧ wx = V5.alloc (.cells (zeros N) 3))
            case first =>
              by_cases hN1 : 1 < (l.length : Int)
              · rw [show (N : Int) = (l.length : Int) - 1 by omega] at hmk
                go_wp2_with fail
                go_meet
                exact ⟨rfl, rfl⟩
              · rw [show (N : Int) = 0 by omega] at hmk
                go_wp2_with fail
                go_meet
                exact ⟨rfl, rfl⟩
            case rest =>
              obtain ⟨rfl, rfl⟩ := hcut
              clear hmk
              go_wp2_with fail
              have hwg := K.out.bx.lt
              have HZ := Lib.hid (show IBlk (V5.alloc (.cells (zeros N) 3)) V5.heap.size (l.length - 1) (allF rs ((2 : Int) ^ d.blades.length - 1) 0) from by rw [hN]; exact (IBlk.zeros _ _ _).congr fun j => allF_zero _ _ j)
              have HA0 := Lib.hid ((Below.refl V5.heap.size V5).alloc (Nat.le_refl _) (.cells (zeros N) 3))
              generalize (V5.alloc (.cells (zeros N) 3)) = V30 at *
              refine wp_loopM mask19 (fun g W => R19P d l rs V5.heap.size V5 (g 15) (g 16) W) (fun g _ => rs.length - (intOf (g 16)).toNat) (by kernel_rfl) ?_ ?_
              · exact ⟨0, by omega, slotF_at rfl, slotF_at rfl, HZ.out, HA0.out⟩
              clear HZ HA0
              intro f wr hrel
              obtain ⟨i, hi, e16, e15, hbk, hb2⟩ := hrel
              have HB2 := Lib.hid hb2
              have BK := Lib.hid hbk
              replace K := Lib.hid (K.out.next hb2)
              replace RA := Lib.hid (RA.out.next hb2)
              replace FA := Lib.hid (FA.out.next hb2)
              have hg := hbk.lt
              clear hb2 hbk
              have HREL := Lib.hid (fun (W : World) (lv iv : Value) (hiv : iv = .int .i64 ((i + 1 : Nat) : Int)) (hle : i + 1 ≤ rs.length) (hlv : lv = .int .i64 (rowLo rs (i + 1) : Nat)) (hk : IBlk W V5.heap.size (l.length - 1) (allF rs ((2 : Int) ^ d.blades.length - 1) (i + 1))) (hb : Below V5.heap.size V5 W) => (show R19P d l rs V5.heap.size V5 lv iv W from ⟨i + 1, hle, hiv, hlv, hk, hb⟩))
              have HB3 := Lib.hid (fun (W : World) (h : Below V5.heap.size V5 W) => HB.out.trans (h.mono HB.out.size))
              clear HB
              generalize V5.heap.size = g at *
              generalize wr = V40 at *
              by_cases hlt : i < rs.length
              · obtain ⟨h1, h2, h3, h4, h5⟩ := rows_get HRW.out hlt
                have hff := allF_next (full := (2 : Int) ^ d.blades.length - 1) hlt (by omega)
                rw [← h1] at e15
                simp only [mask19, mixF, e15, e16]
                have E16 := Lib.hid e16
                clear e15 e16
                obtain ⟨b1, o1, eA, hbb, t0, t1⟩ := spans_at RA.out hlt
                obtain ⟨b2, o2, eF, hbf, f0⟩ := firsts_at FA.out hlt
                have hnext := rowLo_next rs i
                have HFF := Lib.hid hff
                clear hff h1
                generalize rs.getD i (0, 0, 0) = x at *
                obtain ⟨a, b, q⟩ := x
                dsimp only at h2 h3 h4 h5 t0 t1 f0 hnext HFF
                have hq := (stuckS_some h5).1
                have HROW := Lib.hid (fun s h h' => row_first (i := s) h4 h5 h2 h h')
                have H4 := Lib.hid h4
                clear h4 h5
                have EF := Lib.hid eF
                subst eA
                subst eF
                rw [hnext] at HREL
                clear hnext
                go_upto_region 22 with fail
                have hgV := BK.out.lt
                have hA := nxA V40 (.cells #[.int .i64 (a : Int), .int .i64 (b : Int)] 28)
                replace RA := Lib.hid (RA.out.next hA)
                replace FA := Lib.hid (FA.out.next hA)
                replace BK := Lib.hid (BK.out.next hA)
                replace K := Lib.hid (K.out.next hA)
                replace HB2 := Lib.hid (HB2.out.trans (hA.mono (by omega)))
                have SB := Lib.hid (Bx.new V40 #[.int .i64 (a : Int), .int .i64 (b : Int)] 28)
                replace f0 := ((bcell hA).1 _ _ hbf).trans f0
                clear hA t0 t1 hbb
                generalize (V40.alloc (.cells #[.int .i64 (a : Int), .int .i64 (b : Int)] 28)) = V41 at *
                generalize V40.heap.size = b3 at *
                have q0 := SB.out.c 0 _ rfl
                have q1 := SB.out.c 1 _ rfl
                have p0 := K.out.bx.c 0 _ rfl
                have d1 : ¬ (b : Int) ≤ a := by omega
                have d2 : ¬ (l.length : Int) ≤ b := by omega
                have d3 : ¬ (q : Int) < 0 := by omega
                have d4 : ¬ (d.blades.length : Int) ≤ q := by omega
                have d5 : decide ((b : Int) ≤ a) = false := decide_eq_false d1
                have d6 : decide ((l.length : Int) ≤ b) = false := decide_eq_false d2
                have d7 : decide ((q : Int) < 0) = false := decide_eq_false d3
                have d8 : decide ((d.blades.length : Int) ≤ q) = false := decide_eq_false d4
                go_quiet (fail)
                go_wp2_with fail
                have FC := Lib.hid (show CeC b2 (o2 + i) (.int .i64 (q : Int)) V41 from ⟨Nat.lt_trans hbf SB.out.lt, f0⟩)
                clear q0 q1 p0 d1 d2 d3 d4 d5 d6 d7 d8 f0 hbf hgV
                have hb := below_drewN (Below.refl V41.heap.size V41) nq
                replace HB2 := Lib.hid (HB2.out.trans (hb.mono (Nat.le_of_lt BK.out.lt)))
                replace RA := Lib.hid (RA.out.next hb)
                replace FA := Lib.hid (FA.out.next hb)
                replace BK := Lib.hid (BK.out.next hb)
                replace SB := Lib.hid (SB.out.next hb)
                replace FC := Lib.hid (FC.out.next hb)
                replace K := Lib.hid (K.out.next hb)
                clear hb
                generalize V41.drewN nq = V42 at *
                have hmm := hrl
                refine wp_loopM mask27p (fun g W => R27P l a b V42 (g 18) (g 19) W) (fun g _ => b + 1 - (intOf (g 19)).toNat) (by kernel_rfl) ?_ ?_
                · exact ⟨a, by omega, by omega, slotF_at rfl, (slotF_at rfl).trans (by rw [runSum_self]), Below.refl _ _⟩
                intro f3 wr hrel
                obtain ⟨s, hs1, hs2, e19, e18, hb3⟩ := hrel
                simp only [mask27p, mixF, e18, e19]
                have E19 := Lib.hid e19
                clear e18 e19
                replace HB2 := Lib.hid (HB2.out.trans (hb3.mono (Nat.le_of_lt BK.out.lt)))
                replace RA := Lib.hid (RA.out.next hb3)
                replace FA := Lib.hid (FA.out.next hb3)
                replace BK := Lib.hid (BK.out.next hb3)
                replace SB := Lib.hid (SB.out.next hb3)
                replace FC := Lib.hid (FC.out.next hb3)
                replace K := Lib.hid (K.out.next hb3)
                have BT := Lib.hid hb3
                clear hb3
                generalize wr = V50 at *
                by_cases hsb : s ≤ b
                rotate_left
                · obtain rfl : s = b + 1 := by omega
                  clear BT
                  have p0 := K.out.bx.c 0 _ rfl
                  have p1 := K.out.bx.c 1 _ rfl
                  have p2 := K.out.bx.c 2 _ rfl
                  have p3 := K.out.bx.c 3 _ rfl
                  have q0 := SB.out.c 0 _ rfl
                  have q1 := SB.out.c 1 _ rfl
                  go_wp2_with fail
                  have hcon := (Stuck_any d A c l a (b - 1) V50 OK.out OKL.out (by omega) (by omega) K.out.da K.out.la)
                  rw [H4.out, show ((b - 1 : Nat) : Int) = (b : Int) - 1 by omega] at hcon
                  dsimp only [stuckV] at hcon
                  refine (hcon).mono ?_
                  rintro e V51 ⟨rfl, hb⟩
                  replace HB2 := Lib.hid (HB2.out.trans (hb.mono (Nat.le_of_lt BK.out.lt)))
                  replace RA := Lib.hid (RA.out.next hb)
                  replace FA := Lib.hid (FA.out.next hb)
                  replace BK := Lib.hid (BK.out.next hb)
                  replace SB := Lib.hid (SB.out.next hb)
                  replace FC := Lib.hid (FC.out.next hb)
                  replace K := Lib.hid (K.out.next hb)
                  clear hb p0 p1 p2 p3 q0 q1 hcon
                  dsimp only
                  go_wp2_with fail
                  obtain ⟨F, hF⟩ : ∃ F, (2 : Int) ^ d.blades.length = F := ⟨_, rfl⟩
                  have hF1 : 2 ≤ F ∧ F ≤ 32 := by
                    have h5 : d.blades.length = 1 ∨ d.blades.length = 2 ∨ d.blades.length = 3 ∨ d.blades.length = 4 ∨ d.blades.length = 5 := by omega
                    rw [← hF]
                    rcases h5 with h5 | h5 | h5 | h5 | h5 <;> rw [h5] <;> decide
                  have hn6 : d.blades.length ≤ 63 := by omega
                  have hI3 : ((b : Int) - 1).toNat = b - 1 := by omega
                  have hI4 : 1 ≤ (b : Int) := by omega
                  have hI5 : (b : Int) - 1 < (N : Int) := by omega
                  have hw8 : IntKind.i64.wrap ((b : Int) - 1) = (b : Int) - 1 := IntWalk.i64_in _ (by omega)
                  have hw9 : IntKind.i64.wrap (F - 1) = F - 1 := IntWalk.i64_in _ (by omega)
                  have hw7 : IntKind.i64.wrap F = F := IntWalk.i64_in _ (by omega)
                  have hI2 : (0 ≤ (b : Int) - 1 ∧ (b : Int) - 1 < (N : Int)) = True := by simp; omega
                  have HC := Lib.hid (show ∀ W : World, Below V51.heap.size V51 W → (W.cell? ⟨b3, 1, none⟩ = some (.int .i64 (b : Int)) ∧ W.cell? ⟨w.heap.size, 0, none⟩ = some (.slice d.A d.blades.length d.c) ∧ W.cell? ⟨g, b - 1, none⟩ = some (.int .i64 (allF rs ((2 : Int) ^ d.blades.length - 1) i (b - 1))) ∧ W.frozen? ⟨g, b - 1, none⟩ = false) from fun W h => ⟨(SB.out.next h).c 1 _ rfl, (K.out.next h).bx.c 0 _ rfl, (BK.out.next h).cell (b - 1) (by omega), (BK.out.next h).free _⟩)
                  have hc : Below V51.heap.size V51 V51.drew := (Below.refl _ _).drew
                  rw [hF] at HC HFF HREL BK
                  generalize allF rs (F - 1) i (b - 1) = uold at *
                  refine wp_region_noPanic ?_
                  refine wp_region_held_drew (S := (fun W => W.cell? ⟨b3, 1, none⟩ = some (.int .i64 (b : Int)) ∧ W.cell? ⟨w.heap.size, 0, none⟩ = some (.slice d.A d.blades.length d.c))) (by kernel_rfl) ?_ (fun hHeld => ?_)
                  · (try dsimp only); exact ⟨(HC.out _ hc).1, (HC.out _ hc).2.1⟩
                  refine htake (i := 0) (v := ?v1) rfl (by kernel_rfl) (by kernel_rfl) (by kernel_rfl) (fun _ _ _ h => h) (Or.inl ⟨by rfl, ?hy1⟩) (by assumption) ?_
                  case hy1 => (intro w hSw; (try dsimp only at hSw); go_simp; try (with_reducible rfl))
                  try simp only [Act.put, List.setIfInBounds_toArray, List.set_cons_zero, List.set_cons_succ]
                  refine htake (i := 1) (v := ?v2) rfl (by kernel_rfl) (by kernel_rfl) (by kernel_rfl) (fun _ _ _ h => h) (Or.inl ⟨by rfl, ?hy2⟩) (by assumption) ?_
                  case hy2 => (intro w hSw; (try dsimp only at hSw); go_simp; try (with_reducible rfl))
                  try simp only [Act.put, List.setIfInBounds_toArray, List.set_cons_zero, List.set_cons_succ]
                  refine htake (i := 2) (v := ?v3) rfl (by kernel_rfl) (by kernel_rfl) (by kernel_rfl) (fun _ _ _ h => h) (Or.inl ⟨by rfl, ?hy3⟩) (by assumption) ?_
                  case hy3 => (intro w hSw; (try dsimp only at hSw); go_simp; try (with_reducible rfl))
                  try simp only [Act.put, List.setIfInBounds_toArray, List.set_cons_zero, List.set_cons_succ]
                  refine htake (i := 3) (v := ?v4) rfl (by kernel_rfl) (by kernel_rfl) (by kernel_rfl) (fun _ _ _ h => h) (Or.inl ⟨by rfl, ?hy4⟩) (by assumption) ?_
                  case hy4 => (intro w hSw; (try dsimp only at hSw); go_simp; try (with_reducible rfl))
                  try simp only [Act.put, List.setIfInBounds_toArray, List.set_cons_zero, List.set_cons_succ]
                  refine htake (i := 4) (v := ?v5) rfl (by kernel_rfl) (by kernel_rfl) (by kernel_rfl) (fun _ _ _ h => h) (Or.inl ⟨by rfl, ?hy5⟩) (by assumption) ?_
                  case hy5 => (intro w hSw; (try dsimp only at hSw); go_simp; try (with_reducible rfl))
                  try simp only [Act.put, List.setIfInBounds_toArray, List.set_cons_zero, List.set_cons_succ]
                  refine htake (i := 5) (v := ?v6) rfl (by kernel_rfl) (by kernel_rfl) (by kernel_rfl) (fun _ _ _ h => h) (Or.inl ⟨by rfl, ?hy6⟩) (by assumption) ?_
                  case hy6 => (intro w hSw; (try dsimp only at hSw); go_simp; try (with_reducible rfl))
                  try simp only [Act.put, List.setIfInBounds_toArray, List.set_cons_zero, List.set_cons_succ]
                  refine htake (i := 6) (v := ?v7) rfl (by kernel_rfl) (by kernel_rfl) (by kernel_rfl) (fun _ _ _ h => h) (Or.inl ⟨by rfl, ?hy7⟩) (by assumption) ?_
                  case hy7 => (intro w hSw; (try dsimp only at hSw); go_simp; try (with_reducible rfl))
                  try simp only [Act.put, List.setIfInBounds_toArray, List.set_cons_zero, List.set_cons_succ]
                  refine htake (i := 7) (v := ?v8) rfl (by kernel_rfl) (by kernel_rfl) (by kernel_rfl) (fun _ _ _ h => h) (Or.inl ⟨by rfl, ?hy8⟩) (by assumption) ?_
                  case hy8 => (intro w hSw; (try dsimp only at hSw); go_simp; try (with_reducible rfl))
                  try simp only [Act.put, List.setIfInBounds_toArray, List.set_cons_zero, List.set_cons_succ]
                  refine htake (i := 8) (v := ?v9) rfl (by kernel_rfl) (by kernel_rfl) (by kernel_rfl) (fun _ _ _ h => h) (Or.inl ⟨by rfl, ?hy9⟩) (by assumption) ?_
                  case hy9 => (intro w hSw; (try dsimp only at hSw); go_simp; try (with_reducible rfl))
                  try simp only [Act.put, List.setIfInBounds_toArray, List.set_cons_zero, List.set_cons_succ]
                  refine htake (i := 9) (v := ?v10) rfl (by kernel_rfl) (by kernel_rfl) (by kernel_rfl) (fun _ _ _ h => h) (Or.inl ⟨by rfl, ?hy10⟩) (by assumption) ?_
                  case hy10 => (intro w hSw; (try dsimp only at hSw); go_simp; try (with_reducible rfl))
                  try simp only [Act.put, List.setIfInBounds_toArray, List.set_cons_zero, List.set_cons_succ]
                  refine wpAnyH_ready (rs := [10]) (by kernel_rfl) (by simp) ?_
                  refine hcons rfl (fun K hK => ?_) (AllReadyH.nil)
                  obtain ⟨-, -, z1, z2⟩ := HC.out _ hc; go_simp
                  refine hK.out _ _ ?_ (fun hHeld => ?_)
                  · (try dsimp only); exact ⟨(World.cell?_setCell_other _ _ _ _ (by intro e; injection e with e; omega)).trans (HC.out _ hc).1, (World.cell?_setCell_other _ _ _ _ (by intro e; injection e with e; omega)).trans (HC.out _ hc).2.1⟩
                  clear hK K
                  try simp only [Act.put]
                  refine wpAnyH_done (by kernel_rfl) ?_ _
                  refine NoPanic.normal ?_
                  iterate 12 (try clear hHeld)
                  have HK2 := Lib.hid (show IBlk (V51.setCell ⟨g, b - 1, none⟩ (.int .i64 (F - 1))).drew g (l.length - 1) (allF rs (F - 1) (i + 1)) from (BK.out.set_ (j := b - 1) (by omega) HFF.out.1 HFF.out.2).drew)
                  have HB9 := Lib.hid (show Below g V5 (V51.setCell ⟨g, b - 1, none⟩ (.int .i64 (F - 1))).drew from (HB2.out.setCell (p := ⟨g, b - 1, none⟩) (Nat.le_refl _) _).drew)
                  clear HC hc HFF BK hI2 hI3 hI4 hI5 hw7 hw8 hw9
                  go_wp2_with fail
                  refine endM (by kernel_rfl) (by kernel_rfl) ?_ ?_
                  · refine HREL.out _ _ _ ?_ (by omega) ?_ HK2.out HB9.out
                    · exact (slotF_at rfl).trans (by go_num)
                    · exact slotF_at rfl
                  · (simp [slotF, intOf, E16.out]; try omega)
                · have hls : s < l.length := by omega
                  have htk := OKL.out.st (l.getD s ⟨0, 0⟩) (by rw [List.getD_eq_getElem?_getD, List.getElem?_eq_getElem hls]; exact List.getElem_mem hls)
                  obtain ⟨bs, os, eS, hbs, t0, t1⟩ := stint_at K.out.la hls
                  subst eS
                  have hrn := runSum_succ hs1 hls
                  have hrb0 := runSum_bd OKL.out s hs1 (by omega)
                  have hrb1 := runSum_bd OKL.out (a := a) (s + 1) (by omega) (by omega)
                  have hrow := HROW.out s hs1 hsb
                  have HREL3 := Lib.hid (fun (W : World) (rv sv : Value) (hsv : sv = .int .i64 ((s + 1 : Nat) : Int)) (hrv : rv = .int .i64 (runSum l a (s + 1))) (hb : Below V42.heap.size V42 W) => (show R27P l a b V42 rv sv W from ⟨s + 1, by omega, by omega, hsv, hrv, hb⟩))
                  have hoff := offS_in OK.out hq (x := runSum l a (s + 1)) hrb1.1 (by omega)
                  generalize runSum l a (s + 1) = R1 at *
                  generalize runSum l a s = R at *
                  generalize l.getD s ⟨0, 0⟩ = st at *
                  obtain ⟨n, more⟩ := st
                  dsimp only at htk t0 t1 hrn hrow
                  have hR1 : R + n = R1 := hrn.symm
                  clear hrn
                  have hrow1 : d.bound + more < (bladeAt d q).fh + (bladeAt d q).wh * R1 ↔ s = b := hrow
                  obtain ⟨olo, hol⟩ : ∃ z, (bladeAt d q).fl + (bladeAt d q).wl * R1 = z := ⟨_, rfl⟩
                  obtain ⟨ohi, hoh⟩ : ∃ z, (bladeAt d q).fh + (bladeAt d q).wh * R1 = z := ⟨_, rfl⟩
                  rw [hol, hoh] at hoff
                  rw [hoh] at hrow1
                  clear hol hoh hrow
                  have TS := Lib.hid (show StC bs (os + s * 2) n more V50 from ⟨hbs, t0, t1⟩)
                  clear t1 hbs
                  have q1 := SB.out.c 1 _ rfl
                  go_upto_region 30 with fail
                  clear q1
                  have HCON := Lib.hid (show ∀ W : World, Below V50.heap.size V50 W → Calls Tryd.prog 14 #[.agg #[.slice d.A d.blades.length d.c, .int .i64 d.bound, .int .i64 d.stop, .int .i64 d.bend], .int .i64 (q : Int), .int .i64 R1] W (Ret (.tuple #[.agg #[.int .i64 olo, .int .i64 ohi], .int .i64 0]) W) from fun W h => by
                    have hcon := Off_any d (q : Int) R1 W (K.out.next h).da
                    rw [hoff] at hcon
                    exact hcon)
                  clear hoff t0
                  have HC := Lib.hid (show ∀ W : World, Below V50.heap.size V50 W → (W.cell? ⟨w.heap.size, 0, none⟩ = some (.slice d.A d.blades.length d.c) ∧ W.cell? ⟨w.heap.size, 1, none⟩ = some (.int .i64 d.bound) ∧ W.cell? ⟨w.heap.size, 2, none⟩ = some (.int .i64 d.stop) ∧ W.cell? ⟨w.heap.size, 3, none⟩ = some (.int .i64 d.bend) ∧ W.cell? ⟨b2, o2 + i, none⟩ = some (.int .i64 (q : Int))) from fun W h => ⟨(K.out.next h).bx.c 0 _ rfl, (K.out.next h).bx.c 1 _ rfl, (K.out.next h).bx.c 2 _ rfl, (K.out.next h).bx.c 3 _ rfl, (FC.out.next h).c⟩)
                  have hc : Below V50.heap.size V50 V50.drew := (Below.refl _ _).drew
                  go_cut [20, 21] (fun s20 s21 wx => ∃ bx : Nat, s20 = .pointer (some ⟨bx, 0, none⟩) ∧ s21 = .int .i64 0 ∧ Bx wx bx [.int .i64 olo, .int .i64 ohi] ∧ Below V50.heap.size V50 wx)
                  case first =>
                    refine wp_region_noPanic ?_
                    refine wp_region_held_drew (S := (fun W => W.cell? ⟨w.heap.size, 0, none⟩ = some (.slice d.A d.blades.length d.c) ∧ W.cell? ⟨w.heap.size, 1, none⟩ = some (.int .i64 d.bound) ∧ W.cell? ⟨w.heap.size, 2, none⟩ = some (.int .i64 d.stop) ∧ W.cell? ⟨w.heap.size, 3, none⟩ = some (.int .i64 d.bend) ∧ W.cell? ⟨b2, o2 + i, none⟩ = some (.int .i64 (q : Int)))) (by kernel_rfl) ?_ (fun hHeld => ?_)
                    · (try dsimp only); exact HC.out _ hc
                    refine htake (i := 0) (v := ?v11) rfl (by kernel_rfl) (by kernel_rfl) (by kernel_rfl) (fun _ _ _ h => h) (Or.inl ⟨by rfl, ?hy11⟩) (by assumption) ?_
                    case hy11 => (intro w hSw; (try dsimp only at hSw); go_simp; try (with_reducible rfl))
                    try simp only [Act.put, List.setIfInBounds_toArray, List.set_cons_zero, List.set_cons_succ]
                    refine htake (i := 1) (v := ?v12) rfl (by kernel_rfl) (by kernel_rfl) (by kernel_rfl) (fun _ _ _ h => h) (Or.inl ⟨by rfl, ?hy12⟩) (by assumption) ?_
                    case hy12 => (intro w hSw; (try dsimp only at hSw); go_simp; try (with_reducible rfl))
                    try simp only [Act.put, List.setIfInBounds_toArray, List.set_cons_zero, List.set_cons_succ]
                    refine htake (i := 2) (v := ?v13) rfl (by kernel_rfl) (by kernel_rfl) (by kernel_rfl) (fun _ _ _ h => h) (Or.inl ⟨by rfl, ?hy13⟩) (by assumption) ?_
                    case hy13 => (intro w hSw; (try dsimp only at hSw); go_simp; try (with_reducible rfl))
                    try simp only [Act.put, List.setIfInBounds_toArray, List.set_cons_zero, List.set_cons_succ]
                    refine htake (i := 3) (v := ?v14) rfl (by kernel_rfl) (by kernel_rfl) (by kernel_rfl) (fun _ _ _ h => h) (Or.inl ⟨by rfl, ?hy14⟩) (by assumption) ?_
                    case hy14 => (intro w hSw; (try dsimp only at hSw); go_simp; try (with_reducible rfl))
                    try simp only [Act.put, List.setIfInBounds_toArray, List.set_cons_zero, List.set_cons_succ]
                    refine htake (i := 4) (v := ?v15) rfl (by kernel_rfl) (by kernel_rfl) (by kernel_rfl) (fun _ _ _ h => h) (Or.inl ⟨by rfl, ?hy15⟩) (by assumption) ?_
                    case hy15 => (intro w hSw; (try dsimp only at hSw); go_simp; try (with_reducible rfl))
                    try simp only [Act.put, List.setIfInBounds_toArray, List.set_cons_zero, List.set_cons_succ]
                    refine htake (i := 5) (v := ?v16) rfl (by kernel_rfl) (by kernel_rfl) (by kernel_rfl) (fun _ _ _ h => h) (Or.inl ⟨by rfl, ?hy16⟩) (by assumption) ?_
                    case hy16 => (intro w hSw; (try dsimp only at hSw); go_simp; try (with_reducible rfl))
                    try simp only [Act.put, List.setIfInBounds_toArray, List.set_cons_zero, List.set_cons_succ]
                    refine wpAnyH_ready (rs := [6, 10]) (by kernel_rfl) (by simp) ?_
                    refine hcons rfl (fun K hK => ?_) (hcons rfl (fun K hK => ?_) (AllReadyH.nil))
                    go_simp
                    (first | with_reducible refine (HCON.out _ hc).mono ?_ | refine (HCON.out _ hc).mono ?_); rintro e w4 ⟨rfl, hb4⟩; replace hc := hc.trans (hb4.mono hc.size); (try replace SX := Lib.hid (SX.out.next hb4)); clear hb4
                    refine hK.out _ _ ?_ (fun hHeld => ?_)
                    · (try dsimp only); exact HC.out _ hc
                    clear hK K
                    try simp only [Act.put, List.setIfInBounds_toArray, List.set_cons_zero, List.set_cons_succ]
                    refine htake (i := 7) (v := ?v17) rfl (by kernel_rfl) (by kernel_rfl) (by kernel_rfl) (fun _ _ _ h => h) (Or.inl ⟨by rfl, ?hy17⟩) (by assumption) ?_
                    case hy17 => (intro w hSw; (try dsimp only at hSw); go_simp; try (with_reducible rfl))
                    try simp only [Act.put, List.setIfInBounds_toArray, List.set_cons_zero, List.set_cons_succ]
                    refine htake (i := 8) (v := ?v18) rfl (by kernel_rfl) (by kernel_rfl) (by kernel_rfl) (fun _ _ _ h => h) (Or.inl ⟨by rfl, ?hy18⟩) (by assumption) ?_
                    case hy18 => (intro w hSw; (try dsimp only at hSw); go_simp; try (with_reducible rfl))
                    try simp only [Act.put, List.setIfInBounds_toArray, List.set_cons_zero, List.set_cons_succ]
                    refine htake (i := 9) (v := ?v19) rfl (by kernel_rfl) (by kernel_rfl) (by kernel_rfl) (fun _ _ _ h => h) (Or.inl ⟨by rfl, ?hy19⟩) (by assumption) ?_
                    case hy19 => (intro w hSw; (try dsimp only at hSw); go_simp; try (with_reducible rfl))
                    try simp only [Act.put, List.setIfInBounds_toArray, List.set_cons_zero, List.set_cons_succ]
                    refine wpAnyH_ready (rs := [10]) (by kernel_rfl) (by simp) ?_
                    refine hcons rfl (fun K hK => ?_) (AllReadyH.nil)
                    go_simp
                    have hbx := hc.size; have hc0 := Lib.hid hc; have SX := Lib.hid (bxOf hc #[.int .i64 0, .int .i64 0] 28); replace hc := hc.alloc hc.size (.cells #[.int .i64 0, .int .i64 0] 28)
                    refine hK.out _ _ ?_ (fun hHeld => ?_)
                    · (try dsimp only); exact HC.out _ hc
                    clear hK K
                    try simp only [Act.put, List.setIfInBounds_toArray, List.set_cons_zero, List.set_cons_succ]
                    refine wpAnyH_ready (rs := [11]) (by kernel_rfl) (by simp) ?_
                    refine hcons rfl (fun K hK => ?_) (AllReadyH.nil)
                    (try rw [show V50.drew.heap.size = V50.heap.size from rfl] at SX); (try rw [show V50.drew.heap.size = V50.heap.size from rfl] at hbx); have z0 := SX.out.c 0 _ rfl; have z1 := SX.out.c 1 _ rfl; have z2 := SX.out.fr 0; have z3 := SX.out.fr 1; go_simp
                    refine hK.out _ _ ?_ (fun hHeld => ?_)
                    · (try dsimp only); first | exact HC.out _ (hc0.out.alloc hc0.out.size _) | exact HC.out _ (below_setCells hbx [.int .i64 olo, .int .i64 ohi] 0 hc)
                    clear hK K
                    try simp only [Act.put]
                    refine htake (i := 12) (v := ?v20) rfl (by kernel_rfl) (by kernel_rfl) (by kernel_rfl) (fun _ _ _ h => h) (Or.inl ⟨by rfl, ?hy20⟩) (by assumption) ?_
                    case hy20 => (intro w hSw; (try dsimp only at hSw); go_simp; try (with_reducible rfl))
                    try simp only [Act.put, List.setIfInBounds_toArray, List.set_cons_zero, List.set_cons_succ]
                    refine wpAnyH_done (by kernel_rfl) ?_ _
                    refine NoPanic.normal ?_
                    rotate_left
                    go_simp
                    have hbx := hc.size; have hc0 := Lib.hid hc; have SX := Lib.hid (bxOf hc #[.int .i64 0, .int .i64 0] 28); replace hc := hc.alloc hc.size (.cells #[.int .i64 0, .int .i64 0] 28)
                    refine hK.out _ _ ?_ (fun hHeld => ?_)
                    · (try dsimp only); exact HC.out _ hc
                    clear hK K
                    try simp only [Act.put, List.setIfInBounds_toArray, List.set_cons_zero, List.set_cons_succ]
                    refine wpAnyH_ready (rs := [6]) (by kernel_rfl) (by simp) ?_
                    refine hcons rfl (fun K hK => ?_) (AllReadyH.nil)
                    go_simp
                    (first | with_reducible refine (HCON.out _ hc).mono ?_ | refine (HCON.out _ hc).mono ?_); rintro e w4 ⟨rfl, hb4⟩; replace hc := hc.trans (hb4.mono hc.size); (try replace SX := Lib.hid (SX.out.next hb4)); clear hb4
                    refine hK.out _ _ ?_ (fun hHeld => ?_)
                    · (try dsimp only); exact HC.out _ hc
                    clear hK K
                    try simp only [Act.put, List.setIfInBounds_toArray, List.set_cons_zero, List.set_cons_succ]
                    refine htake (i := 7) (v := ?v21) rfl (by kernel_rfl) (by kernel_rfl) (by kernel_rfl) (fun _ _ _ h => h) (Or.inl ⟨by rfl, ?hy21⟩) (by assumption) ?_
                    case hy21 => (intro w hSw; (try dsimp only at hSw); go_simp; try (with_reducible rfl))
                    try simp only [Act.put, List.setIfInBounds_toArray, List.set_cons_zero, List.set_cons_succ]
                    refine htake (i := 8) (v := ?v22) rfl (by kernel_rfl) (by kernel_rfl) (by kernel_rfl) (fun _ _ _ h => h) (Or.inl ⟨by rfl, ?hy22⟩) (by assumption) ?_
                    case hy22 => (intro w hSw; (try dsimp only at hSw); go_simp; try (with_reducible rfl))
                    try simp only [Act.put, List.setIfInBounds_toArray, List.set_cons_zero, List.set_cons_succ]
                    refine htake (i := 9) (v := ?v23) rfl (by kernel_rfl) (by kernel_rfl) (by kernel_rfl) (fun _ _ _ h => h) (Or.inl ⟨by rfl, ?hy23⟩) (by assumption) ?_
                    case hy23 => (intro w hSw; (try dsimp only at hSw); go_simp; try (with_reducible rfl))
                    try simp only [Act.put, List.setIfInBounds_toArray, List.set_cons_zero, List.set_cons_succ]
                    refine wpAnyH_ready (rs := [11]) (by kernel_rfl) (by simp) ?_
                    refine hcons rfl (fun K hK => ?_) (AllReadyH.nil)
                    (try rw [show V50.drew.heap.size = V50.heap.size from rfl] at SX); (try rw [show V50.drew.heap.size = V50.heap.size from rfl] at hbx); have z0 := SX.out.c 0 _ rfl; have z1 := SX.out.c 1 _ rfl; have z2 := SX.out.fr 0; have z3 := SX.out.fr 1; go_simp
                    refine hK.out _ _ ?_ (fun hHeld => ?_)
                    · (try dsimp only); first | exact HC.out _ (hc0.out.alloc hc0.out.size _) | exact HC.out _ (below_setCells hbx [.int .i64 olo, .int .i64 ohi] 0 hc)
                    clear hK K
                    try simp only [Act.put]
                    refine htake (i := 12) (v := ?v24) rfl (by kernel_rfl) (by kernel_rfl) (by kernel_rfl) (fun _ _ _ h => h) (Or.inl ⟨by rfl, ?hy24⟩) (by assumption) ?_
                    case hy24 => (intro w hSw; (try dsimp only at hSw); go_simp; try (with_reducible rfl))
                    try simp only [Act.put, List.setIfInBounds_toArray, List.set_cons_zero, List.set_cons_succ]
                    refine wpAnyH_done (by kernel_rfl) ?_ _
                    refine NoPanic.normal ?_
                    iterate 14 (try clear hHeld)
                    all_goals (go_wp2_with fail; go_meet)
                    · exact ⟨_, rfl, rfl, SX.out.setAll [.int .i64 olo, .int .i64 ohi] rfl, below_setCells hbx [.int .i64 olo, .int .i64 ohi] 0 hc⟩
                    · exact ⟨_, rfl, rfl, Bx.new _ #[.int .i64 olo, .int .i64 ohi] 28, hc0.out.alloc hc0.out.size _⟩
                  case rest =>
                    obtain ⟨bx, rfl, rfl, hsx, hb⟩ := hcut
                    have SX := Lib.hid hsx
                    clear hsx HC HCON hc
                    replace RA := Lib.hid (RA.out.next hb)
                    replace FA := Lib.hid (FA.out.next hb)
                    replace BK := Lib.hid (BK.out.next hb)
                    replace SB := Lib.hid (SB.out.next hb)
                    replace TS := Lib.hid (TS.out.next hb)
                    replace FC := Lib.hid (FC.out.next hb)
                    replace K := Lib.hid (K.out.next hb)
                    replace BT := Lib.hid (BT.out.trans (hb.mono BT.out.size))
                    clear hb
                    generalize wc = V51 at *
                    have x1 := SX.out.c 1 _ rfl
                    have q1 := SB.out.c 1 _ rfl
                    have p1 := K.out.bx.c 1 _ rfl
                    have t1 := TS.out.c1
                    have t0 := TS.out.c0
                    have hbd := OK.out.bound
                    have hlim : IntKind.i64.wrap (d.bound + more) = d.bound + more := IntWalk.i64_in _ (by omega)
                    clear HROW
                    by_cases hsb2 : s = b
                    · have g1 : d.bound + more < ohi := hrow1.2 hsb2
                      have e2 : decide (d.bound + more < ohi) = true := decide_eq_true g1
                      clear hrow1
                      subst hsb2
                      go_upto_region 31 with fail
                      go_quiet (fail)
                      go_wp2_with fail
                      refine endM (by kernel_rfl) (by kernel_rfl) ?_ ?_
                      · refine HREL3.out _ _ _ ?_ ?_ (BT.out.trans ((below_drewN (Below.refl _ _) nq).mono BT.out.size))
                        · exact (slotF_at rfl).trans (by go_num)
                        · exact slotF_at rfl
                      · (simp [slotF, intOf, E19.out]; try omega)
                    · have g1 : ¬ d.bound + more < ohi := fun h => hsb2 (hrow1.1 h)
                      have e1 : ¬ (s : Int) = (b : Int) := by omega
                      have e2 : decide (d.bound + more < ohi) = false := decide_eq_false g1
                      have e3 : decide ((s : Int) = (b : Int)) = false := decide_eq_false e1
                      go_upto_region 31 with fail
                      go_quiet (fail)
                      go_wp2_with fail
                      refine endM (by kernel_rfl) (by kernel_rfl) ?_ ?_
                      · refine HREL3.out _ _ _ ?_ ?_ (BT.out.trans ((below_drewN (Below.refl _ _) nq).mono BT.out.size))
                        · exact (slotF_at rfl).trans (by go_num)
                        · exact slotF_at rfl
                      · (simp [slotF, intOf, E19.out]; try omega)
              · obtain rfl : i = rs.length := by omega
                simp only [mask19, mixF, e15, e16]
                clear e15 e16 HREL
                have hat := BK.out.at
                have hag := all_good HAL.out HCH.out HRW.out
                obtain ⟨plan, hplan⟩ : ∃ p, (List.range (l.length - 1)).map (allF rs ((2 : Int) ^ d.blades.length - 1) rs.length) = p := ⟨_, rfl⟩
                rw [hplan] at hat hag
                have hpn : plan.length = N := by rw [← hplan, List.length_map, List.length_range, hN]
                obtain ⟨q, hfo⟩ := hag
                have PA := Lib.hid hat
                have HPN := Lib.hid hpn
                have HB5 := Lib.hid (HB3.out _ HB2.out)
                clear hplan hat hpn HB2 BK HB3 hg hwg
                have p0 := K.out.bx.c 0 _ rfl
                have p1 := K.out.bx.c 1 _ rfl
                have p2 := K.out.bx.c 2 _ rfl
                have p3 := K.out.bx.c 3 _ rfl
                go_wp2_with fail
                have hcon := (Follow_any d A c l (some ⟨g, 0, none⟩) N plan V40 K.out.da K.out.la HL.out PA.out (by have := HPN.out; omega) K.out.en)
                rw [hfo, HPN.out] at hcon
                clear PA HPN
                refine (hcon).mono ?_
                rintro e V41 ⟨rfl, hb⟩
                replace RA := Lib.hid (RA.out.next hb)
                replace FA := Lib.hid (FA.out.next hb)
                replace K := Lib.hid (K.out.next hb)
                replace HB5 := Lib.hid (HB5.out.trans (hb.mono HB5.out.size))
                clear hb p0 p1 p2 p3 hcon hfo
                dsimp only [foV]
                have p0 := K.out.bx.c 0 _ rfl
                have p1 := K.out.bx.c 1 _ rfl
                have p2 := K.out.bx.c 2 _ rfl
                have p3 := K.out.bx.c 3 _ rfl
                go_wp2_with fail
                refine (sets_any d A c l A3 c3 bys V41 OK.out OKL.out K.out.ba HBL.out hb1 HBV.out).mono ?_
                rintro e V42 ⟨plan, hpn, hps, AS, cS, rfl, hs, hb⟩
                replace RA := Lib.hid (RA.out.next hb)
                replace FA := Lib.hid (FA.out.next hb)
                replace K := Lib.hid (K.out.next hb)
                replace HB5 := Lib.hid (HB5.out.trans (hb.mono HB5.out.size))
                have S1 := Lib.hid (hs)
                clear hb p0 p1 p2 p3 hs
                have HPN := Lib.hid hpn
                have HPQ := Lib.hid hps
                clear hpn hps
                have hlp : plan.length ≤ 9223372036854775807 := by have := HPN.out; omega
                have p0 := K.out.bx.c 0 _ rfl
                have p1 := K.out.bx.c 1 _ rfl
                have p2 := K.out.bx.c 2 _ rfl
                have p3 := K.out.bx.c 3 _ rfl
                go_wp2_with fail
                obtain ⟨fa, fb, fc, fe, hfo⟩ : ∃ a b c e, followS d l plan = (a, b, c, e) := ⟨_, _, _, _, rfl⟩
                have hcon := (Follow_any d A c l AS cS plan V42 K.out.da K.out.la HL.out S1.out hlp K.out.en)
                rw [hfo] at hcon
                refine (hcon).mono ?_
                rintro e V43 ⟨rfl, hb⟩
                replace RA := Lib.hid (RA.out.next hb)
                replace FA := Lib.hid (FA.out.next hb)
                replace S1 := Lib.hid (S1.out.next hb)
                replace K := Lib.hid (K.out.next hb)
                replace HB5 := Lib.hid (HB5.out.trans (hb.mono HB5.out.size))
                clear hb p0 p1 p2 p3 hcon
                dsimp only [foV]
                have hfe : fe = 0 ∨ fe = 11 := by
                  have hpo := planOk_iff.2 ⟨HPQ.out, HPN.out⟩
                  have hfs := hfo.symm
                  unfold followS at hfs
                  rw [if_neg (fun h => h HCH.out), if_neg (by rw [hpo]; simp)] at hfs
                  cases hq : badP d.blades d.bound l (fun _ => 0) (setsOf plan) 0 with
                  | none => rw [hq] at hfs; injection hfs with _ h; injection h with _ h; injection h with _ h; exact .inl h
                  | some x => rw [hq] at hfs; injection hfs with _ h; injection h with _ h; injection h with _ h; exact .inr h
                rcases hfe with rfl | rfl
                rotate_left
                · go_wp2_with fail
                  refine (awake_any V43 K.out.en).mono ?_
                  rintro e V99 ⟨rfl, hb⟩
                  go_wp2_with fail
                  go_ret
                  exact ⟨rfl, HB5.out.trans (hb.mono HB5.out.size)⟩
                · skip
                  go_wp2_with fail
                  have HFO := Lib.hid hfo
                  clear hfo
                  refine wp_loopM mask45 (fun g W => R45P rs V43 (g 33) W) (fun g _ => rs.length - (intOf (g 33)).toNat) (by kernel_rfl) ?_ ?_
                  · exact ⟨0, by omega, slotF_at rfl, Below.refl _ _⟩
                  intro f4 wr hrel
                  obtain ⟨i, hi2, e33, hb2⟩ := hrel
                  simp only [mask45, mixF, e33]
                  have E33 := Lib.hid e33
                  clear e33
                  replace RA := Lib.hid (RA.out.next hb2)
                  replace FA := Lib.hid (FA.out.next hb2)
                  replace S1 := Lib.hid (S1.out.next hb2)
                  replace K := Lib.hid (K.out.next hb2)
                  replace HB5 := Lib.hid (HB5.out.trans (hb2.mono HB5.out.size))
                  have BT := Lib.hid hb2
                  clear hb2
                  generalize wr = V60 at *
                  by_cases hlt : i < rs.length
                  rotate_left
                  · go_wp2_with fail
                    refine (awake_any V60 K.out.en).mono ?_
                    rintro e V99 ⟨rfl, hb⟩
                    go_wp2_with fail
                    go_ret
                    exact ⟨rfl, HB5.out.trans (hb.mono HB5.out.size)⟩
                  · obtain ⟨h1, h2, h3, h4, h5⟩ := rows_get HRW.out hlt
                    have HST := Lib.hid (row_stops OK.out OKL.out HRW.out hlt HFO.out)
                    clear h1 h4 h5
                    obtain ⟨b1, o1, eA, hbb, t0, t1⟩ := spans_at RA.out hlt
                    generalize rs.getD i (0, 0, 0) = x at *
                    obtain ⟨a, b, q⟩ := x
                    dsimp only at h2 h3 t0 t1 HST
                    subst eA
                    go_wp2_with fail
                    have TA := Lib.hid (show StC b1 (o1 + i * 2) a b V60 from ⟨hbb, t0, t1⟩)
                    clear t0 t1 hbb
                    refine wp_loopM mask49 (fun g W => R49P plan a b V60 (g 34) (g 35) W) (fun g _ => b + 1 - (intOf (g 35)).toNat) (by kernel_rfl) ?_ ?_
                    · exact ⟨a + 1, false, by omega, by omega, (slotF_at rfl).trans (by go_num), slotF_at rfl, fun _ t h h' => by omega, Below.refl _ _⟩
                    intro f5 wr hrel
                    obtain ⟨s, bb, hs1, hs2, e35, e34, hzz, hb3⟩ := hrel
                    simp only [mask49, mixF, e34, e35]
                    have E35 := Lib.hid e35
                    have HZZ := Lib.hid hzz
                    clear e34 e35 hzz
                    replace TA := Lib.hid (TA.out.next hb3)
                    replace S1 := Lib.hid (S1.out.next hb3)
                    have HB8 := Lib.hid hb3
                    replace BT := Lib.hid (BT.out.trans (hb3.mono BT.out.size))
                    clear hb3
                    generalize wr = V70 at *
                    have t1 := TA.out.c1
                    by_cases hsb : s ≤ b
                    rotate_left
                    · cases bb
                      · exact (HST.out fun t h h' => HZZ.out rfl t h (by omega)).elim
                      · go_wp2_with fail
                        refine endM (by kernel_rfl) (by kernel_rfl) ?_ ?_
                        · exact ⟨i + 1, by omega, (slotF_at rfl).trans (by go_num), BT.out⟩
                        · (simp [slotF, intOf, E33.out]; try omega)
                    · obtain ⟨b2, o2, e2, hb2, g0⟩ := int_at S1.out (k := s - 1) (by have := HPN.out; omega)
                      have hg0 := HPQ.out (plan.getD (s - 1) 0) (by rw [List.getD_eq_getElem?_getD, List.getElem?_eq_getElem (by have := HPN.out; omega)]; exact List.getElem_mem _)
                      have hI3 : ((s : Int) - 1).toNat = s - 1 := by omega
                      have hI4 : 1 ≤ (s : Int) := by omega
                      have hI5 : (s : Int) - 1 < (plan.length : Int) := by have := HPN.out; omega
                      have hI2 : (0 ≤ (s : Int) - 1 ∧ (s : Int) - 1 < (plan.length : Int)) = True := by have := HPN.out; simp; omega
                      have HZ2 := Lib.hid (fun (h : bb = false) (h0 : plan.getD (s - 1) 0 ≤ 0) (t : Nat) (h1 : a < t) (h2 : t < s + 1) => (show plan.getD (t - 1) 0 ≤ 0 from by
                        by_cases e : t = s
                        · subst e; exact h0
                        · exact HZZ.out h t h1 (by omega)))
                      generalize plan.getD (s - 1) 0 = v at *
                      subst e2
                      cases bb
                      · have HZ3 := Lib.hid (HZ2.out rfl)
                        by_cases hv : v ≤ 0
                        · have e1 : decide (0 < v) = false := decide_eq_false (by omega)
                          go_wp2_with fail
                          refine endM (by kernel_rfl) (by kernel_rfl) ?_ ?_
                          · exact ⟨s + 1, false, by omega, by omega, (slotF_at rfl).trans (by go_num), slotF_at rfl, fun _ => HZ3.out hv, HB8.out⟩
                          · (simp [slotF, intOf, E35.out]; try omega)
                        · have e1 : decide (0 < v) = true := decide_eq_true (by omega)
                          go_wp2_with fail
                          refine endM (by kernel_rfl) (by kernel_rfl) ?_ ?_
                          · exact ⟨s + 1, true, by omega, by omega, (slotF_at rfl).trans (by go_num), slotF_at rfl, (fun h => nomatch h), HB8.out⟩
                          · (simp [slotF, intOf, E35.out]; try omega)
                      · go_wp2_with fail
                        refine endM (by kernel_rfl) (by kernel_rfl) ?_ ?_
                        · exact ⟨s + 1, true, by omega, by omega, (slotF_at rfl).trans (by go_num), slotF_at rfl, (fun h => nomatch h), HB8.out⟩
                        · (simp [slotF, intOf, E35.out]; try omega)
end Go.Proofs.YtbhkglokdomajaaDoor
