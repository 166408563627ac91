import Derived.Test.YtbhkglokdomajaaDoorC1
import Derived.Test.YtbhkglokdomajaaDoorT0
import Derived.Test.YtbhkglokdomajaaDoorT1
import Derived.Test.YtbhkglokdomajaaDoorR8
import Derived.Deep.DeepCutAuto
namespace Go.Proofs.YtbhkglokdomajaaDoor
open Go.RowKit
/-! The law RuleTrue. -/
structure LwT (d : Die) (A : Option Addr) (l : List Stint) (A3 : Option Addr) (bys : List Int) (bs : Nat) (W : World) : Prop where
  da : DieAt W W.heap.size d
  la : At W W.heap.size 2 Stint.cells A l
  ba : At W W.heap.size 1 u16cell A3 bys
  en : Env W
  bx : Bx W bs (dieL d)
theorem LwT.next {d : Die} {A : Option Addr} {l : List Stint} {A3 : Option Addr} {bys : List Int} {bs : Nat} {W W' : World} (h : LwT d A l A3 bys bs W) (hb : Below W.heap.size W W') : LwT d A l A3 bys bs W' := ⟨h.da.next hb, h.la.next hb, h.ba.next hb, h.en.next hb, h.bx.next hb⟩
theorem pick_some (lo hi x : Int) (w : World) (h0 : 0 ≤ lo) (h1 : lo ≤ hi) (h2 : hi ≤ 10000) (x0 : 0 ≤ x ∧ x < 65536) : Calls Tryd.prog 32 #[.agg #[.int .i64 lo, .int .i64 hi], .int .u16 x] w (fun e w' => ∃ y, (lo ≤ y ∧ y ≤ hi) ∧ e = .returned (.int .i64 y) ∧ Below w.heap.size w w') :=
  (pick_any lo hi x w h0 h1 h2 x0.1 x0.2).mono fun _ _ h => ⟨_, pick_in h1, h.1, h.2⟩
structure StC (b o : Nat) (n more : Int) (W : World) : Prop where
  lt : b < W.heap.size
  c0 : W.cell? ⟨b, o, none⟩ = some (.int .i64 n)
  c1 : W.cell? ⟨b, o + 1, none⟩ = some (.int .i64 more)
theorem StC.next {b o : Nat} {n more : Int} {W W' : World} (h : StC b o n more W) (hb : Below W.heap.size W W') : StC b o n more W' := ⟨Nat.lt_of_lt_of_le h.lt hb.size, ((bcell hb).1 _ _ h.lt).trans h.c0, ((bcell hb).1 _ _ h.lt).trans h.c1⟩
def R5T (V : World) (i : Value) (W : World) : Prop := ∃ n : Nat, n ≤ 2 ∧ i = .int .i64 n ∧ Below V.heap.size V W
def R21T (nb : Nat) (V : World) (i : Value) (W : World) : Prop := ∃ n : Nat, n ≤ nb ∧ i = .int .i64 n ∧ Below V.heap.size V W
def R27T (d : Die) (l : List Stint) (sets : List Nat) (b : Nat) (fl fh : Int) (V : World) (fv rv sv : Value) (W : World) : Prop := ∃ (s : Nat) (f : Int), s ≤ l.length ∧ sv = .int .i64 s ∧ fv = .int .i64 f ∧ rv = .int .i64 (ranAt d.blades.length l sets (fun _ => 0) s b) ∧ (fl ≤ f ∧ f ≤ fh) ∧ Below V.heap.size V W
def mask5 : List (Option Nat) := [none, none, none, none, none, none, none, none, some 8, none, none, none, some 12, some 13, some 14, some 15, some 16, some 17, some 18, some 19, some 20, some 21, some 22, some 23, some 24, some 25, some 26, some 27, some 28, some 29, some 30, none, none, none, none, none, none, none, none, none, none, none, none, none, none, none, none, none, none, none, none, none, none, none, none, none, none, none, none, none, none, none, none, some 63, some 64, some 65, some 66, some 67, some 68, some 69, some 70, some 71, some 72, some 73, some 74, some 75, some 76, some 77, some 78, some 79, some 80, some 81, some 82, some 83, some 84, some 85, some 86, some 87, some 88, some 89, some 90, some 91, some 92, some 93, some 94, some 95, some 96, some 97, some 98, some 99, some 100, some 101, some 102, some 103, some 104, some 105, some 106, some 107, some 108, some 109, some 110, some 111, some 112, some 113, some 114, some 115, some 116, some 117, some 118, some 119, some 120, some 121, some 122, some 123, some 124, some 125, some 126, some 127, some 128, some 129, some 130, some 131, some 132, some 133, some 134, some 135, some 136, some 137, some 138, some 139, some 140, some 141, some 142, some 143, some 144, some 145, some 146, some 147, some 148, some 149, some 150, some 151, some 152, some 153, some 154, some 155, some 156, some 157, some 158, some 159, some 160, some 161, some 162, some 163, some 164, some 165, some 166, some 167, some 168, some 169, some 170, some 171, some 172, some 173, some 174, some 175, some 176, some 177, some 178, some 179, some 180, some 181, some 182, some 183, some 184, some 185, some 186, some 187, some 188, some 189, some 190, some 191, some 192, some 193, some 194, some 195, some 196, some 197, some 198, some 199, some 200, some 201, some 202, some 203, some 204, some 205, some 206, some 207, some 208, some 209, some 210, some 211, some 212, some 213, some 214, some 215, some 216, some 217, some 218, some 219, some 220, some 221, some 222, some 223, some 224, some 225, some 226, some 227, some 228, some 229, some 230, some 231, some 232, some 233, some 234, some 235, some 236, some 237, some 238, some 239, some 240, some 241, some 242, some 243, some 244, some 245, some 246, some 247, some 248, some 249, some 250, some 251, some 252, some 253, some 254, some 255, some 256, some 257, some 258, some 259, some 260, some 261, some 262, some 263, some 264, some 265, some 266, some 267, some 268, some 269, some 270, some 271, some 272, some 273, some 274, some 275, some 276, none]
def mask21 : List (Option Nat) := [none, none, none, none, none, none, none, none, some 8, none, none, none, none, none, none, none, none, none, none, none, none, some 21, some 22, some 23, some 24, some 25, some 26, some 27, some 28, some 29, some 30, none, none, none, none, none, none, none, none, none, none, none, none, none, none, none, none, none, none, none, none, none, none, none, none, none, none, none, none, none, none, none, none, none, none, none, none, none, none, none, none, none, none, none, none, none, none, none, none, none, none, none, none, none, none, none, none, none, none, none, none, none, none, none, none, none, none, none, none, none, none, none, none, none, none, none, none, none, none, none, none, none, none, none, none, none, none, none, none, none, none, none, none, none, none, none, none, none, none, none, none, none, none, none, none, none, none, none, none, none, none, none, none, none, none, none, none, none, none, some 149, some 150, some 151, some 152, some 153, some 154, some 155, some 156, some 157, some 158, some 159, some 160, some 161, some 162, some 163, some 164, some 165, some 166, some 167, some 168, some 169, some 170, some 171, some 172, some 173, some 174, some 175, some 176, some 177, some 178, some 179, some 180, some 181, some 182, some 183, some 184, some 185, some 186, some 187, some 188, some 189, some 190, some 191, some 192, some 193, some 194, some 195, some 196, some 197, some 198, some 199, some 200, some 201, some 202, some 203, some 204, some 205, some 206, some 207, some 208, some 209, some 210, some 211, some 212, some 213, some 214, some 215, some 216, some 217, some 218, some 219, some 220, some 221, some 222, some 223, some 224, some 225, some 226, some 227, some 228, some 229, some 230, some 231, some 232, some 233, some 234, some 235, some 236, some 237, some 238, some 239, some 240, some 241, some 242, some 243, some 244, some 245, some 246, some 247, some 248, some 249, some 250, some 251, some 252, some 253, some 254, some 255, some 256, some 257, some 258, some 259, some 260, some 261, some 262, some 263, some 264, some 265, some 266, some 267, some 268, some 269, some 270, some 271, some 272, some 273, some 274, some 275, some 276, none]
def mask27 : List (Option Nat) := [none, none, none, none, none, none, none, none, some 8, none, none, none, none, none, none, none, none, none, none, none, none, none, none, none, some 24, some 25, some 26, some 27, some 28, some 29, some 30, none, none, none, none, none, none, none, none, none, none, none, none, none, none, none, none, none, none, none, none, none, none, none, none, none, none, none, none, none, none, none, none, none, none, none, none, none, none, none, none, none, none, none, none, none, none, none, none, none, none, none, none, none, none, none, none, none, none, none, none, none, none, none, none, none, none, none, none, none, none, none, none, none, none, none, none, none, none, none, none, none, none, none, none, none, none, none, none, none, none, none, none, none, none, none, none, none, none, none, none, none, none, none, none, none, none, none, none, none, none, none, none, none, none, none, none, none, none, none, none, none, none, none, none, none, none, none, none, none, none, none, none, none, none, none, none, none, none, none, none, none, none, none, none, none, none, none, none, none, none, none, some 182, some 183, some 184, some 185, some 186, some 187, some 188, some 189, some 190, some 191, some 192, some 193, some 194, some 195, some 196, some 197, some 198, some 199, some 200, some 201, some 202, some 203, some 204, some 205, some 206, some 207, some 208, some 209, some 210, some 211, some 212, some 213, some 214, some 215, some 216, some 217, some 218, some 219, some 220, some 221, some 222, some 223, some 224, some 225, some 226, some 227, some 228, some 229, some 230, some 231, some 232, some 233, some 234, some 235, some 236, some 237, some 238, some 239, some 240, some 241, some 242, some 243, some 244, some 245, some 246, some 247, some 248, some 249, some 250, some 251, some 252, some 253, some 254, some 255, some 256, some 257, some 258, some 259, some 260, some 261, some 262, some 263, some 264, some 265, some 266, some 267, some 268, some 269, some 270, some 271, some 272, some 273, some 274, some 275, some 276, none]
set_option maxRecDepth 100000 in
set_option maxHeartbeats 4000000 in
theorem RuleTrue_walk (d : Die) (A : Option Addr) (c : Nat) (l : List Stint) (AO : Option Addr) (cO : Nat) (other : List Int) (A3 : Option Addr) (c3 : Nat) (bys : List Int) (w : World) (hd : DieAt w w.heap.size d) (hr : At w w.heap.size 2 Stint.cells A l) (hl : l.length ≤ 9223372036854775807) (ho : At w w.heap.size 1 icell AO other) (hol : other.length ≤ 9223372036854775807) (hb : At w w.heap.size 1 u16cell A3 bys) (hbl : bys.length ≤ 9223372036854775807) (hbv : ∀ x ∈ bys, 0 ≤ x ∧ x < 65536) (he : Env w) :
    Calls Tryd.prog 6 #[.agg #[.slice d.A d.blades.length d.c, .int .i64 d.bound, .int .i64 d.stop, .int .i64 d.bend], .slice A l.length c, .slice AO other.length cO, .slice A3 bys.length c3] w (Ret (.bool true) w) := by
  have K := Lib.hid (show LwT d A l A3 bys w.heap.size (w.alloc (.cells #[.slice d.A d.blades.length d.c, .int .i64 d.bound, .int .i64 d.stop, .int .i64 d.bend] 24)) from ⟨hd.next (nxA _ _), hr.next (nxA _ _), hb.next (nxA _ _), he.next (nxA _ _), Bx.new w #[.slice d.A d.blades.length d.c, .int .i64 d.bound, .int .i64 d.stop, .int .i64 d.bend] 24⟩)
  have HB := Lib.hid (nxA w (.cells #[.slice d.A d.blades.length d.c, .int .i64 d.bound, .int .i64 d.stop, .int .i64 d.bend] 24))
  have O1 := Lib.hid (ho.next (nxA w (.cells #[.slice d.A d.blades.length d.c, .int .i64 d.bound, .int .i64 d.stop, .int .i64 d.bend] 24)))
  have HL := Lib.hid hl
  have HBL := Lib.hid hbl
  have HBV := Lib.hid hbv
  have HOL := Lib.hid hol
  clear hd hr hb hl hbl hbv he ho hol
  go_enter Tryd.func6, Tryd.ntmps6
  go_wp2_with fail
  generalize (w.alloc (.cells #[.slice d.A d.blades.length d.c, .int .i64 d.bound, .int .i64 d.stop, .int .i64 d.bend] 24)) = V1 at *
  have p0 := K.out.bx.c 0 _ rfl
  have p1 := K.out.bx.c 1 _ rfl
  have p2 := K.out.bx.c 2 _ rfl
  have p3 := K.out.bx.c 3 _ rfl
  go_wp2_with fail
  refine (far_any d A AO l.length c other.length cO V1).mono ?_
  rintro e V2 ⟨bf, rfl, hb⟩
  replace O1 := Lib.hid (O1.out.next hb)
  replace K := Lib.hid (K.out.next hb)
  replace HB := Lib.hid (HB.out.trans (hb.mono HB.out.size))
  clear hb p0 p1 p2 p3
  cases bf
  rotate_left
  · go_wp2_with fail
    refine (awake_any V2 K.out.en).mono ?_
    rintro e V99 ⟨rfl, hb⟩
    go_wp2_with fail
    go_ret
    exact ⟨rfl, HB.out.trans (hb.mono HB.out.size)⟩
  · skip
    have p0 := K.out.bx.c 0 _ rfl
    have p1 := K.out.bx.c 1 _ rfl
    have p2 := K.out.bx.c 2 _ rfl
    have p3 := K.out.bx.c 3 _ rfl
    go_wp2_with fail
    refine (heavy_any d A l.length c 32768 V2).mono ?_
    rintro e V3 ⟨bh, rfl, hb⟩
    replace O1 := Lib.hid (O1.out.next hb)
    replace K := Lib.hid (K.out.next hb)
    replace HB := Lib.hid (HB.out.trans (hb.mono HB.out.size))
    clear hb p0 p1 p2 p3
    cases bh
    rotate_left
    · go_wp2_with fail
      refine (awake_any V3 K.out.en).mono ?_
      rintro e V99 ⟨rfl, hb⟩
      go_wp2_with fail
      go_ret
      exact ⟨rfl, HB.out.trans (hb.mono HB.out.size)⟩
    · skip
      by_cases hb0 : bys = []
      · go_wp2_with fail
        refine (awake_any V3 K.out.en).mono ?_
        rintro e V99 ⟨rfl, hb⟩
        go_wp2_with fail
        go_ret
        exact ⟨rfl, HB.out.trans (hb.mono HB.out.size)⟩
      · have hb1 : 0 < bys.length := List.length_pos_iff.2 hb0
        have p0 := K.out.bx.c 0 _ rfl
        have p1 := K.out.bx.c 1 _ rfl
        have p2 := K.out.bx.c 2 _ rfl
        have p3 := K.out.bx.c 3 _ rfl
        go_wp2_with fail
        refine (Die_any d V3 K.out.da).mono ?_
        rintro e V4 ⟨rfl, hb⟩
        replace O1 := Lib.hid (O1.out.next hb)
        replace K := Lib.hid (K.out.next hb)
        replace HB := Lib.hid (HB.out.trans (hb.mono HB.out.size))
        clear hb p0 p1 p2 p3
        cases hds : dieS d
        · go_wp2_with fail
          refine (awake_any V4 K.out.en).mono ?_
          rintro e V99 ⟨rfl, hb⟩
          go_wp2_with fail
          go_ret
          exact ⟨rfl, HB.out.trans (hb.mono HB.out.size)⟩
        · skip
          go_wp2_with fail
          refine (Stints_any A c l V4 K.out.la HL.out).mono ?_
          rintro e V5 ⟨rfl, hb⟩
          replace O1 := Lib.hid (O1.out.next hb)
          replace K := Lib.hid (K.out.next hb)
          replace HB := Lib.hid (HB.out.trans (hb.mono HB.out.size))
          clear hb 
          cases hst : stintsS l
          · go_wp2_with fail
            refine (awake_any V5 K.out.en).mono ?_
            rintro e V99 ⟨rfl, hb⟩
            go_wp2_with fail
            go_ret
            exact ⟨rfl, HB.out.trans (hb.mono HB.out.size)⟩
          · skip
            have OK := Lib.hid ((okd_iff d).1 hds)
            have OKL := Lib.hid ((okl_iff l).1 hst)
            have hch := check_zero.2 ⟨hds, hst⟩
            have HPS := Lib.hid (show planS d l = (match bestD d l with | none => ([], 0, 4) | some (p, c) => (p.tail, c, 0)) from by unfold planS; rw [if_neg (fun h => h hch)]; rfl)
            have HCH := Lib.hid hch
            obtain ⟨bp, bc, be, hpl⟩ : ∃ p c e, planS d l = (p, c, e) := ⟨_, _, _, rfl⟩
            have HPL := Lib.hid hpl
            obtain ⟨bu, ou, e3, -, -⟩ := u16_at K.out.ba hb1
            subst e3
            have hbx : ∃ pl : List Int, pl = bp.map Int.ofNat := ⟨_, rfl⟩
            obtain ⟨pl, hpm⟩ := hbx
            have hpmn : bp.length = pl.length := by rw [hpm, List.length_map]
            have HPM := Lib.hid hpm
            have hbe : (be = 0 ∧ ∃ q, followS d l pl = (q, (l.length : Int), 0, 0)) ∨ be = 4 ∧ pl = [] := by
              have h := HPS.out
              rw [hpl] at h
              cases hq : bestD d l with
              | none => rw [hq] at h; injection h with h1 h; injection h with _ h; subst h1; exact .inr ⟨h, hpm⟩
              | some x => rw [hq] at h; obtain ⟨xp, xc⟩ := x; injection h with h1 h; injection h with h2 h; subst h1; exact .inl ⟨h, xc, by rw [hpm]; exact follow_best OK.out OKL.out hq⟩
            have hll := OKL.out.nl
            have hnb := OK.out.nb
            have hplen : pl.length ≤ 9223372036854775807 := by
              rcases hbe with ⟨-, q, hq⟩ | ⟨-, hq⟩
              · have := (planOk_iff.1 (follow_good hq).2.1).2
                omega
              · rw [hq]; simp
            have HBE := Lib.hid hbe
            have HPLL := Lib.hid hplen
            clear hds hst hch hpl hbe hplen hpm
            have p0 := K.out.bx.c 0 _ rfl
            have p1 := K.out.bx.c 1 _ rfl
            have p2 := K.out.bx.c 2 _ rfl
            have p3 := K.out.bx.c 3 _ rfl
            go_wp2_with fail
            have hcon := (Plan_any d A c l V5 K.out.da K.out.la HL.out K.out.en)
            rw [HPL.out] at hcon
            refine (hcon).mono ?_
            rintro e V6 ⟨AP, cP, rfl, hp, hb⟩
            replace O1 := Lib.hid (O1.out.next hb)
            replace K := Lib.hid (K.out.next hb)
            replace HB := Lib.hid (HB.out.trans (hb.mono HB.out.size))
            have P1 := Lib.hid ((show At _ _ 1 icell AP pl from by rw [HPM.out]; exact hp))
            clear hb p0 p1 p2 p3 hcon hp
            dsimp only
            rw [hpmn]
            clear HPS HPL
            go_wp2_with fail
            have hz9 : ((bys.length : Int) == 0) = false := by simp; omega
            (try simp only [hz9])
            refine wp_loopM mask5 (fun g W => R5T V6 (g 12) W) (fun g _ => 2 - (intOf (g 12)).toNat) (by kernel_rfl) ?_ ?_
            · exact ⟨0, by omega, slotF_at rfl, Below.refl _ _⟩
            intro f wr hrel
            obtain ⟨i, hi2, e12, hb⟩ := hrel
            replace K := Lib.hid (K.out.next hb)
            replace O1 := Lib.hid (O1.out.next hb)
            replace P1 := Lib.hid (P1.out.next hb)
            have BT := Lib.hid hb
            clear hb
            generalize wr = V20 at *
            have p0 := K.out.bx.c 0 _ rfl
            have p1 := K.out.bx.c 1 _ rfl
            have p2 := K.out.bx.c 2 _ rfl
            have p3 := K.out.bx.c 3 _ rfl
            have h012 : i = 0 ∨ i = 1 ∨ i = 2 := by omega
            rcases h012 with rfl | rfl | rfl <;> (simp only [mask5, mixF, e12]; have E12 := Lib.hid e12; clear e12)
            · obtain ⟨fa, fb, fc, fe, hfo⟩ : ∃ a b c e, followS d l other = (a, b, c, e) := ⟨_, _, _, _, rfl⟩
              go_wp2_with fail
              have hcon := (Follow_any d A c l AO cO other V20 K.out.da K.out.la HL.out O1.out HOL.out K.out.en)
              rw [hfo] at hcon
              refine (hcon).mono ?_
              rintro e V21 ⟨rfl, hb⟩
              replace O1 := Lib.hid (O1.out.next hb)
              replace P1 := Lib.hid (P1.out.next hb)
              replace K := Lib.hid (K.out.next hb)
              replace BT := Lib.hid (BT.out.trans (hb.mono BT.out.size))
              clear hb p0 p1 p2 p3 hcon
              dsimp only [foV]
              by_cases hfe : fe = 0
              rotate_left
              · skip
                have hbf : (fe = 11 ∧ ∃ (ib kb : Nat), fa = 0 ∧ fb = (ib : Int) ∧ fc = (kb : Int) ∧ ib < l.length ∧ planOk d.blades.length l other = true ∧ badP d.blades d.bound l (fun _ => 0) (setsOf other) 0 = some (ib, kb)) ∨ fe = 2 := by
                  have hfs := hfo.symm
                  unfold followS at hfs
                  rw [if_neg (fun h => h HCH.out)] at hfs
                  by_cases hpo : planOk d.blades.length l other = false
                  · rw [if_pos hpo] at hfs
                    injection hfs with _ h
                    injection h with _ h
                    injection h with _ h
                    exact .inr h
                  · rw [if_neg hpo] at hfs
                    cases hq : badP d.blades d.bound l (fun _ => 0) (setsOf other) 0 with
                    | none =>
                      rw [hq] at hfs
                      injection hfs with _ h
                      injection h with _ h
                      injection h with _ h
                      exact absurd h hfe
                    | some x =>
                      obtain ⟨ib, kb⟩ := x
                      rw [hq] at hfs
                      injection hfs with h1 h
                      injection h with h2 h
                      injection h with h3 h
                      have hbs := bad_some hq
                      exact .inl ⟨h, ib, kb, h1, h2, h3, by omega, by simpa using hpo, rfl⟩
                rcases hbf with ⟨rfl, ib, kb, rfl, rfl, rfl, hib, hpo, hbd⟩ | rfl
                · have HPO := Lib.hid hpo
                  have HBD := Lib.hid hbd
                  have z1 : (0 : Int) ≤ ib := by omega
                  have z2 : (ib : Int) < l.length := by omega
                  clear hpo hbd hfo hfe
                  have p0 := K.out.bx.c 0 _ rfl
                  have p1 := K.out.bx.c 1 _ rfl
                  have p2 := K.out.bx.c 2 _ rfl
                  have p3 := K.out.bx.c 3 _ rfl
                  go_wp2_with fail
                  have hcon := (Bad_any d A c l AO cO other V21 OK.out OKL.out HPO.out K.out.da K.out.la O1.out)
                  rw [HBD.out] at hcon
                  dsimp only [badV] at hcon
                  refine (hcon).mono ?_
                  rintro e V22 ⟨rfl, hb⟩
                  replace O1 := Lib.hid (O1.out.next hb)
                  replace P1 := Lib.hid (P1.out.next hb)
                  replace K := Lib.hid (K.out.next hb)
                  replace BT := Lib.hid (BT.out.trans (hb.mono BT.out.size))
                  clear hb p0 p1 p2 p3 hcon
                  dsimp only
                  go_wp2_with fail
                  refine endM (by kernel_rfl) (by kernel_rfl) ?_ ?_
                  · exact ⟨1, by omega, (slotF_at rfl).trans (by go_num), BT.out⟩
                  · (simp [slotF, intOf, E12.out])
                · clear hfo hfe
                  go_wp2_with fail
                  refine endM (by kernel_rfl) (by kernel_rfl) ?_ ?_
                  · exact ⟨1, by omega, (slotF_at rfl).trans (by go_num), BT.out⟩
                  · (simp [slotF, intOf, E12.out])
              · subst hfe
                obtain ⟨-, hpo, hsum, hfb, hbad⟩ := follow_good hfo
                subst hfb
                have hpi := planOk_iff.1 hpo
                have HPO := Lib.hid hpo
                have HSUM := Lib.hid ((sum_sets (d := d) other).trans hsum.symm)
                have HPI := Lib.hid hpi
                have HBAD := Lib.hid hbad
                clear hpo hsum hbad hfo hpi
                have hp32 : ∀ s ∈ other, 0 ≤ s ∧ s.toNat < 32 := fun s hs => by
                  have h := HPI.out.1 s hs
                  have : 2 ^ d.blades.length ≤ 2 ^ 5 := Nat.pow_le_pow_right (by omega) OK.out.nb.2
                  omega
                have HP32 := Lib.hid hp32
                clear hp32
                have hpl7 : other.length ≤ 7 := by have := HPI.out.2; omega
                have HSE := Lib.hid (fun h => sets_at HPO.out (l := l) h)
                have p0 := K.out.bx.c 0 _ rfl
                have p1 := K.out.bx.c 1 _ rfl
                have p2 := K.out.bx.c 2 _ rfl
                have p3 := K.out.bx.c 3 _ rfl
                go_wp2_with fail
                have hcon := (Plans_any d l A AO c cO other V21 OK.out hll O1.out (by omega))
                rw [HPO.out] at hcon
                refine (hcon).mono ?_
                rintro e V22 ⟨rfl, hb⟩
                replace O1 := Lib.hid (O1.out.next hb)
                replace P1 := Lib.hid (P1.out.next hb)
                replace K := Lib.hid (K.out.next hb)
                replace BT := Lib.hid (BT.out.trans (hb.mono BT.out.size))
                clear hb p0 p1 p2 p3 hcon
                have p0 := K.out.bx.c 0 _ rfl
                have p1 := K.out.bx.c 1 _ rfl
                have p2 := K.out.bx.c 2 _ rfl
                have p3 := K.out.bx.c 3 _ rfl
                go_wp2_with fail
                have hcon := (Cost_any d AO cO other V22 OK.out HP32.out hpl7 O1.out)
                rw [HSUM.out] at hcon
                refine (hcon).mono ?_
                rintro e V23 ⟨rfl, hb⟩
                replace O1 := Lib.hid (O1.out.next hb)
                replace P1 := Lib.hid (P1.out.next hb)
                replace K := Lib.hid (K.out.next hb)
                replace BT := Lib.hid (BT.out.trans (hb.mono BT.out.size))
                clear hb p0 p1 p2 p3 hcon
                go_wp2_with fail
                refine wp_loopM mask21 (fun g W => R21T d.blades.length V23 (g 21) W) (fun g _ => d.blades.length - (intOf (g 21)).toNat) (by kernel_rfl) ?_ ?_
                · exact ⟨0, by omega, slotF_at rfl, Below.refl _ _⟩
                intro f2 wr hrel
                obtain ⟨b, hbn, e21, hb2⟩ := hrel
                simp only [mask21, mixF, e21]
                have E21 := Lib.hid e21
                clear e21
                by_cases hlt : b < d.blades.length
                rotate_left
                · obtain rfl : b = d.blades.length := by omega
                  replace BT := Lib.hid (BT.out.trans (hb2.mono BT.out.size))
                  have p0 := (K.out.next hb2).bx.c 0 _ rfl
                  go_wp2_with fail
                  refine endM (by kernel_rfl) (by kernel_rfl) ?_ ?_
                  · exact ⟨1, by omega, (slotF_at rfl).trans (by go_num), BT.out⟩
                  · (simp [slotF, intOf, E12.out])
                · have HB2 := Lib.hid hb2
                  have K2 := Lib.hid (K.out.next hb2)
                  have F2 := Lib.hid (O1.out.next hb2)
                  clear hb2 K P1 O1 BT
                  generalize wr = V40 at *
                  obtain ⟨bd, od, eA, -, g0, g1, g2, g3⟩ := K2.out.da.at hlt
                  have p0 := K2.out.bx.c 0 _ rfl
                  rw [eA] at p0
                  have EA := Lib.hid eA
                  clear eA
                  have hbI : (b : Int) < d.blades.length := by omega
                  obtain ⟨⟨hf1, hf2, hf3⟩, hw1, hw2, hw3⟩ := OK.out.at hlt
                  have HOFF := Lib.hid (fun x h0 h1 => offS_in OK.out hlt (x := x) h0 h1)
                  have HSTEP := Lib.hid (fun s hs hlen => true_step OKL.out (s := s) hlen HBAD.out hs hlt)
                  generalize bladeAt d b = x at *
                  obtain ⟨fl, fh, wl, wh⟩ := x
                  dsimp only at hf1 hf2 hf3 hw1 hw2 hw3 g0 g1 g2 g3 HOFF HSTEP
                  go_upto_region 24 with fail
                  clear g0 g1 g2 g3 p0
                  have hA := nxA V40 (.cells #[.int .i64 fl, .int .i64 fh, .int .i64 wl, .int .i64 wh] 53)
                  replace F2 := Lib.hid (F2.out.next hA)
                  replace K2 := Lib.hid (K2.out.next hA)
                  replace HB2 := Lib.hid (HB2.out.trans (hA.mono HB2.out.size))
                  have SB := Lib.hid (Bx.new V40 #[.int .i64 fl, .int .i64 fh, .int .i64 wl, .int .i64 wh] 53)
                  clear hA
                  generalize (V40.alloc (.cells #[.int .i64 fl, .int .i64 fh, .int .i64 wl, .int .i64 wh] 53)) = V41 at *
                  generalize V40.heap.size = b2 at *
                  obtain ⟨ix, hix, hI2, hI1⟩ := rem_idx hb1 (b)
                  have hJ0 : (b : Int) = (((b : Nat)) : Int) := by omega
                  have hJ2 : Int.tmod ((b : Int)) (bys.length : Int) = (ix : Int) := (congrArg (Int.tmod · _) hJ0).trans hI2
                  have hJ1 : ((b : Int)) % (bys.length : Int) = (ix : Int) := (congrArg (· % (bys.length : Int)) hJ0).trans hI1
                  clear hJ0
                  clear hI1 hI2
                  obtain ⟨bu', ou', e3, hbu, hv⟩ := u16_at K2.out.ba hix
                  injection e3 with e3
                  injection e3 with e4 e5
                  subst e4 e5
                  have hvb := HBV.out (bys.getD ix 0) (by rw [List.getD_eq_getElem?_getD, List.getElem?_eq_getElem hix]; exact List.getElem_mem hix)
                  generalize bys.getD ix 0 = v at *
                  have hixI : (ix : Int) < bys.length := by omega
                  have hb0I : ¬ (bys.length : Int) = 0 := by omega
                  have hb0N : ¬ bys.length = 0 := by omega
                  have hbne : ¬ bys = [] := by rintro rfl; simp at hb1
                  have HC := Lib.hid (show ∀ W : World, Below V41.heap.size V41 W → (W.cell? ⟨b2, 2, none⟩ = some (.int .i64 wl) ∧ W.cell? ⟨b2, 3, none⟩ = some (.int .i64 wh) ∧ W.cell? ⟨bu, ou + ix, none⟩ = some (.int .u16 v)) from fun W h => ⟨(SB.out.next h).c 2 _ rfl, (SB.out.next h).c 3 _ rfl, ((bcell h).1 _ _ hbu).trans hv⟩)
                  clear hv hbu
                  refine wp_region_noPanic ?_
                  refine wp_region_held_drew (S := (fun W => W.cell? ⟨b2, 2, none⟩ = some (.int .i64 wl) ∧ W.cell? ⟨b2, 3, none⟩ = some (.int .i64 wh) ∧ W.cell? ⟨bu, ou + ix, none⟩ = some (.int .u16 v))) (by kernel_rfl) ?_ (fun hHeld => ?_)
                  · (try dsimp only); exact HC.out _ (Below.refl _ _).drew
                  refine htake (i := 0) (v := ?v1) rfl (by kernel_rfl) (by kernel_rfl) (by kernel_rfl) (fun _ _ _ h => h) (Or.inl ⟨by rfl, ?hy1⟩) (by assumption) ?_
                  case hy1 => (intro w hSw; (try dsimp only at hSw); go_simp; try (with_reducible rfl))
                  try simp only [Act.put, List.setIfInBounds_toArray, List.set_cons_zero, List.set_cons_succ]
                  refine htake (i := 1) (v := ?v2) rfl (by kernel_rfl) (by kernel_rfl) (by kernel_rfl) (fun _ _ _ h => h) (Or.inl ⟨by rfl, ?hy2⟩) (by assumption) ?_
                  case hy2 => (intro w hSw; (try dsimp only at hSw); go_simp; try (with_reducible rfl))
                  try simp only [Act.put, List.setIfInBounds_toArray, List.set_cons_zero, List.set_cons_succ]
                  refine htake (i := 2) (v := ?v3) rfl (by kernel_rfl) (by kernel_rfl) (by kernel_rfl) (fun _ _ _ h => h) (Or.inl ⟨by rfl, ?hy3⟩) (by assumption) ?_
                  case hy3 => (intro w hSw; (try dsimp only at hSw); go_simp; try (with_reducible rfl))
                  try simp only [Act.put, List.setIfInBounds_toArray, List.set_cons_zero, List.set_cons_succ]
                  refine htake (i := 3) (v := ?v4) rfl (by kernel_rfl) (by kernel_rfl) (by kernel_rfl) (fun _ _ _ h => h) (Or.inl ⟨by rfl, ?hy4⟩) (by assumption) ?_
                  case hy4 => (intro w hSw; (try dsimp only at hSw); go_simp; try (with_reducible rfl))
                  try simp only [Act.put, List.setIfInBounds_toArray, List.set_cons_zero, List.set_cons_succ]
                  refine htake (i := 4) (v := ?v5) rfl (by kernel_rfl) (by kernel_rfl) (by kernel_rfl) (fun _ _ _ h => h) (Or.inl ⟨by rfl, ?hy5⟩) (by assumption) ?_
                  case hy5 => (intro w hSw; (try dsimp only at hSw); go_simp; try (with_reducible rfl))
                  try simp only [Act.put, List.setIfInBounds_toArray, List.set_cons_zero, List.set_cons_succ]
                  refine htake (i := 5) (v := ?v6) rfl (by kernel_rfl) (by kernel_rfl) (by kernel_rfl) (fun _ _ _ h => h) (Or.inl ⟨by rfl, ?hy6⟩) (by assumption) ?_
                  case hy6 => (intro w hSw; (try dsimp only at hSw); go_simp; try (with_reducible rfl))
                  try simp only [Act.put, List.setIfInBounds_toArray, List.set_cons_zero, List.set_cons_succ]
                  refine htake (i := 6) (v := ?v7) rfl (by kernel_rfl) (by kernel_rfl) (by kernel_rfl) (fun _ _ _ h => h) (Or.inl ⟨by rfl, ?hy7⟩) (by assumption) ?_
                  case hy7 => (intro w hSw; (try dsimp only at hSw); go_simp; try (with_reducible rfl))
                  try simp only [Act.put, List.setIfInBounds_toArray, List.set_cons_zero, List.set_cons_succ]
                  refine htake (i := 7) (v := ?v8) rfl (by kernel_rfl) (by kernel_rfl) (by kernel_rfl) (fun _ _ _ h => h) (Or.inl ⟨by rfl, ?hy8⟩) (by assumption) ?_
                  case hy8 => (intro w hSw; (try dsimp only at hSw); go_simp; try (with_reducible rfl))
                  try simp only [Act.put, List.setIfInBounds_toArray, List.set_cons_zero, List.set_cons_succ]
                  refine htake (i := 8) (v := ?v9) rfl (by kernel_rfl) (by kernel_rfl) (by kernel_rfl) (fun _ _ _ h => h) (Or.inl ⟨by rfl, ?hy9⟩) (by assumption) ?_
                  case hy9 => (intro w hSw; (try dsimp only at hSw); go_simp; try (with_reducible rfl))
                  try simp only [Act.put, List.setIfInBounds_toArray, List.set_cons_zero, List.set_cons_succ]
                  refine wpAnyH_ready (rs := [9]) (by kernel_rfl) (by simp) ?_
                  refine hcons rfl (fun K hK => ?_) (AllReadyH.nil)
                  go_simp
                  (refine (pick_some wl wh v _ hw1 hw2 hw3 hvb).mono ?_); rintro e w4 ⟨x, hx, rfl, hb4⟩; have hc : Below V41.heap.size V41 w4 := (Below.refl V41.heap.size V41).drew.trans hb4; clear hb4
                  refine hK.out _ _ ?_ (fun hHeld => ?_)
                  · (try dsimp only); exact HC.out _ hc
                  clear hK K
                  try simp only [Act.put, List.setIfInBounds_toArray, List.set_cons_zero, List.set_cons_succ]
                  refine htake (i := 10) (v := ?v10) rfl (by kernel_rfl) (by kernel_rfl) (by kernel_rfl) (fun _ _ _ h => h) (Or.inl ⟨by rfl, ?hy10⟩) (by assumption) ?_
                  case hy10 => (intro w hSw; (try dsimp only at hSw); go_simp; try (with_reducible rfl))
                  try simp only [Act.put, List.setIfInBounds_toArray, List.set_cons_zero, List.set_cons_succ]
                  refine wpAnyH_done (by kernel_rfl) ?_ _
                  refine NoPanic.normal ?_
                  iterate 12 (try clear hHeld)
                  clear HC hJ1 hJ2 hixI hb0I hb0N hbne hvb hix
                  have hb := hc
                  replace F2 := Lib.hid (F2.out.next hb)
                  replace SB := Lib.hid (SB.out.next hb)
                  replace K2 := Lib.hid (K2.out.next hb)
                  replace HB2 := Lib.hid (HB2.out.trans (hb.mono HB2.out.size))
                  clear hb
                  clear hc
                  generalize w4 = V42 at *
                  go_upto_region 25 with fail
                  obtain ⟨ix, hix, hI2, hI1⟩ := rem_idx hb1 (b + 1)
                  have hJ0 : (b : Int) + 1 = (((b + 1 : Nat)) : Int) := by omega
                  have hJ2 : Int.tmod ((b : Int) + 1) (bys.length : Int) = (ix : Int) := (congrArg (Int.tmod · _) hJ0).trans hI2
                  have hJ1 : ((b : Int) + 1) % (bys.length : Int) = (ix : Int) := (congrArg (· % (bys.length : Int)) hJ0).trans hI1
                  clear hJ0
                  clear hI1 hI2
                  have hw8 : IntKind.i64.wrap ((b : Int) + 1) = (b : Int) + 1 := IntWalk.i64_in _ (by omega)
                  obtain ⟨bu', ou', e3, hbu, hv⟩ := u16_at K2.out.ba hix
                  injection e3 with e3
                  injection e3 with e4 e5
                  subst e4 e5
                  have hvb := HBV.out (bys.getD ix 0) (by rw [List.getD_eq_getElem?_getD, List.getElem?_eq_getElem hix]; exact List.getElem_mem hix)
                  generalize bys.getD ix 0 = v at *
                  have hixI : (ix : Int) < bys.length := by omega
                  have hb0I : ¬ (bys.length : Int) = 0 := by omega
                  have hb0N : ¬ bys.length = 0 := by omega
                  have hbne : ¬ bys = [] := by rintro rfl; simp at hb1
                  have HC := Lib.hid (show ∀ W : World, Below V42.heap.size V42 W → (W.cell? ⟨b2, 0, none⟩ = some (.int .i64 fl) ∧ W.cell? ⟨b2, 1, none⟩ = some (.int .i64 fh) ∧ W.cell? ⟨bu, ou + ix, none⟩ = some (.int .u16 v)) from fun W h => ⟨(SB.out.next h).c 0 _ rfl, (SB.out.next h).c 1 _ rfl, ((bcell h).1 _ _ hbu).trans hv⟩)
                  clear hv hbu
                  refine wp_region_noPanic ?_
                  refine wp_region_held_drew (S := (fun W => W.cell? ⟨b2, 0, none⟩ = some (.int .i64 fl) ∧ W.cell? ⟨b2, 1, none⟩ = some (.int .i64 fh) ∧ W.cell? ⟨bu, ou + ix, none⟩ = some (.int .u16 v))) (by kernel_rfl) ?_ (fun hHeld => ?_)
                  · (try dsimp only); exact HC.out _ (Below.refl _ _).drew
                  refine htake (i := 0) (v := ?v11) rfl (by kernel_rfl) (by kernel_rfl) (by kernel_rfl) (fun _ _ _ h => h) (Or.inl ⟨by rfl, ?hy11⟩) (by assumption) ?_
                  case hy11 => (intro w hSw; (try dsimp only at hSw); go_simp; try (with_reducible rfl))
                  try simp only [Act.put, List.setIfInBounds_toArray, List.set_cons_zero, List.set_cons_succ]
                  refine htake (i := 1) (v := ?v12) rfl (by kernel_rfl) (by kernel_rfl) (by kernel_rfl) (fun _ _ _ h => h) (Or.inl ⟨by rfl, ?hy12⟩) (by assumption) ?_
                  case hy12 => (intro w hSw; (try dsimp only at hSw); go_simp; try (with_reducible rfl))
                  try simp only [Act.put, List.setIfInBounds_toArray, List.set_cons_zero, List.set_cons_succ]
                  refine htake (i := 2) (v := ?v13) rfl (by kernel_rfl) (by kernel_rfl) (by kernel_rfl) (fun _ _ _ h => h) (Or.inl ⟨by rfl, ?hy13⟩) (by assumption) ?_
                  case hy13 => (intro w hSw; (try dsimp only at hSw); go_simp; try (with_reducible rfl))
                  try simp only [Act.put, List.setIfInBounds_toArray, List.set_cons_zero, List.set_cons_succ]
                  refine htake (i := 3) (v := ?v14) rfl (by kernel_rfl) (by kernel_rfl) (by kernel_rfl) (fun _ _ _ h => h) (Or.inl ⟨by rfl, ?hy14⟩) (by assumption) ?_
                  case hy14 => (intro w hSw; (try dsimp only at hSw); go_simp; try (with_reducible rfl))
                  try simp only [Act.put, List.setIfInBounds_toArray, List.set_cons_zero, List.set_cons_succ]
                  refine htake (i := 4) (v := ?v15) rfl (by kernel_rfl) (by kernel_rfl) (by kernel_rfl) (fun _ _ _ h => h) (Or.inl ⟨by rfl, ?hy15⟩) (by assumption) ?_
                  case hy15 => (intro w hSw; (try dsimp only at hSw); go_simp; try (with_reducible rfl))
                  try simp only [Act.put, List.setIfInBounds_toArray, List.set_cons_zero, List.set_cons_succ]
                  refine htake (i := 5) (v := ?v16) rfl (by kernel_rfl) (by kernel_rfl) (by kernel_rfl) (fun _ _ _ h => h) (Or.inl ⟨by rfl, ?hy16⟩) (by assumption) ?_
                  case hy16 => (intro w hSw; (try dsimp only at hSw); go_simp; try (with_reducible rfl))
                  try simp only [Act.put, List.setIfInBounds_toArray, List.set_cons_zero, List.set_cons_succ]
                  refine htake (i := 6) (v := ?v17) rfl (by kernel_rfl) (by kernel_rfl) (by kernel_rfl) (fun _ _ _ h => h) (Or.inl ⟨by rfl, ?hy17⟩) (by assumption) ?_
                  case hy17 => (intro w hSw; (try dsimp only at hSw); go_simp; try (with_reducible rfl))
                  try simp only [Act.put, List.setIfInBounds_toArray, List.set_cons_zero, List.set_cons_succ]
                  refine htake (i := 7) (v := ?v18) rfl (by kernel_rfl) (by kernel_rfl) (by kernel_rfl) (fun _ _ _ h => h) (Or.inl ⟨by rfl, ?hy18⟩) (by assumption) ?_
                  case hy18 => (intro w hSw; (try dsimp only at hSw); go_simp; try (with_reducible rfl))
                  try simp only [Act.put, List.setIfInBounds_toArray, List.set_cons_zero, List.set_cons_succ]
                  refine htake (i := 8) (v := ?v19) rfl (by kernel_rfl) (by kernel_rfl) (by kernel_rfl) (fun _ _ _ h => h) (Or.inl ⟨by rfl, ?hy19⟩) (by assumption) ?_
                  case hy19 => (intro w hSw; (try dsimp only at hSw); go_simp; try (with_reducible rfl))
                  try simp only [Act.put, List.setIfInBounds_toArray, List.set_cons_zero, List.set_cons_succ]
                  refine htake (i := 9) (v := ?v20) rfl (by kernel_rfl) (by kernel_rfl) (by kernel_rfl) (fun _ _ _ h => h) (Or.inl ⟨by rfl, ?hy20⟩) (by assumption) ?_
                  case hy20 => (intro w hSw; (try dsimp only at hSw); go_simp; try (with_reducible rfl))
                  try simp only [Act.put, List.setIfInBounds_toArray, List.set_cons_zero, List.set_cons_succ]
                  refine wpAnyH_ready (rs := [10]) (by kernel_rfl) (by simp) ?_
                  refine hcons rfl (fun K hK => ?_) (AllReadyH.nil)
                  go_simp
                  (refine (pick_some fl fh v _ hf1 hf2 hf3 hvb).mono ?_); rintro e w4 ⟨f0, hf0, rfl, hb4⟩; have hc : Below V42.heap.size V42 w4 := (Below.refl V42.heap.size V42).drew.trans hb4; clear hb4
                  refine hK.out _ _ ?_ (fun hHeld => ?_)
                  · (try dsimp only); exact HC.out _ hc
                  clear hK K
                  try simp only [Act.put, List.setIfInBounds_toArray, List.set_cons_zero, List.set_cons_succ]
                  refine htake (i := 11) (v := ?v21) rfl (by kernel_rfl) (by kernel_rfl) (by kernel_rfl) (fun _ _ _ h => h) (Or.inl ⟨by rfl, ?hy21⟩) (by assumption) ?_
                  case hy21 => (intro w hSw; (try dsimp only at hSw); go_simp; try (with_reducible rfl))
                  try simp only [Act.put, List.setIfInBounds_toArray, List.set_cons_zero, List.set_cons_succ]
                  refine htake (i := 12) (v := ?v22) rfl (by kernel_rfl) (by kernel_rfl) (by kernel_rfl) (fun _ _ _ h => h) (Or.inl ⟨by rfl, ?hy22⟩) (by assumption) ?_
                  case hy22 => (intro w hSw; (try dsimp only at hSw); go_simp; try (with_reducible rfl))
                  try simp only [Act.put, List.setIfInBounds_toArray, List.set_cons_zero, List.set_cons_succ]
                  refine wpAnyH_done (by kernel_rfl) ?_ _
                  refine NoPanic.normal ?_
                  iterate 14 (try clear hHeld)
                  clear HC hJ1 hJ2 hixI hb0I hb0N hbne hvb hix hw8
                  have hb := hc
                  replace F2 := Lib.hid (F2.out.next hb)
                  replace SB := Lib.hid (SB.out.next hb)
                  replace K2 := Lib.hid (K2.out.next hb)
                  replace HB2 := Lib.hid (HB2.out.trans (hb.mono HB2.out.size))
                  clear hb
                  clear hc
                  generalize w4 = V43 at *
                  go_wp2_with fail
                  obtain ⟨sets, hsets⟩ : ∃ sets, sets = setsOf other := ⟨_, rfl⟩
                  rw [← hsets] at HSE HSTEP
                  clear hsets
                  refine wp_loopM mask27 (fun g W => R27T d l sets b fl fh V43 (g 24) (g 25) (g 26) W) (fun g _ => l.length - (intOf (g 26)).toNat) (by kernel_rfl) ?_ ?_
                  · exact ⟨0, f0, by omega, slotF_at rfl, slotF_at rfl, slotF_at rfl, hf0, Below.refl _ _⟩
                  intro f3 wr hrel
                  obtain ⟨s, f1, hsl, e26, e24, e25, hf1b, hb3⟩ := hrel
                  simp only [mask27, mixF, e24, e25, e26]
                  have E26 := Lib.hid e26
                  clear e24 e25 e26
                  by_cases hls : s < l.length
                  rotate_left
                  · obtain rfl : s = l.length := by omega
                    replace HB2 := Lib.hid (HB2.out.trans (hb3.mono HB2.out.size))
                    go_wp2_with fail
                    refine endM (by kernel_rfl) (by kernel_rfl) ?_ ?_
                    · exact ⟨b + 1, by omega, (slotF_at rfl).trans (by go_num), HB2.out⟩
                    · (simp [slotF, intOf, E21.out]; omega)
                  · have HB3 := Lib.hid hb3
                    have K3 := Lib.hid (K2.out.next hb3)
                    have F3 := Lib.hid (F2.out.next hb3)
                    have SC := Lib.hid (SB.out.next hb3)
                    clear hb3 K2 F2 SB HB2
                    generalize wr = V60 at *
                    have hse := HSE.out (by omega)
                    obtain ⟨hsn, hs0, hsp, hsq⟩ := hse
                    obtain ⟨hstep, hr0, hr1, hr2, hlim⟩ := HSTEP.out s hls (by omega)
                    have hset32 : sets.getD s 0 < 32 := Nat.lt_of_lt_of_le (hsp s) (Nat.pow_le_pow_right (by omega) OK.out.nb.2 : 2 ^ d.blades.length ≤ 2 ^ 5)
                    have HSK := Lib.hid (show ∀ q, s = q + 1 → other.getD q 0 = ((sets.getD s 0 : Nat) : Int) from fun q e => by subst e; exact hsq q hls)
                    have HS0 := Lib.hid (show s = 0 → sets.getD s 0 = 0 from fun e => by subst e; exact hs0)
                    have HREL := Lib.hid (fun (W : World) (g : Int) (sv fv rv : Value) (hsv : sv = .int .i64 ((s + 1 : Nat) : Int)) (hfv : fv = .int .i64 g) (hrv : rv = .int .i64 (ranAt d.blades.length l sets (fun _ => 0) (s + 1) b)) (hg : fl ≤ g ∧ g ≤ fh) (hb : Below V43.heap.size V43 W) => (show R27T d l sets b fl fh V43 fv rv sv W from ⟨s + 1, g, by omega, hsv, hfv, hrv, hg, hb⟩))
                    have HPI2 := Lib.hid HPI.out.2
                    clear hsn hs0 hsp hsq HSTEP HSE
                    generalize ranAt d.blades.length l sets (fun _ => 0) (s + 1) b = r1 at *
                    generalize ranAt d.blades.length l sets (fun _ => 0) s b = r at *
                    generalize sets.getD s 0 = q at *
                    have htk := OKL.out.st (l.getD s ⟨0, 0⟩) (by rw [List.getD_eq_getElem?_getD, List.getElem?_eq_getElem hls]; exact List.getElem_mem hls)
                    obtain ⟨bs, os, eS, hbs, t0, t1⟩ := stint_at K3.out.la hls
                    subst eS
                    generalize (l.getD s ⟨0, 0⟩) = st at *
                    obtain ⟨n, more⟩ := st
                    dsimp only at hstep hlim htk t0 t1
                    obtain ⟨S, hS⟩ : ∃ S : Int, S = (s : Int) := ⟨_, rfl⟩
                    rw [← hS]
                    have hS0 : 0 ≤ S ∧ S < l.length := by omega
                    have hSN : S.toNat = s := by omega
                    have HSS := Lib.hid hS
                    clear hS
                    have hstep2 : r1 = (if has q b = true then 0 else r) + n := hstep
                    have HST := Lib.hid hstep2
                    clear hstep hstep2
                    obtain ⟨bfl, hbfl⟩ : ∃ x, x = has q b := ⟨_, rfl⟩
                    rw [← hbfl] at HST
                    have HFL := Lib.hid hbfl
                    clear hbfl
                    go_upto_region 29 with fail
                    go_cut [198] (fun s198 wx => s198 = .bool bfl ∧ wx = V60)
                    case first =>
                      by_cases hs1 : S ≤ 0
                      · have hz0 := HS0.out (by have := HSS.out; omega)
                        have hbf0 : bfl = false := by rw [HFL.out, hz0]; simp [has]
                        go_wp2_with fail
                        go_meet
                        exact ⟨by rw [hbf0], rfl⟩
                      · obtain ⟨u, hu⟩ : ∃ u, s = u + 1 := ⟨s - 1, by have := HSS.out; omega⟩
                        obtain ⟨b3, o3, e4, hb3, gp⟩ := int_at F3.out (k := u) (by have := HPI2.out; omega)
                        rw [HSK.out u hu] at gp
                        have E4 := Lib.hid e4
                        have hI2 : (0 ≤ S - 1 ∧ S - 1 < (other.length : Int)) = True := by have := HPI2.out; have := HSS.out; simp; omega
                        have hI3 : (S - 1).toNat = u := by have := HSS.out; omega
                        have hpos : 0 < S := by omega
                        have hI4 : 1 ≤ S := by omega
                        have hI5 : S - 1 < (other.length : Int) := by have := HPI2.out; have := HSS.out; omega
                        clear hu hs1
                        subst e4
                        go_wp2_with (go_at_call 33; (with_reducible refine (has_any q b (by omega) (by omega) _).mono ?_); rintro e w' ⟨rfl, rfl⟩)
                        go_meet
                        exact ⟨by rw [HFL.out], rfl⟩
                    case rest =>
                      obtain ⟨rfl, rfl⟩ := hcut
                      go_upto_if 198 with fail
                      go_cut [24, 25] (fun s24 s25 wx => ∃ g2 r2 : Int, s24 = .int .i64 g2 ∧ s25 = .int .i64 r2 ∧ (fl ≤ g2 ∧ g2 ≤ fh) ∧ (0 ≤ r2 ∧ r2 ≤ r1 ∧ r1 = r2 + n) ∧ Below wc.heap.size wc wx)
                      case first =>
                        cases bfl
                        · go_wp2_with fail
                          go_meet
                          exact ⟨f1, r, rfl, rfl, hf1b, ⟨hr0, by have := HST.out; simp at this; omega, by have := HST.out; simp at this; omega⟩, Below.refl _ _⟩
                        · skip
                          go_wp2_with fail
                          obtain ⟨ix, hix, hI2, hI1⟩ := rem_idx hb1 (b + s + 2)
                          have hJ0 : (b : Int) + S + 2 = (((b + s + 2 : Nat)) : Int) := by have := HSS.out; omega
                          have hJ2 : Int.tmod ((b : Int) + S + 2) (bys.length : Int) = (ix : Int) := (congrArg (Int.tmod · _) hJ0).trans hI2
                          have hJ1 : ((b : Int) + S + 2) % (bys.length : Int) = (ix : Int) := (congrArg (· % (bys.length : Int)) hJ0).trans hI1
                          clear hJ0
                          clear hI1 hI2
                          have hw8 : IntKind.i64.wrap ((b : Int) + S + 2) = (b : Int) + S + 2 := IntWalk.i64_in _ (by omega)
                          have hw9 : IntKind.i64.wrap ((b : Int) + S) = (b : Int) + S := IntWalk.i64_in _ (by omega)
                          obtain ⟨bu', ou', e3, hbu, hv⟩ := u16_at K3.out.ba hix
                          injection e3 with e3
                          injection e3 with e4 e5
                          subst e4 e5
                          have hvb := HBV.out (bys.getD ix 0) (by rw [List.getD_eq_getElem?_getD, List.getElem?_eq_getElem hix]; exact List.getElem_mem hix)
                          generalize bys.getD ix 0 = v at *
                          have hixI : (ix : Int) < bys.length := by omega
                          have hb0I : ¬ (bys.length : Int) = 0 := by omega
                          have hb0N : ¬ bys.length = 0 := by omega
                          have hbne : ¬ bys = [] := by rintro rfl; simp at hb1
                          have HC := Lib.hid (show ∀ W : World, Below wc.heap.size wc W → (W.cell? ⟨b2, 0, none⟩ = some (.int .i64 fl) ∧ W.cell? ⟨b2, 1, none⟩ = some (.int .i64 fh) ∧ W.cell? ⟨bu, ou + ix, none⟩ = some (.int .u16 v)) from fun W h => ⟨(SC.out.next h).c 0 _ rfl, (SC.out.next h).c 1 _ rfl, ((bcell h).1 _ _ hbu).trans hv⟩)
                          clear hv hbu
                          refine wp_region_noPanic ?_
                          refine wp_region_held_drew (S := (fun W => W.cell? ⟨b2, 0, none⟩ = some (.int .i64 fl) ∧ W.cell? ⟨b2, 1, none⟩ = some (.int .i64 fh) ∧ W.cell? ⟨bu, ou + ix, none⟩ = some (.int .u16 v))) (by kernel_rfl) ?_ (fun hHeld => ?_)
                          · (try dsimp only); exact HC.out _ (Below.refl _ _).drew
                          refine htake (i := 0) (v := ?v23) rfl (by kernel_rfl) (by kernel_rfl) (by kernel_rfl) (fun _ _ _ h => h) (Or.inl ⟨by rfl, ?hy23⟩) (by assumption) ?_
                          case hy23 => (intro w hSw; (try dsimp only at hSw); go_simp; try (with_reducible rfl))
                          try simp only [Act.put, List.setIfInBounds_toArray, List.set_cons_zero, List.set_cons_succ]
                          refine htake (i := 1) (v := ?v24) rfl (by kernel_rfl) (by kernel_rfl) (by kernel_rfl) (fun _ _ _ h => h) (Or.inl ⟨by rfl, ?hy24⟩) (by assumption) ?_
                          case hy24 => (intro w hSw; (try dsimp only at hSw); go_simp; try (with_reducible rfl))
                          try simp only [Act.put, List.setIfInBounds_toArray, List.set_cons_zero, List.set_cons_succ]
                          refine htake (i := 2) (v := ?v25) rfl (by kernel_rfl) (by kernel_rfl) (by kernel_rfl) (fun _ _ _ h => h) (Or.inl ⟨by rfl, ?hy25⟩) (by assumption) ?_
                          case hy25 => (intro w hSw; (try dsimp only at hSw); go_simp; try (with_reducible rfl))
                          try simp only [Act.put, List.setIfInBounds_toArray, List.set_cons_zero, List.set_cons_succ]
                          refine htake (i := 3) (v := ?v26) rfl (by kernel_rfl) (by kernel_rfl) (by kernel_rfl) (fun _ _ _ h => h) (Or.inl ⟨by rfl, ?hy26⟩) (by assumption) ?_
                          case hy26 => (intro w hSw; (try dsimp only at hSw); go_simp; try (with_reducible rfl))
                          try simp only [Act.put, List.setIfInBounds_toArray, List.set_cons_zero, List.set_cons_succ]
                          refine htake (i := 4) (v := ?v27) rfl (by kernel_rfl) (by kernel_rfl) (by kernel_rfl) (fun _ _ _ h => h) (Or.inl ⟨by rfl, ?hy27⟩) (by assumption) ?_
                          case hy27 => (intro w hSw; (try dsimp only at hSw); go_simp; try (with_reducible rfl))
                          try simp only [Act.put, List.setIfInBounds_toArray, List.set_cons_zero, List.set_cons_succ]
                          refine htake (i := 5) (v := ?v28) rfl (by kernel_rfl) (by kernel_rfl) (by kernel_rfl) (fun _ _ _ h => h) (Or.inl ⟨by rfl, ?hy28⟩) (by assumption) ?_
                          case hy28 => (intro w hSw; (try dsimp only at hSw); go_simp; try (with_reducible rfl))
                          try simp only [Act.put, List.setIfInBounds_toArray, List.set_cons_zero, List.set_cons_succ]
                          refine htake (i := 6) (v := ?v29) rfl (by kernel_rfl) (by kernel_rfl) (by kernel_rfl) (fun _ _ _ h => h) (Or.inl ⟨by rfl, ?hy29⟩) (by assumption) ?_
                          case hy29 => (intro w hSw; (try dsimp only at hSw); go_simp; try (with_reducible rfl))
                          try simp only [Act.put, List.setIfInBounds_toArray, List.set_cons_zero, List.set_cons_succ]
                          refine htake (i := 7) (v := ?v30) rfl (by kernel_rfl) (by kernel_rfl) (by kernel_rfl) (fun _ _ _ h => h) (Or.inl ⟨by rfl, ?hy30⟩) (by assumption) ?_
                          case hy30 => (intro w hSw; (try dsimp only at hSw); go_simp; try (with_reducible rfl))
                          try simp only [Act.put, List.setIfInBounds_toArray, List.set_cons_zero, List.set_cons_succ]
                          refine htake (i := 8) (v := ?v31) rfl (by kernel_rfl) (by kernel_rfl) (by kernel_rfl) (fun _ _ _ h => h) (Or.inl ⟨by rfl, ?hy31⟩) (by assumption) ?_
                          case hy31 => (intro w hSw; (try dsimp only at hSw); go_simp; try (with_reducible rfl))
                          try simp only [Act.put, List.setIfInBounds_toArray, List.set_cons_zero, List.set_cons_succ]
                          refine htake (i := 9) (v := ?v32) rfl (by kernel_rfl) (by kernel_rfl) (by kernel_rfl) (fun _ _ _ h => h) (Or.inl ⟨by rfl, ?hy32⟩) (by assumption) ?_
                          case hy32 => (intro w hSw; (try dsimp only at hSw); go_simp; try (with_reducible rfl))
                          try simp only [Act.put, List.setIfInBounds_toArray, List.set_cons_zero, List.set_cons_succ]
                          refine htake (i := 10) (v := ?v33) rfl (by kernel_rfl) (by kernel_rfl) (by kernel_rfl) (fun _ _ _ h => h) (Or.inl ⟨by rfl, ?hy33⟩) (by assumption) ?_
                          case hy33 => (intro w hSw; (try dsimp only at hSw); go_simp; try (with_reducible rfl))
                          try simp only [Act.put, List.setIfInBounds_toArray, List.set_cons_zero, List.set_cons_succ]
                          refine htake (i := 11) (v := ?v34) rfl (by kernel_rfl) (by kernel_rfl) (by kernel_rfl) (fun _ _ _ h => h) (Or.inl ⟨by rfl, ?hy34⟩) (by assumption) ?_
                          case hy34 => (intro w hSw; (try dsimp only at hSw); go_simp; try (with_reducible rfl))
                          try simp only [Act.put, List.setIfInBounds_toArray, List.set_cons_zero, List.set_cons_succ]
                          refine wpAnyH_ready (rs := [12]) (by kernel_rfl) (by simp) ?_
                          refine hcons rfl (fun K hK => ?_) (AllReadyH.nil)
                          go_simp
                          (refine (pick_some fl fh v _ hf1 hf2 hf3 hvb).mono ?_); rintro e w4 ⟨f9, hf9, rfl, hb4⟩; have hc : Below wc.heap.size wc w4 := (Below.refl wc.heap.size wc).drew.trans hb4; clear hb4
                          refine hK.out _ _ ?_ (fun hHeld => ?_)
                          · (try dsimp only); exact HC.out _ hc
                          clear hK K
                          try simp only [Act.put, List.setIfInBounds_toArray, List.set_cons_zero, List.set_cons_succ]
                          refine htake (i := 13) (v := ?v35) rfl (by kernel_rfl) (by kernel_rfl) (by kernel_rfl) (fun _ _ _ h => h) (Or.inl ⟨by rfl, ?hy35⟩) (by assumption) ?_
                          case hy35 => (intro w hSw; (try dsimp only at hSw); go_simp; try (with_reducible rfl))
                          try simp only [Act.put, List.setIfInBounds_toArray, List.set_cons_zero, List.set_cons_succ]
                          refine htake (i := 14) (v := ?v36) rfl (by kernel_rfl) (by kernel_rfl) (by kernel_rfl) (fun _ _ _ h => h) (Or.inl ⟨by rfl, ?hy36⟩) (by assumption) ?_
                          case hy36 => (intro w hSw; (try dsimp only at hSw); go_simp; try (with_reducible rfl))
                          try simp only [Act.put, List.setIfInBounds_toArray, List.set_cons_zero, List.set_cons_succ]
                          refine wpAnyH_done (by kernel_rfl) ?_ _
                          refine NoPanic.normal ?_
                          iterate 16 (try clear hHeld)
                          clear HC hJ1 hJ2 hixI hb0I hb0N hbne hvb hix hw8 hw9
                          have HB4 := Lib.hid hc
                          clear hc
                          generalize w4 = V61 at *
                          go_wp2_with fail
                          go_meet
                          exact ⟨f9, 0, rfl, rfl, hf9, ⟨by omega, by have := HST.out; simp at this; omega, by have := HST.out; simp at this; omega⟩, HB4.out⟩
                      case rest =>
                        obtain ⟨g2, r2, rfl, rfl, hg2, ⟨hr20, hr21, hr22⟩, hb⟩ := hcut
                        replace K3 := Lib.hid (K3.out.next hb)
                        replace HB3 := Lib.hid (HB3.out.trans (hb.mono HB3.out.size))
                        have TS := Lib.hid (show StC bs (os + s * 2) n more wc from ⟨Nat.lt_of_lt_of_le hbs hb.size, ((bcell hb).1 _ _ hbs).trans t0, ((bcell hb).1 _ _ hbs).trans t1⟩)
                        have HR22 := Lib.hid hr22
                        clear hb SC F3 HST HFL hf1b hr22 HS0 HSK hset32 hf0 t0 t1 hbs
                        generalize wc = V70 at *
                        have t0 := TS.out.c0
                        obtain ⟨ix, hix, hI2, hI1⟩ := rem_idx hb1 (3 * b + s)
                        have hJ0 : 3 * (b : Int) + S = (((3 * b + s : Nat)) : Int) := by have := HSS.out; omega
                        have hJ2 : Int.tmod (3 * (b : Int) + S) (bys.length : Int) = (ix : Int) := (congrArg (Int.tmod · _) hJ0).trans hI2
                        have hJ1 : (3 * (b : Int) + S) % (bys.length : Int) = (ix : Int) := (congrArg (· % (bys.length : Int)) hJ0).trans hI1
                        clear hJ0 hI1 hI2
                        obtain ⟨bu', ou', e3, hbu, hv⟩ := u16_at K3.out.ba hix
                        injection e3 with e3
                        injection e3 with e4 e5
                        subst e4 e5
                        have hvb := HBV.out (bys.getD ix 0) (by rw [List.getD_eq_getElem?_getD, List.getElem?_eq_getElem hix]; exact List.getElem_mem hix)
                        generalize bys.getD ix 0 = v at *
                        have hixI : (ix : Int) < bys.length := by omega
                        have hb0I : ¬ (bys.length : Int) = 0 := by omega
                        have hb0N : ¬ bys.length = 0 := by omega
                        have hbne : ¬ bys = [] := by rintro rfl; simp at hb1
                        obtain ⟨m, hm⟩ : ∃ m, v % (n + 1) = m := ⟨_, rfl⟩
                        have hm2 : Int.tmod v (n + 1) = m := by rw [Int.tmod_eq_emod_of_nonneg hvb.1]; exact hm
                        have hmb : 0 ≤ m ∧ m ≤ n := by rw [← hm]; have h1 := Int.emod_nonneg v (b := n + 1) (by omega); have h2 := Int.emod_lt_of_pos v (b := n + 1) (by omega); omega
                        have hn1 : ¬ n + 1 = 0 := by omega
                        have hwv : IntKind.i64.wrap v = v := IntWalk.i64_in _ (by omega)
                        obtain ⟨now, hnow⟩ : ∃ x, r2 + m = x := ⟨_, rfl⟩
                        have hnb2 : 0 ≤ now ∧ now ≤ r1 := by have := HR22.out; omega
                        go_wp2_with fail
                        go_quiet (fail)
                        clear hv hJ1 hJ2 hixI hb0I hb0N hbne hm hm2 hn1 hwv hix hnow hbu t0
                        have hb := below_drewN (Below.refl V70.heap.size V70) nq
                        replace TS := Lib.hid (TS.out.next hb)
                        replace K3 := Lib.hid (K3.out.next hb)
                        replace HB3 := Lib.hid (HB3.out.trans (hb.mono HB3.out.size))
                        clear hb
                        generalize V70.drewN nq = V71 at *
                        have hto := true_off hg2.1 hg2.2 hw1 hx.1 hx.2 hnb2.1 hnb2.2 hr2 (by omega) hlim
                        obtain ⟨hpr0, hpr1, ho1, ho2, ho3⟩ := hto
                        have p0 := K3.out.bx.c 0 _ rfl
                        have p1 := K3.out.bx.c 1 _ rfl
                        have p2 := K3.out.bx.c 2 _ rfl
                        have p3 := K3.out.bx.c 3 _ rfl
                        go_wp2_with fail
                        have hcon := (Off_any d b now V71 K3.out.da)
                        rw [HOFF.out now (by omega) (by omega)] at hcon
                        dsimp only [retSpan] at hcon
                        obtain ⟨olo, hol⟩ : ∃ z, fl + wl * now = z := ⟨_, rfl⟩
                        obtain ⟨ohi, hoh⟩ : ∃ z, fh + wh * now = z := ⟨_, rfl⟩
                        rw [hol] at ho1
                        rw [hoh] at ho2
                        rw [hol, hoh] at hcon
                        clear hol hoh
                        refine (hcon).mono ?_
                        rintro e V72 ⟨rfl, hb⟩
                        replace TS := Lib.hid (TS.out.next hb)
                        replace K3 := Lib.hid (K3.out.next hb)
                        replace HB3 := Lib.hid (HB3.out.trans (hb.mono HB3.out.size))
                        clear hb p0 p1 p2 p3 hcon
                        go_upto_region 33 with fail
                        have hA := nxA V72 (.cells #[.int .i64 olo, .int .i64 ohi] 28)
                        replace TS := Lib.hid (TS.out.next hA)
                        replace K3 := Lib.hid (K3.out.next hA)
                        replace HB3 := Lib.hid (HB3.out.trans (hA.mono HB3.out.size))
                        have SD := Lib.hid (Bx.new V72 #[.int .i64 olo, .int .i64 ohi] 28)
                        clear hA
                        generalize (V72.alloc (.cells #[.int .i64 olo, .int .i64 ohi] 28)) = V73 at *
                        generalize V72.heap.size = b3 at *
                        obtain ⟨off, hoff⟩ : ∃ z, g2 + x * now = z := ⟨_, rfl⟩
                        have hoff0 : 0 ≤ off ∧ off ≤ 70010000 := by omega
                        have hwp : IntKind.i64.wrap (x * now) = x * now := IntWalk.i64_in _ (by omega)
                        have hwq : wrap64 (x * now) = x * now := IntWalk.wrap64_in _ ⟨by omega, by omega⟩
                        rw [hoff] at ho1 ho2 ho3
                        have d1 : decide (off < olo) = false := decide_eq_false (by omega)
                        have d2 : decide (ohi < off) = false := decide_eq_false (by omega)
                        have d3 : decide (d.bound + more < off) = false := decide_eq_false (by omega)
                        have q0 := SD.out.c 0 _ rfl
                        have q1 := SD.out.c 1 _ rfl
                        have t0 := TS.out.c0
                        have t1 := TS.out.c1
                        have p1 := K3.out.bx.c 1 _ rfl
                        have hbd := OK.out.bound
                        go_upto_region 34 with fail
                        first | rw [hwp] | skip
                        first | rw [hwq] | skip
                        try rw [hoff]
                        clear hwp hwq
                        go_quiet (fail)
                        go_wp2_with fail
                        refine endM (by kernel_rfl) (by kernel_rfl) ?_ ?_
                        · refine HREL.out _ g2 _ _ _ ?_ ?_ ?_ hg2 (HB3.out.trans ((below_drewN (Below.refl _ _) nq).mono HB3.out.size))
                          · exact (slotF_at rfl).trans (by rw [HSS.out]; go_num)
                          · exact slotF_at rfl
                          · exact (slotF_at rfl).trans (by rw [HR22.out])
                        · (simp [slotF, intOf, E26.out]; try omega)
            · rcases HBE.out with ⟨rfl, fa, hfo⟩ | ⟨rfl, hpl0⟩
              · skip
                go_wp2_with fail
                have hcon := (Follow_any d A c l AP cP pl V20 K.out.da K.out.la HL.out P1.out HPLL.out K.out.en)
                rw [hfo] at hcon
                refine (hcon).mono ?_
                rintro e V21 ⟨rfl, hb⟩
                replace O1 := Lib.hid (O1.out.next hb)
                replace P1 := Lib.hid (P1.out.next hb)
                replace K := Lib.hid (K.out.next hb)
                replace BT := Lib.hid (BT.out.trans (hb.mono BT.out.size))
                clear hb p0 p1 p2 p3 hcon
                dsimp only [foV]
                obtain ⟨-, hpo, hsum, hfb, hbad⟩ := follow_good hfo
                clear hfb
                have hpi := planOk_iff.1 hpo
                have HPO := Lib.hid hpo
                have HSUM := Lib.hid ((sum_sets (d := d) pl).trans hsum.symm)
                have HPI := Lib.hid hpi
                have HBAD := Lib.hid hbad
                clear hpo hsum hbad hfo hpi
                have hp32 : ∀ s ∈ pl, 0 ≤ s ∧ s.toNat < 32 := fun s hs => by
                  have h := HPI.out.1 s hs
                  have : 2 ^ d.blades.length ≤ 2 ^ 5 := Nat.pow_le_pow_right (by omega) OK.out.nb.2
                  omega
                have HP32 := Lib.hid hp32
                clear hp32
                have hpl7 : pl.length ≤ 7 := by have := HPI.out.2; omega
                have HSE := Lib.hid (fun h => sets_at HPO.out (l := l) h)
                have p0 := K.out.bx.c 0 _ rfl
                have p1 := K.out.bx.c 1 _ rfl
                have p2 := K.out.bx.c 2 _ rfl
                have p3 := K.out.bx.c 3 _ rfl
                go_wp2_with fail
                have hcon := (Plans_any d l A AP c cP pl V21 OK.out hll P1.out (by omega))
                rw [HPO.out] at hcon
                refine (hcon).mono ?_
                rintro e V22 ⟨rfl, hb⟩
                replace O1 := Lib.hid (O1.out.next hb)
                replace P1 := Lib.hid (P1.out.next hb)
                replace K := Lib.hid (K.out.next hb)
                replace BT := Lib.hid (BT.out.trans (hb.mono BT.out.size))
                clear hb p0 p1 p2 p3 hcon
                have p0 := K.out.bx.c 0 _ rfl
                have p1 := K.out.bx.c 1 _ rfl
                have p2 := K.out.bx.c 2 _ rfl
                have p3 := K.out.bx.c 3 _ rfl
                go_wp2_with fail
                have hcon := (Cost_any d AP cP pl V22 OK.out HP32.out hpl7 P1.out)
                rw [HSUM.out] at hcon
                refine (hcon).mono ?_
                rintro e V23 ⟨rfl, hb⟩
                replace O1 := Lib.hid (O1.out.next hb)
                replace P1 := Lib.hid (P1.out.next hb)
                replace K := Lib.hid (K.out.next hb)
                replace BT := Lib.hid (BT.out.trans (hb.mono BT.out.size))
                clear hb p0 p1 p2 p3 hcon
                go_wp2_with fail
                refine wp_loopM mask21 (fun g W => R21T d.blades.length V23 (g 21) W) (fun g _ => d.blades.length - (intOf (g 21)).toNat) (by kernel_rfl) ?_ ?_
                · exact ⟨0, by omega, slotF_at rfl, Below.refl _ _⟩
                intro f2 wr hrel
                obtain ⟨b, hbn, e21, hb2⟩ := hrel
                simp only [mask21, mixF, e21]
                have E21 := Lib.hid e21
                clear e21
                by_cases hlt : b < d.blades.length
                rotate_left
                · obtain rfl : b = d.blades.length := by omega
                  replace BT := Lib.hid (BT.out.trans (hb2.mono BT.out.size))
                  have p0 := (K.out.next hb2).bx.c 0 _ rfl
                  go_wp2_with fail
                  refine endM (by kernel_rfl) (by kernel_rfl) ?_ ?_
                  · exact ⟨2, by omega, (slotF_at rfl).trans (by go_num), BT.out⟩
                  · (simp [slotF, intOf, E12.out])
                · have HB2 := Lib.hid hb2
                  have K2 := Lib.hid (K.out.next hb2)
                  have F2 := Lib.hid (P1.out.next hb2)
                  clear hb2 K P1 O1 BT
                  generalize wr = V40 at *
                  obtain ⟨bd, od, eA, -, g0, g1, g2, g3⟩ := K2.out.da.at hlt
                  have p0 := K2.out.bx.c 0 _ rfl
                  rw [eA] at p0
                  have EA := Lib.hid eA
                  clear eA
                  have hbI : (b : Int) < d.blades.length := by omega
                  obtain ⟨⟨hf1, hf2, hf3⟩, hw1, hw2, hw3⟩ := OK.out.at hlt
                  have HOFF := Lib.hid (fun x h0 h1 => offS_in OK.out hlt (x := x) h0 h1)
                  have HSTEP := Lib.hid (fun s hs hlen => true_step OKL.out (s := s) hlen HBAD.out hs hlt)
                  generalize bladeAt d b = x at *
                  obtain ⟨fl, fh, wl, wh⟩ := x
                  dsimp only at hf1 hf2 hf3 hw1 hw2 hw3 g0 g1 g2 g3 HOFF HSTEP
                  go_upto_region 24 with fail
                  clear g0 g1 g2 g3 p0
                  have hA := nxA V40 (.cells #[.int .i64 fl, .int .i64 fh, .int .i64 wl, .int .i64 wh] 53)
                  replace F2 := Lib.hid (F2.out.next hA)
                  replace K2 := Lib.hid (K2.out.next hA)
                  replace HB2 := Lib.hid (HB2.out.trans (hA.mono HB2.out.size))
                  have SB := Lib.hid (Bx.new V40 #[.int .i64 fl, .int .i64 fh, .int .i64 wl, .int .i64 wh] 53)
                  clear hA
                  generalize (V40.alloc (.cells #[.int .i64 fl, .int .i64 fh, .int .i64 wl, .int .i64 wh] 53)) = V41 at *
                  generalize V40.heap.size = b2 at *
                  obtain ⟨ix, hix, hI2, hI1⟩ := rem_idx hb1 (b)
                  have hJ0 : (b : Int) = (((b : Nat)) : Int) := by omega
                  have hJ2 : Int.tmod ((b : Int)) (bys.length : Int) = (ix : Int) := (congrArg (Int.tmod · _) hJ0).trans hI2
                  have hJ1 : ((b : Int)) % (bys.length : Int) = (ix : Int) := (congrArg (· % (bys.length : Int)) hJ0).trans hI1
                  clear hJ0
                  clear hI1 hI2
                  obtain ⟨bu', ou', e3, hbu, hv⟩ := u16_at K2.out.ba hix
                  injection e3 with e3
                  injection e3 with e4 e5
                  subst e4 e5
                  have hvb := HBV.out (bys.getD ix 0) (by rw [List.getD_eq_getElem?_getD, List.getElem?_eq_getElem hix]; exact List.getElem_mem hix)
                  generalize bys.getD ix 0 = v at *
                  have hixI : (ix : Int) < bys.length := by omega
                  have hb0I : ¬ (bys.length : Int) = 0 := by omega
                  have hb0N : ¬ bys.length = 0 := by omega
                  have hbne : ¬ bys = [] := by rintro rfl; simp at hb1
                  have HC := Lib.hid (show ∀ W : World, Below V41.heap.size V41 W → (W.cell? ⟨b2, 2, none⟩ = some (.int .i64 wl) ∧ W.cell? ⟨b2, 3, none⟩ = some (.int .i64 wh) ∧ W.cell? ⟨bu, ou + ix, none⟩ = some (.int .u16 v)) from fun W h => ⟨(SB.out.next h).c 2 _ rfl, (SB.out.next h).c 3 _ rfl, ((bcell h).1 _ _ hbu).trans hv⟩)
                  clear hv hbu
                  refine wp_region_noPanic ?_
                  refine wp_region_held_drew (S := (fun W => W.cell? ⟨b2, 2, none⟩ = some (.int .i64 wl) ∧ W.cell? ⟨b2, 3, none⟩ = some (.int .i64 wh) ∧ W.cell? ⟨bu, ou + ix, none⟩ = some (.int .u16 v))) (by kernel_rfl) ?_ (fun hHeld => ?_)
                  · (try dsimp only); exact HC.out _ (Below.refl _ _).drew
                  refine htake (i := 0) (v := ?v37) rfl (by kernel_rfl) (by kernel_rfl) (by kernel_rfl) (fun _ _ _ h => h) (Or.inl ⟨by rfl, ?hy37⟩) (by assumption) ?_
                  case hy37 => (intro w hSw; (try dsimp only at hSw); go_simp; try (with_reducible rfl))
                  try simp only [Act.put, List.setIfInBounds_toArray, List.set_cons_zero, List.set_cons_succ]
                  refine htake (i := 1) (v := ?v38) rfl (by kernel_rfl) (by kernel_rfl) (by kernel_rfl) (fun _ _ _ h => h) (Or.inl ⟨by rfl, ?hy38⟩) (by assumption) ?_
                  case hy38 => (intro w hSw; (try dsimp only at hSw); go_simp; try (with_reducible rfl))
                  try simp only [Act.put, List.setIfInBounds_toArray, List.set_cons_zero, List.set_cons_succ]
                  refine htake (i := 2) (v := ?v39) rfl (by kernel_rfl) (by kernel_rfl) (by kernel_rfl) (fun _ _ _ h => h) (Or.inl ⟨by rfl, ?hy39⟩) (by assumption) ?_
                  case hy39 => (intro w hSw; (try dsimp only at hSw); go_simp; try (with_reducible rfl))
                  try simp only [Act.put, List.setIfInBounds_toArray, List.set_cons_zero, List.set_cons_succ]
                  refine htake (i := 3) (v := ?v40) rfl (by kernel_rfl) (by kernel_rfl) (by kernel_rfl) (fun _ _ _ h => h) (Or.inl ⟨by rfl, ?hy40⟩) (by assumption) ?_
                  case hy40 => (intro w hSw; (try dsimp only at hSw); go_simp; try (with_reducible rfl))
                  try simp only [Act.put, List.setIfInBounds_toArray, List.set_cons_zero, List.set_cons_succ]
                  refine htake (i := 4) (v := ?v41) rfl (by kernel_rfl) (by kernel_rfl) (by kernel_rfl) (fun _ _ _ h => h) (Or.inl ⟨by rfl, ?hy41⟩) (by assumption) ?_
                  case hy41 => (intro w hSw; (try dsimp only at hSw); go_simp; try (with_reducible rfl))
                  try simp only [Act.put, List.setIfInBounds_toArray, List.set_cons_zero, List.set_cons_succ]
                  refine htake (i := 5) (v := ?v42) rfl (by kernel_rfl) (by kernel_rfl) (by kernel_rfl) (fun _ _ _ h => h) (Or.inl ⟨by rfl, ?hy42⟩) (by assumption) ?_
                  case hy42 => (intro w hSw; (try dsimp only at hSw); go_simp; try (with_reducible rfl))
                  try simp only [Act.put, List.setIfInBounds_toArray, List.set_cons_zero, List.set_cons_succ]
                  refine htake (i := 6) (v := ?v43) rfl (by kernel_rfl) (by kernel_rfl) (by kernel_rfl) (fun _ _ _ h => h) (Or.inl ⟨by rfl, ?hy43⟩) (by assumption) ?_
                  case hy43 => (intro w hSw; (try dsimp only at hSw); go_simp; try (with_reducible rfl))
                  try simp only [Act.put, List.setIfInBounds_toArray, List.set_cons_zero, List.set_cons_succ]
                  refine htake (i := 7) (v := ?v44) rfl (by kernel_rfl) (by kernel_rfl) (by kernel_rfl) (fun _ _ _ h => h) (Or.inl ⟨by rfl, ?hy44⟩) (by assumption) ?_
                  case hy44 => (intro w hSw; (try dsimp only at hSw); go_simp; try (with_reducible rfl))
                  try simp only [Act.put, List.setIfInBounds_toArray, List.set_cons_zero, List.set_cons_succ]
                  refine htake (i := 8) (v := ?v45) rfl (by kernel_rfl) (by kernel_rfl) (by kernel_rfl) (fun _ _ _ h => h) (Or.inl ⟨by rfl, ?hy45⟩) (by assumption) ?_
                  case hy45 => (intro w hSw; (try dsimp only at hSw); go_simp; try (with_reducible rfl))
                  try simp only [Act.put, List.setIfInBounds_toArray, List.set_cons_zero, List.set_cons_succ]
                  refine wpAnyH_ready (rs := [9]) (by kernel_rfl) (by simp) ?_
                  refine hcons rfl (fun K hK => ?_) (AllReadyH.nil)
                  go_simp
                  (refine (pick_some wl wh v _ hw1 hw2 hw3 hvb).mono ?_); rintro e w4 ⟨x, hx, rfl, hb4⟩; have hc : Below V41.heap.size V41 w4 := (Below.refl V41.heap.size V41).drew.trans hb4; clear hb4
                  refine hK.out _ _ ?_ (fun hHeld => ?_)
                  · (try dsimp only); exact HC.out _ hc
                  clear hK K
                  try simp only [Act.put, List.setIfInBounds_toArray, List.set_cons_zero, List.set_cons_succ]
                  refine htake (i := 10) (v := ?v46) rfl (by kernel_rfl) (by kernel_rfl) (by kernel_rfl) (fun _ _ _ h => h) (Or.inl ⟨by rfl, ?hy46⟩) (by assumption) ?_
                  case hy46 => (intro w hSw; (try dsimp only at hSw); go_simp; try (with_reducible rfl))
                  try simp only [Act.put, List.setIfInBounds_toArray, List.set_cons_zero, List.set_cons_succ]
                  refine wpAnyH_done (by kernel_rfl) ?_ _
                  refine NoPanic.normal ?_
                  iterate 12 (try clear hHeld)
                  clear HC hJ1 hJ2 hixI hb0I hb0N hbne hvb hix
                  have hb := hc
                  replace F2 := Lib.hid (F2.out.next hb)
                  replace SB := Lib.hid (SB.out.next hb)
                  replace K2 := Lib.hid (K2.out.next hb)
                  replace HB2 := Lib.hid (HB2.out.trans (hb.mono HB2.out.size))
                  clear hb
                  clear hc
                  generalize w4 = V42 at *
                  go_upto_region 25 with fail
                  obtain ⟨ix, hix, hI2, hI1⟩ := rem_idx hb1 (b + 1)
                  have hJ0 : (b : Int) + 1 = (((b + 1 : Nat)) : Int) := by omega
                  have hJ2 : Int.tmod ((b : Int) + 1) (bys.length : Int) = (ix : Int) := (congrArg (Int.tmod · _) hJ0).trans hI2
                  have hJ1 : ((b : Int) + 1) % (bys.length : Int) = (ix : Int) := (congrArg (· % (bys.length : Int)) hJ0).trans hI1
                  clear hJ0
                  clear hI1 hI2
                  have hw8 : IntKind.i64.wrap ((b : Int) + 1) = (b : Int) + 1 := IntWalk.i64_in _ (by omega)
                  obtain ⟨bu', ou', e3, hbu, hv⟩ := u16_at K2.out.ba hix
                  injection e3 with e3
                  injection e3 with e4 e5
                  subst e4 e5
                  have hvb := HBV.out (bys.getD ix 0) (by rw [List.getD_eq_getElem?_getD, List.getElem?_eq_getElem hix]; exact List.getElem_mem hix)
                  generalize bys.getD ix 0 = v at *
                  have hixI : (ix : Int) < bys.length := by omega
                  have hb0I : ¬ (bys.length : Int) = 0 := by omega
                  have hb0N : ¬ bys.length = 0 := by omega
                  have hbne : ¬ bys = [] := by rintro rfl; simp at hb1
                  have HC := Lib.hid (show ∀ W : World, Below V42.heap.size V42 W → (W.cell? ⟨b2, 0, none⟩ = some (.int .i64 fl) ∧ W.cell? ⟨b2, 1, none⟩ = some (.int .i64 fh) ∧ W.cell? ⟨bu, ou + ix, none⟩ = some (.int .u16 v)) from fun W h => ⟨(SB.out.next h).c 0 _ rfl, (SB.out.next h).c 1 _ rfl, ((bcell h).1 _ _ hbu).trans hv⟩)
                  clear hv hbu
                  refine wp_region_noPanic ?_
                  refine wp_region_held_drew (S := (fun W => W.cell? ⟨b2, 0, none⟩ = some (.int .i64 fl) ∧ W.cell? ⟨b2, 1, none⟩ = some (.int .i64 fh) ∧ W.cell? ⟨bu, ou + ix, none⟩ = some (.int .u16 v))) (by kernel_rfl) ?_ (fun hHeld => ?_)
                  · (try dsimp only); exact HC.out _ (Below.refl _ _).drew
                  refine htake (i := 0) (v := ?v47) rfl (by kernel_rfl) (by kernel_rfl) (by kernel_rfl) (fun _ _ _ h => h) (Or.inl ⟨by rfl, ?hy47⟩) (by assumption) ?_
                  case hy47 => (intro w hSw; (try dsimp only at hSw); go_simp; try (with_reducible rfl))
                  try simp only [Act.put, List.setIfInBounds_toArray, List.set_cons_zero, List.set_cons_succ]
                  refine htake (i := 1) (v := ?v48) rfl (by kernel_rfl) (by kernel_rfl) (by kernel_rfl) (fun _ _ _ h => h) (Or.inl ⟨by rfl, ?hy48⟩) (by assumption) ?_
                  case hy48 => (intro w hSw; (try dsimp only at hSw); go_simp; try (with_reducible rfl))
                  try simp only [Act.put, List.setIfInBounds_toArray, List.set_cons_zero, List.set_cons_succ]
                  refine htake (i := 2) (v := ?v49) rfl (by kernel_rfl) (by kernel_rfl) (by kernel_rfl) (fun _ _ _ h => h) (Or.inl ⟨by rfl, ?hy49⟩) (by assumption) ?_
                  case hy49 => (intro w hSw; (try dsimp only at hSw); go_simp; try (with_reducible rfl))
                  try simp only [Act.put, List.setIfInBounds_toArray, List.set_cons_zero, List.set_cons_succ]
                  refine htake (i := 3) (v := ?v50) rfl (by kernel_rfl) (by kernel_rfl) (by kernel_rfl) (fun _ _ _ h => h) (Or.inl ⟨by rfl, ?hy50⟩) (by assumption) ?_
                  case hy50 => (intro w hSw; (try dsimp only at hSw); go_simp; try (with_reducible rfl))
                  try simp only [Act.put, List.setIfInBounds_toArray, List.set_cons_zero, List.set_cons_succ]
                  refine htake (i := 4) (v := ?v51) rfl (by kernel_rfl) (by kernel_rfl) (by kernel_rfl) (fun _ _ _ h => h) (Or.inl ⟨by rfl, ?hy51⟩) (by assumption) ?_
                  case hy51 => (intro w hSw; (try dsimp only at hSw); go_simp; try (with_reducible rfl))
                  try simp only [Act.put, List.setIfInBounds_toArray, List.set_cons_zero, List.set_cons_succ]
                  refine htake (i := 5) (v := ?v52) rfl (by kernel_rfl) (by kernel_rfl) (by kernel_rfl) (fun _ _ _ h => h) (Or.inl ⟨by rfl, ?hy52⟩) (by assumption) ?_
                  case hy52 => (intro w hSw; (try dsimp only at hSw); go_simp; try (with_reducible rfl))
                  try simp only [Act.put, List.setIfInBounds_toArray, List.set_cons_zero, List.set_cons_succ]
                  refine htake (i := 6) (v := ?v53) rfl (by kernel_rfl) (by kernel_rfl) (by kernel_rfl) (fun _ _ _ h => h) (Or.inl ⟨by rfl, ?hy53⟩) (by assumption) ?_
                  case hy53 => (intro w hSw; (try dsimp only at hSw); go_simp; try (with_reducible rfl))
                  try simp only [Act.put, List.setIfInBounds_toArray, List.set_cons_zero, List.set_cons_succ]
                  refine htake (i := 7) (v := ?v54) rfl (by kernel_rfl) (by kernel_rfl) (by kernel_rfl) (fun _ _ _ h => h) (Or.inl ⟨by rfl, ?hy54⟩) (by assumption) ?_
                  case hy54 => (intro w hSw; (try dsimp only at hSw); go_simp; try (with_reducible rfl))
                  try simp only [Act.put, List.setIfInBounds_toArray, List.set_cons_zero, List.set_cons_succ]
                  refine htake (i := 8) (v := ?v55) rfl (by kernel_rfl) (by kernel_rfl) (by kernel_rfl) (fun _ _ _ h => h) (Or.inl ⟨by rfl, ?hy55⟩) (by assumption) ?_
                  case hy55 => (intro w hSw; (try dsimp only at hSw); go_simp; try (with_reducible rfl))
                  try simp only [Act.put, List.setIfInBounds_toArray, List.set_cons_zero, List.set_cons_succ]
                  refine htake (i := 9) (v := ?v56) rfl (by kernel_rfl) (by kernel_rfl) (by kernel_rfl) (fun _ _ _ h => h) (Or.inl ⟨by rfl, ?hy56⟩) (by assumption) ?_
                  case hy56 => (intro w hSw; (try dsimp only at hSw); go_simp; try (with_reducible rfl))
                  try simp only [Act.put, List.setIfInBounds_toArray, List.set_cons_zero, List.set_cons_succ]
                  refine wpAnyH_ready (rs := [10]) (by kernel_rfl) (by simp) ?_
                  refine hcons rfl (fun K hK => ?_) (AllReadyH.nil)
                  go_simp
                  (refine (pick_some fl fh v _ hf1 hf2 hf3 hvb).mono ?_); rintro e w4 ⟨f0, hf0, rfl, hb4⟩; have hc : Below V42.heap.size V42 w4 := (Below.refl V42.heap.size V42).drew.trans hb4; clear hb4
                  refine hK.out _ _ ?_ (fun hHeld => ?_)
                  · (try dsimp only); exact HC.out _ hc
                  clear hK K
                  try simp only [Act.put, List.setIfInBounds_toArray, List.set_cons_zero, List.set_cons_succ]
                  refine htake (i := 11) (v := ?v57) rfl (by kernel_rfl) (by kernel_rfl) (by kernel_rfl) (fun _ _ _ h => h) (Or.inl ⟨by rfl, ?hy57⟩) (by assumption) ?_
                  case hy57 => (intro w hSw; (try dsimp only at hSw); go_simp; try (with_reducible rfl))
                  try simp only [Act.put, List.setIfInBounds_toArray, List.set_cons_zero, List.set_cons_succ]
                  refine htake (i := 12) (v := ?v58) rfl (by kernel_rfl) (by kernel_rfl) (by kernel_rfl) (fun _ _ _ h => h) (Or.inl ⟨by rfl, ?hy58⟩) (by assumption) ?_
                  case hy58 => (intro w hSw; (try dsimp only at hSw); go_simp; try (with_reducible rfl))
                  try simp only [Act.put, List.setIfInBounds_toArray, List.set_cons_zero, List.set_cons_succ]
                  refine wpAnyH_done (by kernel_rfl) ?_ _
                  refine NoPanic.normal ?_
                  iterate 14 (try clear hHeld)
                  clear HC hJ1 hJ2 hixI hb0I hb0N hbne hvb hix hw8
                  have hb := hc
                  replace F2 := Lib.hid (F2.out.next hb)
                  replace SB := Lib.hid (SB.out.next hb)
                  replace K2 := Lib.hid (K2.out.next hb)
                  replace HB2 := Lib.hid (HB2.out.trans (hb.mono HB2.out.size))
                  clear hb
                  clear hc
                  generalize w4 = V43 at *
                  go_wp2_with fail
                  obtain ⟨sets, hsets⟩ : ∃ sets, sets = setsOf pl := ⟨_, rfl⟩
                  rw [← hsets] at HSE HSTEP
                  clear hsets
                  refine wp_loopM mask27 (fun g W => R27T d l sets b fl fh V43 (g 24) (g 25) (g 26) W) (fun g _ => l.length - (intOf (g 26)).toNat) (by kernel_rfl) ?_ ?_
                  · exact ⟨0, f0, by omega, slotF_at rfl, slotF_at rfl, slotF_at rfl, hf0, Below.refl _ _⟩
                  intro f3 wr hrel
                  obtain ⟨s, f1, hsl, e26, e24, e25, hf1b, hb3⟩ := hrel
                  simp only [mask27, mixF, e24, e25, e26]
                  have E26 := Lib.hid e26
                  clear e24 e25 e26
                  by_cases hls : s < l.length
                  rotate_left
                  · obtain rfl : s = l.length := by omega
                    replace HB2 := Lib.hid (HB2.out.trans (hb3.mono HB2.out.size))
                    go_wp2_with fail
                    refine endM (by kernel_rfl) (by kernel_rfl) ?_ ?_
                    · exact ⟨b + 1, by omega, (slotF_at rfl).trans (by go_num), HB2.out⟩
                    · (simp [slotF, intOf, E21.out]; omega)
                  · have HB3 := Lib.hid hb3
                    have K3 := Lib.hid (K2.out.next hb3)
                    have F3 := Lib.hid (F2.out.next hb3)
                    have SC := Lib.hid (SB.out.next hb3)
                    clear hb3 K2 F2 SB HB2
                    generalize wr = V60 at *
                    have hse := HSE.out (by omega)
                    obtain ⟨hsn, hs0, hsp, hsq⟩ := hse
                    obtain ⟨hstep, hr0, hr1, hr2, hlim⟩ := HSTEP.out s hls (by omega)
                    have hset32 : sets.getD s 0 < 32 := Nat.lt_of_lt_of_le (hsp s) (Nat.pow_le_pow_right (by omega) OK.out.nb.2 : 2 ^ d.blades.length ≤ 2 ^ 5)
                    have HSK := Lib.hid (show ∀ q, s = q + 1 → pl.getD q 0 = ((sets.getD s 0 : Nat) : Int) from fun q e => by subst e; exact hsq q hls)
                    have HS0 := Lib.hid (show s = 0 → sets.getD s 0 = 0 from fun e => by subst e; exact hs0)
                    have HREL := Lib.hid (fun (W : World) (g : Int) (sv fv rv : Value) (hsv : sv = .int .i64 ((s + 1 : Nat) : Int)) (hfv : fv = .int .i64 g) (hrv : rv = .int .i64 (ranAt d.blades.length l sets (fun _ => 0) (s + 1) b)) (hg : fl ≤ g ∧ g ≤ fh) (hb : Below V43.heap.size V43 W) => (show R27T d l sets b fl fh V43 fv rv sv W from ⟨s + 1, g, by omega, hsv, hfv, hrv, hg, hb⟩))
                    have HPI2 := Lib.hid HPI.out.2
                    clear hsn hs0 hsp hsq HSTEP HSE
                    generalize ranAt d.blades.length l sets (fun _ => 0) (s + 1) b = r1 at *
                    generalize ranAt d.blades.length l sets (fun _ => 0) s b = r at *
                    generalize sets.getD s 0 = q at *
                    have htk := OKL.out.st (l.getD s ⟨0, 0⟩) (by rw [List.getD_eq_getElem?_getD, List.getElem?_eq_getElem hls]; exact List.getElem_mem hls)
                    obtain ⟨bs, os, eS, hbs, t0, t1⟩ := stint_at K3.out.la hls
                    subst eS
                    generalize (l.getD s ⟨0, 0⟩) = st at *
                    obtain ⟨n, more⟩ := st
                    dsimp only at hstep hlim htk t0 t1
                    obtain ⟨S, hS⟩ : ∃ S : Int, S = (s : Int) := ⟨_, rfl⟩
                    rw [← hS]
                    have hS0 : 0 ≤ S ∧ S < l.length := by omega
                    have hSN : S.toNat = s := by omega
                    have HSS := Lib.hid hS
                    clear hS
                    have hstep2 : r1 = (if has q b = true then 0 else r) + n := hstep
                    have HST := Lib.hid hstep2
                    clear hstep hstep2
                    obtain ⟨bfl, hbfl⟩ : ∃ x, x = has q b := ⟨_, rfl⟩
                    rw [← hbfl] at HST
                    have HFL := Lib.hid hbfl
                    clear hbfl
                    go_upto_region 29 with fail
                    go_cut [198] (fun s198 wx => s198 = .bool bfl ∧ wx = V60)
                    case first =>
                      by_cases hs1 : S ≤ 0
                      · have hz0 := HS0.out (by have := HSS.out; omega)
                        have hbf0 : bfl = false := by rw [HFL.out, hz0]; simp [has]
                        go_wp2_with fail
                        go_meet
                        exact ⟨by rw [hbf0], rfl⟩
                      · obtain ⟨u, hu⟩ : ∃ u, s = u + 1 := ⟨s - 1, by have := HSS.out; omega⟩
                        obtain ⟨b3, o3, e4, hb3, gp⟩ := int_at F3.out (k := u) (by have := HPI2.out; omega)
                        rw [HSK.out u hu] at gp
                        have E4 := Lib.hid e4
                        have hI2 : (0 ≤ S - 1 ∧ S - 1 < (pl.length : Int)) = True := by have := HPI2.out; have := HSS.out; simp; omega
                        have hI3 : (S - 1).toNat = u := by have := HSS.out; omega
                        have hpos : 0 < S := by omega
                        have hI4 : 1 ≤ S := by omega
                        have hI5 : S - 1 < (pl.length : Int) := by have := HPI2.out; have := HSS.out; omega
                        clear hu hs1
                        subst e4
                        go_wp2_with (go_at_call 33; (with_reducible refine (has_any q b (by omega) (by omega) _).mono ?_); rintro e w' ⟨rfl, rfl⟩)
                        go_meet
                        exact ⟨by rw [HFL.out], rfl⟩
                    case rest =>
                      obtain ⟨rfl, rfl⟩ := hcut
                      go_upto_if 198 with fail
                      go_cut [24, 25] (fun s24 s25 wx => ∃ g2 r2 : Int, s24 = .int .i64 g2 ∧ s25 = .int .i64 r2 ∧ (fl ≤ g2 ∧ g2 ≤ fh) ∧ (0 ≤ r2 ∧ r2 ≤ r1 ∧ r1 = r2 + n) ∧ Below wc.heap.size wc wx)
                      case first =>
                        cases bfl
                        · go_wp2_with fail
                          go_meet
                          exact ⟨f1, r, rfl, rfl, hf1b, ⟨hr0, by have := HST.out; simp at this; omega, by have := HST.out; simp at this; omega⟩, Below.refl _ _⟩
                        · skip
                          go_wp2_with fail
                          obtain ⟨ix, hix, hI2, hI1⟩ := rem_idx hb1 (b + s + 2)
                          have hJ0 : (b : Int) + S + 2 = (((b + s + 2 : Nat)) : Int) := by have := HSS.out; omega
                          have hJ2 : Int.tmod ((b : Int) + S + 2) (bys.length : Int) = (ix : Int) := (congrArg (Int.tmod · _) hJ0).trans hI2
                          have hJ1 : ((b : Int) + S + 2) % (bys.length : Int) = (ix : Int) := (congrArg (· % (bys.length : Int)) hJ0).trans hI1
                          clear hJ0
                          clear hI1 hI2
                          have hw8 : IntKind.i64.wrap ((b : Int) + S + 2) = (b : Int) + S + 2 := IntWalk.i64_in _ (by omega)
                          have hw9 : IntKind.i64.wrap ((b : Int) + S) = (b : Int) + S := IntWalk.i64_in _ (by omega)
                          obtain ⟨bu', ou', e3, hbu, hv⟩ := u16_at K3.out.ba hix
                          injection e3 with e3
                          injection e3 with e4 e5
                          subst e4 e5
                          have hvb := HBV.out (bys.getD ix 0) (by rw [List.getD_eq_getElem?_getD, List.getElem?_eq_getElem hix]; exact List.getElem_mem hix)
                          generalize bys.getD ix 0 = v at *
                          have hixI : (ix : Int) < bys.length := by omega
                          have hb0I : ¬ (bys.length : Int) = 0 := by omega
                          have hb0N : ¬ bys.length = 0 := by omega
                          have hbne : ¬ bys = [] := by rintro rfl; simp at hb1
                          have HC := Lib.hid (show ∀ W : World, Below wc.heap.size wc W → (W.cell? ⟨b2, 0, none⟩ = some (.int .i64 fl) ∧ W.cell? ⟨b2, 1, none⟩ = some (.int .i64 fh) ∧ W.cell? ⟨bu, ou + ix, none⟩ = some (.int .u16 v)) from fun W h => ⟨(SC.out.next h).c 0 _ rfl, (SC.out.next h).c 1 _ rfl, ((bcell h).1 _ _ hbu).trans hv⟩)
                          clear hv hbu
                          refine wp_region_noPanic ?_
                          refine wp_region_held_drew (S := (fun W => W.cell? ⟨b2, 0, none⟩ = some (.int .i64 fl) ∧ W.cell? ⟨b2, 1, none⟩ = some (.int .i64 fh) ∧ W.cell? ⟨bu, ou + ix, none⟩ = some (.int .u16 v))) (by kernel_rfl) ?_ (fun hHeld => ?_)
                          · (try dsimp only); exact HC.out _ (Below.refl _ _).drew
                          refine htake (i := 0) (v := ?v59) rfl (by kernel_rfl) (by kernel_rfl) (by kernel_rfl) (fun _ _ _ h => h) (Or.inl ⟨by rfl, ?hy59⟩) (by assumption) ?_
                          case hy59 => (intro w hSw; (try dsimp only at hSw); go_simp; try (with_reducible rfl))
                          try simp only [Act.put, List.setIfInBounds_toArray, List.set_cons_zero, List.set_cons_succ]
                          refine htake (i := 1) (v := ?v60) rfl (by kernel_rfl) (by kernel_rfl) (by kernel_rfl) (fun _ _ _ h => h) (Or.inl ⟨by rfl, ?hy60⟩) (by assumption) ?_
                          case hy60 => (intro w hSw; (try dsimp only at hSw); go_simp; try (with_reducible rfl))
                          try simp only [Act.put, List.setIfInBounds_toArray, List.set_cons_zero, List.set_cons_succ]
                          refine htake (i := 2) (v := ?v61) rfl (by kernel_rfl) (by kernel_rfl) (by kernel_rfl) (fun _ _ _ h => h) (Or.inl ⟨by rfl, ?hy61⟩) (by assumption) ?_
                          case hy61 => (intro w hSw; (try dsimp only at hSw); go_simp; try (with_reducible rfl))
                          try simp only [Act.put, List.setIfInBounds_toArray, List.set_cons_zero, List.set_cons_succ]
                          refine htake (i := 3) (v := ?v62) rfl (by kernel_rfl) (by kernel_rfl) (by kernel_rfl) (fun _ _ _ h => h) (Or.inl ⟨by rfl, ?hy62⟩) (by assumption) ?_
                          case hy62 => (intro w hSw; (try dsimp only at hSw); go_simp; try (with_reducible rfl))
                          try simp only [Act.put, List.setIfInBounds_toArray, List.set_cons_zero, List.set_cons_succ]
                          refine htake (i := 4) (v := ?v63) rfl (by kernel_rfl) (by kernel_rfl) (by kernel_rfl) (fun _ _ _ h => h) (Or.inl ⟨by rfl, ?hy63⟩) (by assumption) ?_
                          case hy63 => (intro w hSw; (try dsimp only at hSw); go_simp; try (with_reducible rfl))
                          try simp only [Act.put, List.setIfInBounds_toArray, List.set_cons_zero, List.set_cons_succ]
                          refine htake (i := 5) (v := ?v64) rfl (by kernel_rfl) (by kernel_rfl) (by kernel_rfl) (fun _ _ _ h => h) (Or.inl ⟨by rfl, ?hy64⟩) (by assumption) ?_
                          case hy64 => (intro w hSw; (try dsimp only at hSw); go_simp; try (with_reducible rfl))
                          try simp only [Act.put, List.setIfInBounds_toArray, List.set_cons_zero, List.set_cons_succ]
                          refine htake (i := 6) (v := ?v65) rfl (by kernel_rfl) (by kernel_rfl) (by kernel_rfl) (fun _ _ _ h => h) (Or.inl ⟨by rfl, ?hy65⟩) (by assumption) ?_
                          case hy65 => (intro w hSw; (try dsimp only at hSw); go_simp; try (with_reducible rfl))
                          try simp only [Act.put, List.setIfInBounds_toArray, List.set_cons_zero, List.set_cons_succ]
                          refine htake (i := 7) (v := ?v66) rfl (by kernel_rfl) (by kernel_rfl) (by kernel_rfl) (fun _ _ _ h => h) (Or.inl ⟨by rfl, ?hy66⟩) (by assumption) ?_
                          case hy66 => (intro w hSw; (try dsimp only at hSw); go_simp; try (with_reducible rfl))
                          try simp only [Act.put, List.setIfInBounds_toArray, List.set_cons_zero, List.set_cons_succ]
                          refine htake (i := 8) (v := ?v67) rfl (by kernel_rfl) (by kernel_rfl) (by kernel_rfl) (fun _ _ _ h => h) (Or.inl ⟨by rfl, ?hy67⟩) (by assumption) ?_
                          case hy67 => (intro w hSw; (try dsimp only at hSw); go_simp; try (with_reducible rfl))
                          try simp only [Act.put, List.setIfInBounds_toArray, List.set_cons_zero, List.set_cons_succ]
                          refine htake (i := 9) (v := ?v68) rfl (by kernel_rfl) (by kernel_rfl) (by kernel_rfl) (fun _ _ _ h => h) (Or.inl ⟨by rfl, ?hy68⟩) (by assumption) ?_
                          case hy68 => (intro w hSw; (try dsimp only at hSw); go_simp; try (with_reducible rfl))
                          try simp only [Act.put, List.setIfInBounds_toArray, List.set_cons_zero, List.set_cons_succ]
                          refine htake (i := 10) (v := ?v69) rfl (by kernel_rfl) (by kernel_rfl) (by kernel_rfl) (fun _ _ _ h => h) (Or.inl ⟨by rfl, ?hy69⟩) (by assumption) ?_
                          case hy69 => (intro w hSw; (try dsimp only at hSw); go_simp; try (with_reducible rfl))
                          try simp only [Act.put, List.setIfInBounds_toArray, List.set_cons_zero, List.set_cons_succ]
                          refine htake (i := 11) (v := ?v70) rfl (by kernel_rfl) (by kernel_rfl) (by kernel_rfl) (fun _ _ _ h => h) (Or.inl ⟨by rfl, ?hy70⟩) (by assumption) ?_
                          case hy70 => (intro w hSw; (try dsimp only at hSw); go_simp; try (with_reducible rfl))
                          try simp only [Act.put, List.setIfInBounds_toArray, List.set_cons_zero, List.set_cons_succ]
                          refine wpAnyH_ready (rs := [12]) (by kernel_rfl) (by simp) ?_
                          refine hcons rfl (fun K hK => ?_) (AllReadyH.nil)
                          go_simp
                          (refine (pick_some fl fh v _ hf1 hf2 hf3 hvb).mono ?_); rintro e w4 ⟨f9, hf9, rfl, hb4⟩; have hc : Below wc.heap.size wc w4 := (Below.refl wc.heap.size wc).drew.trans hb4; clear hb4
                          refine hK.out _ _ ?_ (fun hHeld => ?_)
                          · (try dsimp only); exact HC.out _ hc
                          clear hK K
                          try simp only [Act.put, List.setIfInBounds_toArray, List.set_cons_zero, List.set_cons_succ]
                          refine htake (i := 13) (v := ?v71) rfl (by kernel_rfl) (by kernel_rfl) (by kernel_rfl) (fun _ _ _ h => h) (Or.inl ⟨by rfl, ?hy71⟩) (by assumption) ?_
                          case hy71 => (intro w hSw; (try dsimp only at hSw); go_simp; try (with_reducible rfl))
                          try simp only [Act.put, List.setIfInBounds_toArray, List.set_cons_zero, List.set_cons_succ]
                          refine htake (i := 14) (v := ?v72) rfl (by kernel_rfl) (by kernel_rfl) (by kernel_rfl) (fun _ _ _ h => h) (Or.inl ⟨by rfl, ?hy72⟩) (by assumption) ?_
                          case hy72 => (intro w hSw; (try dsimp only at hSw); go_simp; try (with_reducible rfl))
                          try simp only [Act.put, List.setIfInBounds_toArray, List.set_cons_zero, List.set_cons_succ]
                          refine wpAnyH_done (by kernel_rfl) ?_ _
                          refine NoPanic.normal ?_
                          iterate 16 (try clear hHeld)
                          clear HC hJ1 hJ2 hixI hb0I hb0N hbne hvb hix hw8 hw9
                          have HB4 := Lib.hid hc
                          clear hc
                          generalize w4 = V61 at *
                          go_wp2_with fail
                          go_meet
                          exact ⟨f9, 0, rfl, rfl, hf9, ⟨by omega, by have := HST.out; simp at this; omega, by have := HST.out; simp at this; omega⟩, HB4.out⟩
                      case rest =>
                        obtain ⟨g2, r2, rfl, rfl, hg2, ⟨hr20, hr21, hr22⟩, hb⟩ := hcut
                        replace K3 := Lib.hid (K3.out.next hb)
                        replace HB3 := Lib.hid (HB3.out.trans (hb.mono HB3.out.size))
                        have TS := Lib.hid (show StC bs (os + s * 2) n more wc from ⟨Nat.lt_of_lt_of_le hbs hb.size, ((bcell hb).1 _ _ hbs).trans t0, ((bcell hb).1 _ _ hbs).trans t1⟩)
                        have HR22 := Lib.hid hr22
                        clear hb SC F3 HST HFL hf1b hr22 HS0 HSK hset32 hf0 t0 t1 hbs
                        generalize wc = V70 at *
                        have t0 := TS.out.c0
                        obtain ⟨ix, hix, hI2, hI1⟩ := rem_idx hb1 (3 * b + s)
                        have hJ0 : 3 * (b : Int) + S = (((3 * b + s : Nat)) : Int) := by have := HSS.out; omega
                        have hJ2 : Int.tmod (3 * (b : Int) + S) (bys.length : Int) = (ix : Int) := (congrArg (Int.tmod · _) hJ0).trans hI2
                        have hJ1 : (3 * (b : Int) + S) % (bys.length : Int) = (ix : Int) := (congrArg (· % (bys.length : Int)) hJ0).trans hI1
                        clear hJ0 hI1 hI2
                        obtain ⟨bu', ou', e3, hbu, hv⟩ := u16_at K3.out.ba hix
                        injection e3 with e3
                        injection e3 with e4 e5
                        subst e4 e5
                        have hvb := HBV.out (bys.getD ix 0) (by rw [List.getD_eq_getElem?_getD, List.getElem?_eq_getElem hix]; exact List.getElem_mem hix)
                        generalize bys.getD ix 0 = v at *
                        have hixI : (ix : Int) < bys.length := by omega
                        have hb0I : ¬ (bys.length : Int) = 0 := by omega
                        have hb0N : ¬ bys.length = 0 := by omega
                        have hbne : ¬ bys = [] := by rintro rfl; simp at hb1
                        obtain ⟨m, hm⟩ : ∃ m, v % (n + 1) = m := ⟨_, rfl⟩
                        have hm2 : Int.tmod v (n + 1) = m := by rw [Int.tmod_eq_emod_of_nonneg hvb.1]; exact hm
                        have hmb : 0 ≤ m ∧ m ≤ n := by rw [← hm]; have h1 := Int.emod_nonneg v (b := n + 1) (by omega); have h2 := Int.emod_lt_of_pos v (b := n + 1) (by omega); omega
                        have hn1 : ¬ n + 1 = 0 := by omega
                        have hwv : IntKind.i64.wrap v = v := IntWalk.i64_in _ (by omega)
                        obtain ⟨now, hnow⟩ : ∃ x, r2 + m = x := ⟨_, rfl⟩
                        have hnb2 : 0 ≤ now ∧ now ≤ r1 := by have := HR22.out; omega
                        go_wp2_with fail
                        go_quiet (fail)
                        clear hv hJ1 hJ2 hixI hb0I hb0N hbne hm hm2 hn1 hwv hix hnow hbu t0
                        have hb := below_drewN (Below.refl V70.heap.size V70) nq
                        replace TS := Lib.hid (TS.out.next hb)
                        replace K3 := Lib.hid (K3.out.next hb)
                        replace HB3 := Lib.hid (HB3.out.trans (hb.mono HB3.out.size))
                        clear hb
                        generalize V70.drewN nq = V71 at *
                        have hto := true_off hg2.1 hg2.2 hw1 hx.1 hx.2 hnb2.1 hnb2.2 hr2 (by omega) hlim
                        obtain ⟨hpr0, hpr1, ho1, ho2, ho3⟩ := hto
                        have p0 := K3.out.bx.c 0 _ rfl
                        have p1 := K3.out.bx.c 1 _ rfl
                        have p2 := K3.out.bx.c 2 _ rfl
                        have p3 := K3.out.bx.c 3 _ rfl
                        go_wp2_with fail
                        have hcon := (Off_any d b now V71 K3.out.da)
                        rw [HOFF.out now (by omega) (by omega)] at hcon
                        dsimp only [retSpan] at hcon
                        obtain ⟨olo, hol⟩ : ∃ z, fl + wl * now = z := ⟨_, rfl⟩
                        obtain ⟨ohi, hoh⟩ : ∃ z, fh + wh * now = z := ⟨_, rfl⟩
                        rw [hol] at ho1
                        rw [hoh] at ho2
                        rw [hol, hoh] at hcon
                        clear hol hoh
                        refine (hcon).mono ?_
                        rintro e V72 ⟨rfl, hb⟩
                        replace TS := Lib.hid (TS.out.next hb)
                        replace K3 := Lib.hid (K3.out.next hb)
                        replace HB3 := Lib.hid (HB3.out.trans (hb.mono HB3.out.size))
                        clear hb p0 p1 p2 p3 hcon
                        go_upto_region 33 with fail
                        have hA := nxA V72 (.cells #[.int .i64 olo, .int .i64 ohi] 28)
                        replace TS := Lib.hid (TS.out.next hA)
                        replace K3 := Lib.hid (K3.out.next hA)
                        replace HB3 := Lib.hid (HB3.out.trans (hA.mono HB3.out.size))
                        have SD := Lib.hid (Bx.new V72 #[.int .i64 olo, .int .i64 ohi] 28)
                        clear hA
                        generalize (V72.alloc (.cells #[.int .i64 olo, .int .i64 ohi] 28)) = V73 at *
                        generalize V72.heap.size = b3 at *
                        obtain ⟨off, hoff⟩ : ∃ z, g2 + x * now = z := ⟨_, rfl⟩
                        have hoff0 : 0 ≤ off ∧ off ≤ 70010000 := by omega
                        have hwp : IntKind.i64.wrap (x * now) = x * now := IntWalk.i64_in _ (by omega)
                        have hwq : wrap64 (x * now) = x * now := IntWalk.wrap64_in _ ⟨by omega, by omega⟩
                        rw [hoff] at ho1 ho2 ho3
                        have d1 : decide (off < olo) = false := decide_eq_false (by omega)
                        have d2 : decide (ohi < off) = false := decide_eq_false (by omega)
                        have d3 : decide (d.bound + more < off) = false := decide_eq_false (by omega)
                        have q0 := SD.out.c 0 _ rfl
                        have q1 := SD.out.c 1 _ rfl
                        have t0 := TS.out.c0
                        have t1 := TS.out.c1
                        have p1 := K3.out.bx.c 1 _ rfl
                        have hbd := OK.out.bound
                        go_upto_region 34 with fail
                        first | rw [hwp] | skip
                        first | rw [hwq] | skip
                        try rw [hoff]
                        clear hwp hwq
                        go_quiet (fail)
                        go_wp2_with fail
                        refine endM (by kernel_rfl) (by kernel_rfl) ?_ ?_
                        · refine HREL.out _ g2 _ _ _ ?_ ?_ ?_ hg2 (HB3.out.trans ((below_drewN (Below.refl _ _) nq).mono HB3.out.size))
                          · exact (slotF_at rfl).trans (by rw [HSS.out]; go_num)
                          · exact slotF_at rfl
                          · exact (slotF_at rfl).trans (by rw [HR22.out])
                        · (simp [slotF, intOf, E26.out]; try omega)
              · clear hpl0
                obtain ⟨fa, fb, fc, fe, hfo⟩ : ∃ a b c e, followS d l pl = (a, b, c, e) := ⟨_, _, _, _, rfl⟩
                go_wp2_with fail
                have hcon := (Follow_any d A c l AP cP pl V20 K.out.da K.out.la HL.out P1.out HPLL.out K.out.en)
                rw [hfo] at hcon
                refine (hcon).mono ?_
                rintro e V21 ⟨rfl, hb⟩
                replace O1 := Lib.hid (O1.out.next hb)
                replace P1 := Lib.hid (P1.out.next hb)
                replace K := Lib.hid (K.out.next hb)
                replace BT := Lib.hid (BT.out.trans (hb.mono BT.out.size))
                clear hb p0 p1 p2 p3 hcon
                dsimp only [foV]
                by_cases hfe : fe = 0
                · subst hfe
                  clear hfo
                  go_wp2_with fail
                  refine endM (by kernel_rfl) (by kernel_rfl) ?_ ?_
                  · exact ⟨2, by omega, (slotF_at rfl).trans (by go_num), BT.out⟩
                  · (simp [slotF, intOf, E12.out])
                · skip
                  have hbf : (fe = 11 ∧ ∃ (ib kb : Nat), fa = 0 ∧ fb = (ib : Int) ∧ fc = (kb : Int) ∧ ib < l.length ∧ planOk d.blades.length l pl = true ∧ badP d.blades d.bound l (fun _ => 0) (setsOf pl) 0 = some (ib, kb)) ∨ fe = 2 := by
                    have hfs := hfo.symm
                    unfold followS at hfs
                    rw [if_neg (fun h => h HCH.out)] at hfs
                    by_cases hpo : planOk d.blades.length l pl = false
                    · rw [if_pos hpo] at hfs
                      injection hfs with _ h
                      injection h with _ h
                      injection h with _ h
                      exact .inr h
                    · rw [if_neg hpo] at hfs
                      cases hq : badP d.blades d.bound l (fun _ => 0) (setsOf pl) 0 with
                      | none =>
                        rw [hq] at hfs
                        injection hfs with _ h
                        injection h with _ h
                        injection h with _ h
                        exact absurd h hfe
                      | some x =>
                        obtain ⟨ib, kb⟩ := x
                        rw [hq] at hfs
                        injection hfs with h1 h
                        injection h with h2 h
                        injection h with h3 h
                        have hbs := bad_some hq
                        exact .inl ⟨h, ib, kb, h1, h2, h3, by omega, by simpa using hpo, rfl⟩
                  rcases hbf with ⟨rfl, ib, kb, rfl, rfl, rfl, hib, hpo, hbd⟩ | rfl
                  · have HPO := Lib.hid hpo
                    have HBD := Lib.hid hbd
                    have z1 : (0 : Int) ≤ ib := by omega
                    have z2 : (ib : Int) < l.length := by omega
                    clear hpo hbd hfo hfe
                    have p0 := K.out.bx.c 0 _ rfl
                    have p1 := K.out.bx.c 1 _ rfl
                    have p2 := K.out.bx.c 2 _ rfl
                    have p3 := K.out.bx.c 3 _ rfl
                    go_wp2_with fail
                    have hcon := (Bad_any d A c l AP cP pl V21 OK.out OKL.out HPO.out K.out.da K.out.la P1.out)
                    rw [HBD.out] at hcon
                    dsimp only [badV] at hcon
                    refine (hcon).mono ?_
                    rintro e V22 ⟨rfl, hb⟩
                    replace O1 := Lib.hid (O1.out.next hb)
                    replace P1 := Lib.hid (P1.out.next hb)
                    replace K := Lib.hid (K.out.next hb)
                    replace BT := Lib.hid (BT.out.trans (hb.mono BT.out.size))
                    clear hb p0 p1 p2 p3 hcon
                    dsimp only
                    go_wp2_with fail
                    refine endM (by kernel_rfl) (by kernel_rfl) ?_ ?_
                    · exact ⟨2, by omega, (slotF_at rfl).trans (by go_num), BT.out⟩
                    · (simp [slotF, intOf, E12.out])
                  · clear hfo hfe
                    go_wp2_with fail
                    refine endM (by kernel_rfl) (by kernel_rfl) ?_ ?_
                    · exact ⟨2, by omega, (slotF_at rfl).trans (by go_num), BT.out⟩
                    · (simp [slotF, intOf, E12.out])
            · go_wp2_with fail
              refine (awake_any V20 K.out.en).mono ?_
              rintro e V99 ⟨rfl, hb⟩
              go_wp2_with fail
              go_ret
              exact ⟨rfl, HB.out.trans ((BT.out.trans (hb.mono BT.out.size)).mono HB.out.size)⟩
end Go.Proofs.YtbhkglokdomajaaDoor
