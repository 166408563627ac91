import Derived.Test.YtfffhbolaimmdaaDoorP11
namespace Go.Proofs.YtfffhbolaimmdaaDoor
open Go.RowKit
theorem at2 {w : World} {g : Nat} {a b : Int} {f : Nat → Int} {t : TypeId} (hg : g = w.heap.size) (h0 : f 0 = a) (h1 : f 1 = b) :
    At (w.alloc (.cells #[.int .i64 a, .int .i64 b] t)) (g + 1) 1 icell (some ⟨g, 0, none⟩) (tab 2 f) := fun k x hx => by
  subst hg
  obtain ⟨hk, rfl⟩ := tab_get 2 f k x hx
  refine ⟨_, 0, rfl, by omega, fun j u hu => ?_⟩
  match j, hu with
  | 0, hu =>
    cases hu
    match k, hk with
    | 0, _ => rw [h0]; simp [go_sem]
    | 1, _ => rw [h1]; simp [go_sem]
def two (a b : Int) : Nat → Int
  | 0 => a
  | _ => b
theorem two_bd {a b : Int} (ha : -1000000000000 ≤ a ∧ a ≤ 1000000000000) (hb : -1000000000000 ≤ b ∧ b ≤ 1000000000000) (k : Nat) (hk : k < 2) : -1000000000000 ≤ two a b k ∧ two a b k ≤ 1000000000000 := by
  match k, hk with
  | 0, _ => exact ha
  | 1, _ => exact hb
theorem sum_two (a b : Int) : sumTo 2 (two a b) = a + b := by simp only [sumTo, two]; omega
def payF (s : Store) (sel : Sheet → Int) (f : Nat → Int) (k : Nat) : Int := lackF s sel f k * (sheetAt s k).cost
theorem lackF_bd {s : Store} {sel : Sheet → Int} {f : Nat → Int} (k : Nat) (bs : 0 ≤ sel (sheetAt s k)) (bf : 0 ≤ f k ∧ f k ≤ 1000000) : 0 ≤ lackF s sel f k ∧ lackF s sel f k ≤ 1000000 := by unfold lackF; omega
theorem payF_bd {s : Store} {sel : Sheet → Int} {f : Nat → Int} (ok : Ok s) {k : Nat} (hk : k < s.sheets.length) (bs : 0 ≤ sel (sheetAt s k)) (bf : 0 ≤ f k ∧ f k ≤ 1000000) : 0 ≤ payF s sel f k ∧ payF s sel f k ≤ 10000000000 := by
  have h1 := lackF_bd (s := s) (sel := sel) (f := f) k bs bf
  have h2 := ok.sheet _ (sheetAt_mem hk)
  have := mul_bd (a := lackF s sel f k) (b := (sheetAt s k).cost) (A := 1000000) (B := 10000) h1.1 h1.2 (by omega) (by omega)
  unfold payF; omega
def R48 (s : Store) (sel : Sheet → Int) (f : Nat → Int) (w1 : World) (i o : Value) (w : World) : Prop := ∃ k : Nat, k ≤ s.sheets.length ∧ i = .int .i64 k ∧ o = .int .i64 (sumTo k (payF s sel f)) ∧ Below w1.heap.size w1 w
set_option maxRecDepth 100000 in
set_option maxHeartbeats 400000 in
theorem pays_any (s : Store) (F : Nat) (sel : Sheet → Int) (b off c : Nat) (f : Nat → Int) (w : World) (ok : Ok s) (hr : StoreAt w w.heap.size s)
    (hE : ∀ args W, (callFunc F args).run Tryd.prog W = .ok (.enter F args) W) (hF : ∀ (x : Sheet) (W : World), Calls Tryd.prog F #[.agg #[.int .i64 x.lo, .int .i64 x.hi]] W (Ret (.int .i64 (sel x)) W)) (hsel : ∀ k, k < s.sheets.length → 0 ≤ sel (sheetAt s k) ∧ sel (sheetAt s k) ≤ 100000)
    (hf : At w w.heap.size 1 icell (some ⟨b, off, none⟩) (tab s.sheets.length f)) (bf : ∀ k, k < s.sheets.length → 0 ≤ f k ∧ f k ≤ 1000000) :
    Calls Tryd.prog 48 #[.agg #[.slice s.A1 s.sheets.length s.c1, .slice s.A2 s.lics.length s.c2, .slice s.A3 s.makes.length s.c3, .slice s.A4 s.wishes.length s.c4], .slice (some ⟨b, off, none⟩) s.sheets.length c, .agg #[.func (.func F) #[] #[]]] w (Ret (.int .i64 (sumTo s.sheets.length (payF s sel f))) w) := by
  have hn := ok.ns
  have l1 := hr.l1
  have hb0 := ((Below.refl w.heap.size w).alloc (Nat.le_refl _) (.cells #[.slice s.A1 s.sheets.length s.c1, .slice s.A2 s.lics.length s.c2, .slice s.A3 s.makes.length s.c3, .slice s.A4 s.wishes.length s.c4] 72)).alloc (by simp) (.cells #[.func (.func F) #[] #[]] 83)
  have hx0 := (SBox.new w s 72).next ((Below.refl _ _).alloc (Nat.le_refl _) (.cells #[.func (.func F) #[] #[]] 83))
  have Hlack := Lib.hid (lacking_any s F sel b off c f _ ok (hr.next hb0) hE hF hsel ((hf.below hb0).more hb0.size) bf)
  have Hr := Lib.hid (hr.next hb0)
  have Hs := Lib.hid (fun k hk => payF_bd (f := f) ok (k := k) hk (hsel k hk).1 (bf k hk))
  have Hl := Lib.hid (fun k hk => lackF_bd (s := s) (sel := sel) (f := f) k (hsel k hk).1 (bf k hk))
  have Hok := Lib.hid ok
  have Hb0 := Lib.hid hb0
  clear hr hF hsel hf bf ok hE hb0
  go_enter Tryd.func48, Tryd.ntmps48
  go_wp2_with fail
  refine Hlack.out.mono ?_
  rintro e w1 ⟨g, cc, rfl, hcc, hg, hblk, hb1⟩
  have hx1 := hx0.next hb1
  have Hr1 := Lib.hid (Hr.out.next hb1)
  have Hb1 := Lib.hid (Hb0.out.trans (hb1.mono Hb0.out.size))
  clear hx0 hb1 Hlack Hr Hb0
  go_wp2
  go_loopw [14, 6] (fun i o wr => R48 s sel f w1 i o wr) (fun i _ _ => s.sheets.length - (intOf i).toNat)
  case atStart => exact ⟨0, by omega, rfl, rfl, Below.refl _ _⟩
  case round =>
    obtain ⟨k, hk, rfl, rfl, hb⟩ := hrel
    by_cases hlt : k < s.sheets.length
    · have hbox := hx1.next hb
      have hck := (hblk.next hb).cell k hlt
      obtain ⟨bs, os, q0, hbs, q1, q2, q3⟩ := hbox.sheetC (Hr1.out.next hb) hlt
      have b1 := Hs.out k hlt
      have b3 := Hl.out k hlt
      have b2 := sumTo_bd (n := k) (f := payF s sel f) (lo := 0) (hi := 10000000000) (fun i hi => Hs.out i (by omega))
      have b4 := (Hok.out).sheet _ (sheetAt_mem hlt)
      have hz := (hblk.next hb).lt
      have E1 := Lib.hid (sumTo_split k (payF s sel f))
      have Hbk := Lib.hid hb
      have b5 : 0 ≤ lackF s sel f k * (sheetAt s k).cost ∧ lackF s sel f k * (sheetAt s k).cost ≤ 10000000000 := b1
      have Hsum := Lib.hid (fun (W : World) (g : Nat) (hg : g = W.heap.size) => sum_any (some ⟨g, 0, none⟩) 2 2 _ (two (sumTo k (payF s sel f)) (lackF s sel f k * (sheetAt s k).cost)) (W.alloc (.cells #[.int .i64 (sumTo k (payF s sel f)), .int .i64 (lackF s sel f k * (sheetAt s k).cost)] 3)) (by omega) (at2 hg rfl rfl) (two_bd (by omega) (by omega)))
      clear hb hbox q1 q2 b4
      go_wp2_with fail
      refine (Hsum.out wr _ rfl).mono ?_
      rintro e w2 ⟨rfl, rfl⟩
      have hbe := Lib.hid (Hbk.out.alloc Hbk.out.size (.cells #[.int .i64 (sumTo k (payF s sel f)), .int .i64 (lackF s sel f k * (sheetAt s k).cost)] 3))
      have E2 := Lib.hid (sum_two (sumTo k (payF s sel f)) (lackF s sel f k * (sheetAt s k).cost))
      have E3 : sumTo 2 (two (sumTo k (payF s sel f)) (lackF s sel f k * (sheetAt s k).cost)) = sumTo (k + 1) (payF s sel f) := by rw [E2.out, E1.out]; rfl
      rw [E3]
      clear E3
      go_wp2
      all_goals (first | (refine ⟨?_, ?_⟩; (unfold R48; exact ⟨k + 1, by omega, by go_num, rfl, hbe.out⟩); (simp [intOf]; omega)) | (go_roundw; (case rel => (unfold R48; exact ⟨k + 1, by omega, by go_num, rfl, hbe.out⟩)); (case measure => (simp [intOf]; omega))) | (go_round; (case rel => (unfold R48; exact ⟨k + 1, by omega, by go_num, rfl, hbe.out⟩)); (case measure => (simp [intOf]; omega))))
    · go_wp2
      go_ret
      exact ret_int (by rw [show k = s.sheets.length by omega]) (Hb1.out.trans (hb.mono Hb1.out.size))
end Go.Proofs.YtfffhbolaimmdaaDoor
