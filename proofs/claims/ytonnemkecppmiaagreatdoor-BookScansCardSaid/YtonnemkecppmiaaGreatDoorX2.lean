import Derived.Test.YtonnemkecppmiaaGreatDoorX1
namespace Go.Proofs.YtonnemkecppmiaaGreatDoor
open Go.RowKit
attribute [local go_sem] Oper.semAt_some
/-! lines: the words of each line. -/
/-- A list of words that a line is split into, in memory. -/
structure Wl where
  ws : List Tx
  A : Option Addr
  c : Nat
def encW (x : Wl) : Array Value := #[.slice x.A x.ws.length x.c]
def tcell (t : Tx) : List Value := [tx t]
def WlAt (base : Nat) (x : Wl) (W : World) : Prop := At W W.heap.size 1 tcell x.A x.ws ∧ x.ws ≠ [] ∧ x.ws.length ≤ x.c ∧ (∀ a, x.A = some a → base ≤ a.block) ∧ ∀ a, x.A = some a → Kd W a.block 9
/-- Blocks of the kinds that these iterators turn: their own variables, and what is no cells. -/
def mineO : Obj → Bool
  | .cells _ t _ => t == 9 || t == 131
  | _ => true
def TMine (base : Nat) (A : World) (r : Nat) : Prop := base ≤ r ∧ ∃ o, A.heap[r]? = some o ∧ mineO o = true
structure KMine (base : Nat) (W W' : World) : Prop where
  size : W.heap.size ≤ W'.heap.size
  same : ∀ k o, base ≤ k → W.heap[k]? = some o → mineO o = true → W'.heap[k]? = some o
theorem KMine.trans {base : Nat} {A B C : World} (h : KMine base A B) (k : KMine base B C) : KMine base A C := ⟨Nat.le_trans h.size k.size, fun i o hi ho hm => k.same i o hi (h.same i o hi ho hm) hm⟩
theorem KMine.next {base : Nat} {W W' : World} (h : Below W.heap.size W W') : KMine base W W' := ⟨h.size, fun k o _ ho _ => by rw [h.block k (Array.getElem?_eq_some_iff.1 ho).1]; exact ho⟩
theorem KMine.from {base : Nat} {W W' : World} (h : KMine base W W') : KeepsFrom base W W' := ⟨h.size, fun k o hk ho hc => h.same k o hk ho (by cases o <;> first | rfl | cases hc)⟩
theorem KMine.from' {base B : Nat} {W W' : World} (h : KMine base W W') (hB : base ≤ B) : KeepsFrom B W W' := ⟨h.size, fun k o hk ho hc => h.same k o (by omega) ho (by cases o <;> first | rfl | cases hc)⟩
theorem not_mine {o : Obj} (h : o.isCells = false) : mineO o = true := by cases o <;> first | rfl | cases h
set_option maxHeartbeats 400000 in
theorem bookLines_any (s : ByteArray) (w : World) : Calls Tryz.prog 39 #[.string s] w fun e w' => e = .returned (.func (.func 81) #[] #[.pointer (some ⟨w.heap.size, 0, none⟩)]) ∧ w' = w.alloc (.cells #[.string s] 9) := by
  go_enter Tryz.func39, Tryz.ntmps39
  go_wp2
  go_ret
  exact ⟨rfl, rfl⟩
theorem Env.below {B : Nat} {w w' : World} (h : Env w) (hB : 9 ≤ B) (hb : Below B w w') : Env w' := by
  have h9 := h.sz
  obtain ⟨m, hm⟩ := h.mx
  obtain ⟨t, p, hs⟩ := h.syn
  obtain ⟨t', p', hr⟩ := h.rng
  obtain ⟨g, hg, hg9⟩ := glob_pow
  refine ⟨Nat.le_trans h9 hb.size, ⟨m, (hb.cell (p := ⟨0, 0, none⟩) (by show 0 < _; omega)).trans hm⟩, ⟨t, p, (hb.cell (p := ⟨1, 0, none⟩) (by show 1 < _; omega)).trans hs⟩, ⟨t', p', (hb.cell (p := ⟨2, 0, none⟩) (by show 2 < _; omega)).trans hr⟩, ?_⟩
  have ht := h.tab
  unfold Lib.TabIs World.var? at ht ⊢
  rw [hg] at ht ⊢
  simp only [Option.bind_some] at ht ⊢
  rw [hb.block g (by omega)]
  exact ht
theorem Env.grown {w w' : World} {row : Option Nat} (h : Env w) (hg : w.grownBy w' row) (hr : ∀ r, row = some r → 9 ≤ r) : Env w' :=
  h.below (Nat.le_refl 9) ⟨hg.os, hg.tape, hg.output, hg.size, fun k hk => hg.block k (Nat.lt_of_lt_of_le hk h.sz) (fun e => by have := hr k e.symm; omega)⟩
theorem str_map (l : List ByteArray) : l.map Value.string = (l.map (·.data.toList)).map tx := by
  rw [List.map_map]
  refine List.map_congr_left fun b _ => ?_
  rfl
theorem split_any (t : Tx) (w : World) (hE : Env w) (hl : t.length < 4294967281) : Calls Tryz.prog 83 #[tx t, .string ⟨#[32]⟩] w fun e w' =>
    e = .returned (.slice (some ⟨w.heap.size, 0, none⟩) (splitC 32 t).length (splitC 32 t).length) ∧ w' = w.alloc (.cells (((splitC 32 t).map tx).toArray) 9) := by
  obtain ⟨m, hm⟩ := hE.mx
  have h1 : (Lib.splitB ⟨#[32]⟩ 0 (Lib.countB ⟨t.toArray⟩ ⟨#[32]⟩) ⟨t.toArray⟩).map (·.data.toList) = splitC 32 t := by
    rw [Lib.splitB_data]
    exact split_eq 32 t.length t (Nat.le_refl _)
  have h2 : Lib.countB ⟨t.toArray⟩ ⟨#[32]⟩ + 1 = (splitC 32 t).length := by
    rw [← h1, List.length_map, Lib.splitB_all ⟨#[32]⟩ (by decide) 0 _ _ rfl]
  refine (Tryz.strings_Split ⟨t.toArray⟩ ⟨#[32]⟩ m w hl hm (by decide)).mono ?_
  rintro e w' ⟨rfl, rfl⟩
  rw [h2, str_map, h1]
  exact ⟨rfl, rfl⟩
theorem trim_any (t : Tx) (w : World) (hl : t.length < 4294967281) : Calls Tryz.prog 84 #[tx t, .string ⟨#[10]⟩] w fun e w' => e = .returned (tx (trimL t)) ∧ w' = w :=
  Tryz.strings_TrimSuffix ⟨t.toArray⟩ ⟨#[10]⟩ w (Nat.le_of_lt (Nat.lt_of_lt_of_le hl (by decide)))
theorem splitAt {W W' : World} {t : Tx} {base : Nat} (hbase : base ≤ W.heap.size) (h : W' = W.drew.alloc (.cells (((splitC 32 t).map tx).toArray) 9)) : WlAt base ⟨splitC 32 t, some ⟨W.heap.size, 0, none⟩, (splitC 32 t).length⟩ W' := by
  subst h
  refine ⟨fun k x hx => ⟨W.heap.size, 0, rfl, by simp, fun j u hu => ?_⟩, splitC_ne 32 t, Nat.le_refl _, (fun a ha => by cases ha; exact hbase), fun a ha => by cases ha; exact Kd.new W.drew _ _⟩
  rcases j with _ | j
  · injection hu with hu
    subst hu
    rw [Nat.zero_add, Nat.mul_one, Nat.add_zero]
    show (W.drew.alloc _).cell? ⟨W.drew.heap.size, k, none⟩ = _
    rw [cell_of_row _ _ _ _ 9 (0, 0) (heap_alloc_new W.drew _)]
    simp [hx]
  · cases hu
def wordsL (s : Tx) : List (List Tx) := (linesP s).map (splitC 32)
def LSp (s : Tx) (pre : List Wl) : Prop := pre.map (·.ws) <+: wordsL s
theorem trimL_len (x : Tx) : (trimL x).length ≤ x.length := by
  unfold trimL Lib.trimSuffix
  split
  · rw [List.length_take]; omega
  · exact Nat.le_refl _
def cutW (x : Tx) : List Tx := splitC 32 (trimL x)
theorem raw_words (s : Tx) : (rawL s).map cutW = wordsL s := by
  unfold wordsL
  rw [← rawL_trim s.length s (Nat.le_refl _), List.map_map]; rfl
theorem rawL_len : ∀ (s x : Tx), x ∈ rawL s → x.length ≤ s.length
  | [], x, h => by cases h
  | c :: s, x, h => by
    rw [rawL] at h
    split at h
    · rcases List.mem_cons.1 h with rfl | h
      · simp
      · have := rawL_len s x h; simp; omega
    · have ih := rawL_len s
      split at h
      · rw [List.mem_singleton.1 h]; simp
      · rename_i y l e
        rw [e] at ih
        rcases List.mem_cons.1 h with rfl | h
        · have := ih y (List.mem_cons_self ..); simp; omega
        · have := ih x (List.mem_cons_of_mem _ h); simp; omega
theorem mine_turn {base B : Nat} {A A' : World} {r : Nat} (hB : base ≤ B) (h : B ≤ r ∧ (∃ o : Obj, A.heap[r]? = some o ∧ o.isCells = false) ∧ (∃ o : Obj, A'.heap[r]? = some o ∧ o.isCells = false)) : TMine base A r ∧ TMine base A' r := by
  obtain ⟨h1, ⟨o, h2, h3⟩, o', h4, h5⟩ := h
  exact ⟨⟨by omega, o, h2, not_mine h3⟩, by omega, o', h4, not_mine h5⟩
theorem mine_put {base D : Nat} {W : World} {ds : Option (List Deferred)} (hB : base ≤ D) (h : W.heap[D]? = some (.deferred ds)) : TMine base W D ∧ TMine base (W.putObj D (.deferred none)) D :=
  ⟨⟨hB, _, h, rfl⟩, hB, _, World.putObj_heap_same (Array.getElem?_eq_some_iff.1 h).1, rfl⟩
theorem mine_kd {base : Nat} {A : World} {r : Nat} (h : Kd A r 9) (hr : base ≤ r) : TMine base A r := by
  obtain ⟨c, fz, h⟩ := h
  exact ⟨hr, _, h, rfl⟩
theorem mine_str {base : Nat} {A A' : World} {r : Nat} (h : (r = base + 1 ∧ Kd A (base + 1) 9) ∧ (r = base + 1 ∧ Kd A' (base + 1) 9)) : TMine base A r ∧ TMine base A' r := by
  obtain ⟨⟨rfl, h1⟩, -, h2⟩ := h
  exact ⟨mine_kd h1 (by omega), mine_kd h2 (by omega)⟩
/-- What holds between two rounds of lines$1: what has come, told in words. -/
theorem KMine.at {base r : Nat} {W W' : World} {t : TypeId} (h : KMine base W W') (hk : Kd W r t) (hr : base ≤ r) (hm : (t == 9 || t == 131) = true := by rfl) : W'.heap[r]? = W.heap[r]? := by
  obtain ⟨c, fz, hk⟩ := hk
  rw [hk]
  exact h.same r _ hr hk hm
theorem Kd.grown {W W' : World} {row : Option Nat} {g : Nat} {t : TypeId} (h : Kd W g t) (hg : W.grownBy W' row) (hr : row ≠ some g) : Kd W' g t := by
  obtain ⟨c, fz, h⟩ := h
  exact ⟨c, fz, (hg.block g (Array.getElem?_eq_some_iff.1 h).1 (fun e => hr e.symm)).trans h⟩
theorem kd_turn {A B : World} {row : Option Nat} {g : Nat} {t : TypeId} (h : Kd A g t) (hg : A.grownBy B row) (hr : ∀ r, row = some r → (r = g ∧ Kd A g t) ∧ (r = g ∧ Kd B g t)) : Kd B g t := by
  by_cases e : row = some g
  · exact (hr g e).2.2
  · exact h.grown hg e
def LnI (J : List Wl → World → Prop) (yb l : Nat) (pre : List Tx) (W : World) : Prop := (∃ xs : List Wl, xs.map (·.ws) = pre.map cutW ∧ J xs W) ∧ Bx W yb [.func (.yield l) #[] #[]] ∧ Env W ∧ Kd W (yb + 1) 9 ∧ Kd W yb 131
def LnX (Jx : List Wl → World → Prop) (c : Code) (pre : List Tx) (W : World) : Prop := c = .ret ∧ ∃ xs : List Wl, xs.map (·.ws) = pre.map cutW ∧ Jx xs W
def KMineE (base : Nat) (W W' : World) : Prop := KMine base W W' ∧ (Env W → Env W')
set_option maxHeartbeats 4000000 in
set_option maxRecDepth 100000 in
theorem bookLines1_x (n : Nat) (hn : 4 ≤ n) (s : Tx) (hlen : s.length ≤ 70000) (bs : Nat) (w : World) (hE : Env w) (hb : Bx w bs [tx s]) (base : Nat) (hbase : base = w.heap.size) :
    SeqX Fence.wide n Tryz.prog 81 #[.pointer (some ⟨bs, 0, none⟩)] encW (TMine base) (KMineE base) (WlAt base) (fun xs => xs.map (·.ws) = wordsL s) (LSp s) w := by
  intro l J Jx Jp hJ hJx hJp hY h0
  have hn1 : 1 ≤ n := by omega
  have HY := Lib.hid hY
  have H0 := Lib.hid h0
  have HB := Lib.hid hb
  have HJ := Lib.hid hJ
  have HJx := Lib.hid hJx
  have HJp := Lib.hid hJp
  have HE := Lib.hid hE
  have HSZ := Lib.hid (show w.heap.size = base from hbase.symm)
  clear hY h0 hb hJ hJx hJp hE hbase
  refine callsIn_of_wpAt Tryz.func81 rfl trivial ?_ rfl
  simp only [Tryz.ntmps81, List.size_toArray, List.length_cons, List.length_nil, Nat.reduceAdd, Nat.reduceSub, Array.replicate_succ, Array.replicate_zero, List.push_toArray, List.append_toArray, List.nil_append, List.cons_append]
  refine wpAt_seq trivial (wpAt_of_wpIn trivial ?_)
  have HY0 := Lib.hid (Bx.new w #[.func (.yield l) #[] #[]] 131)
  have N0 := Lib.hid (nxA w (.cells #[.func (.yield l) #[] #[]] 131))
  have HB0 := Lib.hid (HB.out.next N0.out)
  have HM0 := Lib.hid (heap_alloc_new w (.cells #[.func (.yield l) #[] #[]] 131))
  have HF0 := Lib.hid (Kd.new w #[.func (.yield l) #[] #[]] 131)
  gi_wp2_with fail
  rw [HSZ.out] at HY0 HM0 HF0 ⊢
  generalize hV0 : (w.alloc (.cells #[.func (.yield l) #[] #[]] 131)) = V0 at *
  have HS0 := Lib.hid (show V0.heap.size = base + 1 by rw [← hV0, ← HSZ.out]; simp)
  clear hV0
  refine wpAt_seq trivial (wpAt_of_wpIn trivial ?_)
  have c0 := HB0.out.c 0 _ rfl
  gi_wp2_with fail
  refine ⟨trivial, (callsIn_wide.2 (lines_any ⟨s.toArray⟩ V0)).mono ?_⟩
  rintro e w' ⟨rfl, rfl⟩
  have N1 := Lib.hid (nxA V0 (.cells #[tx s] 9))
  have HX1 := Lib.hid (Bx.new V0 #[tx s] 9)
  have HM1 := Lib.hid (heap_alloc_new V0 (.cells #[tx s] 9))
  have HK1 := Lib.hid (Kd.new V0 #[tx s] 9)
  have HY1 := Lib.hid (HY0.out.next N1.out)
  have HF1 := Lib.hid (HF0.out.next N1.out)
  have HE1 := Lib.hid ((HE.out.next N0.out).next N1.out)
  have HW1 := Lib.hid (N0.out.trans (N1.out.mono N0.out.size))
  clear c0
  gi_wp2_with fail
  rw [HS0.out] at HX1 HM1 HK1 ⊢
  generalize hV1 : (V0.alloc (.cells #[tx s] 9)) = V1 at *
  have hs1 : V1.heap.size = base + 2 := by rw [← hV1]; simp [HS0.out]
  have HB9 := Lib.hid (show 9 ≤ base by have := HE.out.sz; rw [HSZ.out] at this; exact this)
  clear hV1 HS0 HM0
  have H01 := Lib.hid (show J [] V1 from HJ.out [] w V1 none H0.out (only_of_below (by have := HW1.out; exact this) none) (fun r hr => by cases hr))
  refine wpAt_block trivial (fun _ _ _ h => h) (fun _ _ _ h => h) ?_
  refine wpAt_rangeFunc_x (fn₀ := Tryz.f81) Tryz.func81 trivial rfl hn1 (gf := 107) (lb := #[.pointer (some ⟨base + 1, 0, none⟩)]) rfl trivial (enters_of Tryz.func107 (by kernel_rfl) rfl)
    (fun W hW _ => lines1_x (n - 1) (by omega) s (by omega) (base + 1) W (HX1.out.next hW) (HK1.out.next hW))
    (fun A r h => by obtain ⟨rfl, -⟩ := h; omega) (fun h k => k.trans h) (fun W o' => World.putObj_heap_other (by omega)) (fun _ => rfl)
    (LnI J base l) (LnX Jx) Jp ?hI ?hIx ?hR ?tI ?tIx ?tIp ⟨⟨[], rfl, H01.out⟩, HY1.out, HE1.out, HK1.out, HF1.out⟩
    (fun x => { tmps := #[.func (.yield l) #[] #[], .pointer (some ⟨bs, 0, none⟩), .pointer (some ⟨base, 0, none⟩), tx x, tx s, .func (.func 107) #[] #[.pointer (some ⟨base + 1, 0, none⟩)], tx x, undef, undef, undef, undef, undef, undef], defers := [] }) ?assign ?body ?done ?stop ?pan
  case assign =>
    intro l x W K hK
    dsimp only [encT]
    gi_wp2
    exact hK
  case hI =>
    rintro s A B row ⟨⟨xs, hx, hj⟩, hy, he, hk, hf⟩ hg hr
    exact ⟨⟨xs, hx, HJ.out xs A B row hj hg (fun r e => mine_turn (by omega) (hr r e))⟩, hy.grown hg (fun e => by have := (hr _ e).1; omega), he.grown hg (fun r e => by have := (hr r e).1; have := HB9.out; omega), hk.grown hg (fun e => by have := (hr _ e).1; omega), hf.grown hg (fun e => by have := (hr _ e).1; omega)⟩
  case hIx =>
    rintro c s A B row ⟨hc, xs, hx, hj⟩ hg hr
    exact ⟨hc, xs, hx, HJx.out xs A B row hj hg (fun r e => mine_turn (by omega) (hr r e))⟩
  case hR => exact fun _ _ _ _ _ _ _ => trivial
  case tI =>
    rintro s A B row ⟨⟨xs, hx, hj⟩, hy, he, hk, hf⟩ hg hr
    exact ⟨⟨xs, hx, HJ.out xs A B row hj hg (fun r e => mine_str (hr r e))⟩, hy.grown hg (fun e => by have := (hr _ e).1.1; omega), he.grown hg (fun r e => by have := (hr r e).1.1; have := HB9.out; omega), kd_turn hk hg hr, hf.grown hg (fun e => by have := (hr _ e).1.1; omega)⟩
  case tIx =>
    rintro c s A B row ⟨hc, xs, hx, hj⟩ hg hr
    exact ⟨hc, xs, hx, HJx.out xs A B row hj hg (fun r e => mine_str (hr r e))⟩
  case tIp =>
    intro ch A B row hj hg hr
    exact HJp.out ch A B row hj hg (fun r e => mine_str (hr r e))
  case body =>
    rintro l' pre x W ⟨⟨xs, hx, hj⟩, hy, he, hk, hf⟩ hsp -
    have y0 := hy.c 0 _ rfl
    have hn2 : 1 ≤ n - 1 - 1 := by omega
    have hn3 : 1 ≤ n - 1 - 1 - 1 := by omega
    have HLX := Lib.hid (show x.length ≤ 70000 from Nat.le_trans (rawL_len s x (hsp.mem (by simp))) hlen)
    have HSP := Lib.hid (show LSp s (xs ++ [⟨cutW x, some ⟨W.heap.size, 0, none⟩, (cutW x).length⟩]) from by
      unfold LSp
      rw [← raw_words s, List.map_append, hx, List.map_cons, List.map_nil, show (pre.map cutW) ++ [cutW x] = (pre ++ [x]).map cutW by simp]
      exact hsp.map cutW)
    have HXX := Lib.hid (show (xs ++ [(⟨cutW x, some ⟨W.heap.size, 0, none⟩, (cutW x).length⟩ : Wl)]).map (·.ws) = (pre ++ [x]).map cutW by simp [hx])
    have HJJ := Lib.hid hj
    have HYY := Lib.hid hy
    have HEE := Lib.hid he
    have HKK := Lib.hid hk
    have HFF := Lib.hid hf
    clear hx hj hy he hsp hk hf
    gi_wp2_with fail
    refine wpIn_region_any (by kernel_rfl) ?_
    rw [show ({ W with drawn := W.drawn + 1 } : World) = W.drew from rfl]
    refine wpAnyIn_ready (rs := [0, 1]) (by kernel_rfl) (by simp) ?_
    refine hconsI rfl (fun K hK => ?_) (hconsI rfl (fun K hK => ?_) (AllReadyIn.nil))
    go_simp
    refine hK _ _ ?_
    clear hK K
    try simp only [Act.put, List.setIfInBounds_toArray, List.set_cons_zero, List.set_cons_succ]
    refine wpAnyIn_ready (rs := [1]) (by kernel_rfl) (by simp) ?_
    refine hconsI rfl (fun K hK => ?_) (AllReadyIn.nil)
    go_simp
    refine hK _ _ ?_
    clear hK K
    try simp only [Act.put, List.setIfInBounds_toArray, List.set_cons_zero, List.set_cons_succ]
    refine wpAnyIn_ready (rs := [2]) (by kernel_rfl) (by simp) ?_
    refine hconsI rfl (fun K hK => ?_) (AllReadyIn.nil)
    go_simp
    refine ⟨trivial, CallsIn.inRound l' (callsIn_wide.2 ((trim_any x W.drew (by have := HLX.out; omega)).mono ?_))⟩; rintro e w' ⟨rfl, rfl⟩
    refine hK _ _ ?_
    clear hK K
    try simp only [Act.put, List.setIfInBounds_toArray, List.set_cons_zero, List.set_cons_succ]
    refine wpAnyIn_ready (rs := [3]) (by kernel_rfl) (by simp) ?_
    refine hconsI rfl (fun K hK => ?_) (AllReadyIn.nil)
    go_simp
    refine ⟨trivial, CallsIn.inRound l' (callsIn_wide.2 ((split_any (trimL x) W.drew (HEE.out.next (Below.refl _ _).drew) (by have h1 := trimL_len x; have h2 := HLX.out; omega)).mono ?_))⟩; rintro e W2 ⟨rfl, hsw⟩; have HRX := Lib.hid (show WlAt base ⟨cutW x, some ⟨W.heap.size, 0, none⟩, (cutW x).length⟩ W2 from splitAt (Nat.le_of_lt HYY.out.lt) hsw); have HN2 := Lib.hid (show Below W.heap.size W W2 by rw [hsw]; exact (Below.refl W.heap.size W).drew.alloc (Nat.le_refl _) _); clear hsw; have HJ2 := Lib.hid (HJ.out xs W W2 none HJJ.out (only_of_below HN2.out none) (fun r e => by cases e)); have y2 := (HYY.out.next HN2.out).c 0 _ rfl; obtain ⟨fn, tmps, assign, body, hyd, hR⟩ := HY.out xs _ W2 HJ2.out HSP.out HRX.out; dsimp only [encW, cutW] at hyd; have HRR := Lib.hid hR; clear hR
    refine hK _ _ ?_
    clear hK K
    try simp only [Act.put, List.setIfInBounds_toArray, List.set_cons_zero, List.set_cons_succ]
    refine wpAnyIn_ready (rs := [4]) (by kernel_rfl) (by simp) ?_
    refine hconsI rfl (fun K hK => ?_) (AllReadyIn.nil)
    go_simp
    refine (roundIn_any HRR.out).mono ?_; intro e W3 h3; refine Or.elim (three_way h3) ?_ (by rintro ⟨ch, rfl, h4, hkm⟩; exact ⟨rfl, ((KMine.next HN2.out).trans hkm.1).from' (by omega), ((KMine.next HN2.out).trans hkm.1).at HKK.out (by omega), h4⟩); rintro ⟨b, rfl, h4, hkm⟩; have HK3 := Lib.hid hkm; have H43 := Lib.hid h4; clear h4 hkm h3; dsimp only []
    refine hK _ _ ?_
    clear hK K
    try simp only [Act.put, List.setIfInBounds_toArray, List.set_cons_zero, List.set_cons_succ]
    refine wpAnyIn_ready (rs := [5]) (by kernel_rfl) (by simp) ?_
    refine hconsI rfl (fun K hK => ?_) (AllReadyIn.nil)
    go_simp
    refine hK _ _ ?_
    clear hK K
    try simp only [Act.put, List.setIfInBounds_toArray, List.set_cons_zero, List.set_cons_succ]
    refine wpAnyIn_done (by kernel_rfl) ?_ _
    rotate_left
    go_simp
    refine hK _ _ ?_
    clear hK K
    try simp only [Act.put, List.setIfInBounds_toArray, List.set_cons_zero, List.set_cons_succ]
    refine wpAnyIn_ready (rs := [0, 2]) (by kernel_rfl) (by simp) ?_
    refine hconsI rfl (fun K hK => ?_) (hconsI rfl (fun K hK => ?_) (AllReadyIn.nil))
    go_simp
    refine hK _ _ ?_
    clear hK K
    try simp only [Act.put, List.setIfInBounds_toArray, List.set_cons_zero, List.set_cons_succ]
    refine wpAnyIn_ready (rs := [2]) (by kernel_rfl) (by simp) ?_
    refine hconsI rfl (fun K hK => ?_) (AllReadyIn.nil)
    go_simp
    refine ⟨trivial, CallsIn.inRound l' (callsIn_wide.2 ((trim_any x W.drew (by have := HLX.out; omega)).mono ?_))⟩; rintro e w' ⟨rfl, rfl⟩
    refine hK _ _ ?_
    clear hK K
    try simp only [Act.put, List.setIfInBounds_toArray, List.set_cons_zero, List.set_cons_succ]
    refine wpAnyIn_ready (rs := [3]) (by kernel_rfl) (by simp) ?_
    refine hconsI rfl (fun K hK => ?_) (AllReadyIn.nil)
    go_simp
    refine ⟨trivial, CallsIn.inRound l' (callsIn_wide.2 ((split_any (trimL x) W.drew (HEE.out.next (Below.refl _ _).drew) (by have h1 := trimL_len x; have h2 := HLX.out; omega)).mono ?_))⟩; rintro e W2 ⟨rfl, hsw⟩; have HRX := Lib.hid (show WlAt base ⟨cutW x, some ⟨W.heap.size, 0, none⟩, (cutW x).length⟩ W2 from splitAt (Nat.le_of_lt HYY.out.lt) hsw); have HN2 := Lib.hid (show Below W.heap.size W W2 by rw [hsw]; exact (Below.refl W.heap.size W).drew.alloc (Nat.le_refl _) _); clear hsw; have HJ2 := Lib.hid (HJ.out xs W W2 none HJJ.out (only_of_below HN2.out none) (fun r e => by cases e)); have y2 := (HYY.out.next HN2.out).c 0 _ rfl; obtain ⟨fn, tmps, assign, body, hyd, hR⟩ := HY.out xs _ W2 HJ2.out HSP.out HRX.out; dsimp only [encW, cutW] at hyd; have HRR := Lib.hid hR; clear hR
    refine hK _ _ ?_
    clear hK K
    try simp only [Act.put, List.setIfInBounds_toArray, List.set_cons_zero, List.set_cons_succ]
    refine wpAnyIn_ready (rs := [4]) (by kernel_rfl) (by simp) ?_
    refine hconsI rfl (fun K hK => ?_) (AllReadyIn.nil)
    go_simp
    refine (roundIn_any HRR.out).mono ?_; intro e W3 h3; refine Or.elim (three_way h3) ?_ (by rintro ⟨ch, rfl, h4, hkm⟩; exact ⟨rfl, ((KMine.next HN2.out).trans hkm.1).from' (by omega), ((KMine.next HN2.out).trans hkm.1).at HKK.out (by omega), h4⟩); rintro ⟨b, rfl, h4, hkm⟩; have HK3 := Lib.hid hkm; have H43 := Lib.hid h4; clear h4 hkm h3; dsimp only []
    refine hK _ _ ?_
    clear hK K
    try simp only [Act.put, List.setIfInBounds_toArray, List.set_cons_zero, List.set_cons_succ]
    refine wpAnyIn_ready (rs := [5]) (by kernel_rfl) (by simp) ?_
    refine hconsI rfl (fun K hK => ?_) (AllReadyIn.nil)
    go_simp
    refine hK _ _ ?_
    clear hK K
    try simp only [Act.put, List.setIfInBounds_toArray, List.set_cons_zero, List.set_cons_succ]
    refine wpAnyIn_done (by kernel_rfl) ?_ _
    rotate_left
    go_simp
    refine ⟨trivial, CallsIn.inRound l' (callsIn_wide.2 ((trim_any x W.drew (by have := HLX.out; omega)).mono ?_))⟩; rintro e w' ⟨rfl, rfl⟩
    refine hK _ _ ?_
    clear hK K
    try simp only [Act.put, List.setIfInBounds_toArray, List.set_cons_zero, List.set_cons_succ]
    refine wpAnyIn_ready (rs := [0, 3]) (by kernel_rfl) (by simp) ?_
    refine hconsI rfl (fun K hK => ?_) (hconsI rfl (fun K hK => ?_) (AllReadyIn.nil))
    go_simp
    refine hK _ _ ?_
    clear hK K
    try simp only [Act.put, List.setIfInBounds_toArray, List.set_cons_zero, List.set_cons_succ]
    refine wpAnyIn_ready (rs := [3]) (by kernel_rfl) (by simp) ?_
    refine hconsI rfl (fun K hK => ?_) (AllReadyIn.nil)
    go_simp
    refine ⟨trivial, CallsIn.inRound l' (callsIn_wide.2 ((split_any (trimL x) W.drew (HEE.out.next (Below.refl _ _).drew) (by have h1 := trimL_len x; have h2 := HLX.out; omega)).mono ?_))⟩; rintro e W2 ⟨rfl, hsw⟩; have HRX := Lib.hid (show WlAt base ⟨cutW x, some ⟨W.heap.size, 0, none⟩, (cutW x).length⟩ W2 from splitAt (Nat.le_of_lt HYY.out.lt) hsw); have HN2 := Lib.hid (show Below W.heap.size W W2 by rw [hsw]; exact (Below.refl W.heap.size W).drew.alloc (Nat.le_refl _) _); clear hsw; have HJ2 := Lib.hid (HJ.out xs W W2 none HJJ.out (only_of_below HN2.out none) (fun r e => by cases e)); have y2 := (HYY.out.next HN2.out).c 0 _ rfl; obtain ⟨fn, tmps, assign, body, hyd, hR⟩ := HY.out xs _ W2 HJ2.out HSP.out HRX.out; dsimp only [encW, cutW] at hyd; have HRR := Lib.hid hR; clear hR
    refine hK _ _ ?_
    clear hK K
    try simp only [Act.put, List.setIfInBounds_toArray, List.set_cons_zero, List.set_cons_succ]
    refine wpAnyIn_ready (rs := [4]) (by kernel_rfl) (by simp) ?_
    refine hconsI rfl (fun K hK => ?_) (AllReadyIn.nil)
    go_simp
    refine (roundIn_any HRR.out).mono ?_; intro e W3 h3; refine Or.elim (three_way h3) ?_ (by rintro ⟨ch, rfl, h4, hkm⟩; exact ⟨rfl, ((KMine.next HN2.out).trans hkm.1).from' (by omega), ((KMine.next HN2.out).trans hkm.1).at HKK.out (by omega), h4⟩); rintro ⟨b, rfl, h4, hkm⟩; have HK3 := Lib.hid hkm; have H43 := Lib.hid h4; clear h4 hkm h3; dsimp only []
    refine hK _ _ ?_
    clear hK K
    try simp only [Act.put, List.setIfInBounds_toArray, List.set_cons_zero, List.set_cons_succ]
    refine wpAnyIn_ready (rs := [5]) (by kernel_rfl) (by simp) ?_
    refine hconsI rfl (fun K hK => ?_) (AllReadyIn.nil)
    go_simp
    refine hK _ _ ?_
    clear hK K
    try simp only [Act.put, List.setIfInBounds_toArray, List.set_cons_zero, List.set_cons_succ]
    refine wpAnyIn_done (by kernel_rfl) ?_ _
    rotate_left
    go_simp
    refine ⟨trivial, CallsIn.inRound l' (callsIn_wide.2 ((split_any (trimL x) W.drew (HEE.out.next (Below.refl _ _).drew) (by have h1 := trimL_len x; have h2 := HLX.out; omega)).mono ?_))⟩; rintro e W2 ⟨rfl, hsw⟩; have HRX := Lib.hid (show WlAt base ⟨cutW x, some ⟨W.heap.size, 0, none⟩, (cutW x).length⟩ W2 from splitAt (Nat.le_of_lt HYY.out.lt) hsw); have HN2 := Lib.hid (show Below W.heap.size W W2 by rw [hsw]; exact (Below.refl W.heap.size W).drew.alloc (Nat.le_refl _) _); clear hsw; have HJ2 := Lib.hid (HJ.out xs W W2 none HJJ.out (only_of_below HN2.out none) (fun r e => by cases e)); have y2 := (HYY.out.next HN2.out).c 0 _ rfl; obtain ⟨fn, tmps, assign, body, hyd, hR⟩ := HY.out xs _ W2 HJ2.out HSP.out HRX.out; dsimp only [encW, cutW] at hyd; have HRR := Lib.hid hR; clear hR
    refine hK _ _ ?_
    clear hK K
    try simp only [Act.put, List.setIfInBounds_toArray, List.set_cons_zero, List.set_cons_succ]
    refine wpAnyIn_ready (rs := [0]) (by kernel_rfl) (by simp) ?_
    refine hconsI rfl (fun K hK => ?_) (AllReadyIn.nil)
    go_simp
    refine hK _ _ ?_
    clear hK K
    try simp only [Act.put, List.setIfInBounds_toArray, List.set_cons_zero, List.set_cons_succ]
    refine wpAnyIn_ready (rs := [4]) (by kernel_rfl) (by simp) ?_
    refine hconsI rfl (fun K hK => ?_) (AllReadyIn.nil)
    go_simp
    refine (roundIn_any HRR.out).mono ?_; intro e W3 h3; refine Or.elim (three_way h3) ?_ (by rintro ⟨ch, rfl, h4, hkm⟩; exact ⟨rfl, ((KMine.next HN2.out).trans hkm.1).from' (by omega), ((KMine.next HN2.out).trans hkm.1).at HKK.out (by omega), h4⟩); rintro ⟨b, rfl, h4, hkm⟩; have HK3 := Lib.hid hkm; have H43 := Lib.hid h4; clear h4 hkm h3; dsimp only []
    refine hK _ _ ?_
    clear hK K
    try simp only [Act.put, List.setIfInBounds_toArray, List.set_cons_zero, List.set_cons_succ]
    refine wpAnyIn_ready (rs := [5]) (by kernel_rfl) (by simp) ?_
    refine hconsI rfl (fun K hK => ?_) (AllReadyIn.nil)
    go_simp
    refine hK _ _ ?_
    clear hK K
    try simp only [Act.put, List.setIfInBounds_toArray, List.set_cons_zero, List.set_cons_succ]
    refine wpAnyIn_done (by kernel_rfl) ?_ _
    all_goals
      have HKW := Lib.hid ((KMine.next HN2.out).trans HK3.out.1)
      have HEW := Lib.hid (HK3.out.2 (HEE.out.next HN2.out))
      have HJ4 := Lib.hid H43.out
      clear H43 HRR HRX HK3
      cases b
      · gi_wp2_with fail
        refine ⟨HKW.out.from' (by omega), HKW.out.at HKK.out (by omega), rfl, _, HXX.out, ?_⟩
        have := HJ4.out
        rw [if_neg (by decide)] at this
        exact this
      · gi_wp2_with fail
        refine ⟨HKW.out.from' (by omega), HKW.out.at HKK.out (by omega), ⟨_, HXX.out, ?_⟩, below_one HYY.out (HKW.out.at HFF.out (by omega)), HEW.out, HKK.out.same (HKW.out.at HKK.out (by omega)), HFF.out.same (HKW.out.at HFF.out (by omega))⟩
        have := HJ4.out
        first | rw [if_pos rfl] at this | rw [if_pos trivial] at this
        exact this
  case done =>
    rintro D ys W hD rfl ⟨⟨xs, hx, hj⟩, -, -, -, -⟩ hK
    have HP := Lib.hid (fun (γ : Type) (Jq : γ → World → Prop) (hq : AbidesT (TMine base) Jq) (s : γ) (hs : Jq s W) => hq s W _ (some D) hs (grownBy_putObj' W D (.deferred none)) (fun r e => by cases e; exact mine_put (by omega) hK))
    gi_wp2
    refine ⟨by simp, .inl ⟨_, _, rfl, run_takeDeferred hK, ?_⟩⟩
    exact ⟨_, results_none rfl _ _ _, .inl ⟨⟨_, rfl⟩, .inl ⟨xs, by rw [hx, raw_words], HP.out _ J HJ.out _ hj⟩⟩⟩
  case stop =>
    rintro D c pre W hD hsp ⟨rfl, xs, hx, hj⟩ hK
    have HP := Lib.hid (fun (γ : Type) (Jq : γ → World → Prop) (hq : AbidesT (TMine base) Jq) (s : γ) (hs : Jq s W) => hq s W _ (some D) hs (grownBy_putObj' W D (.deferred none)) (fun r e => by cases e; exact mine_put (by omega) hK))
    refine wpAt_of_wpIn trivial ?_
    gi_wp2
    refine ⟨by simp, .inl ⟨_, _, rfl, run_takeDeferred hK, ?_⟩⟩
    exact ⟨_, results_none rfl _ _ _, .inl ⟨⟨_, rfl⟩, .inr ⟨xs, by unfold LSp; rw [hx, ← raw_words]; exact hsp.map cutW, HP.out _ Jx HJx.out _ hj⟩⟩⟩
  case pan =>
    rintro D ch W hD hj hK
    have HP := Lib.hid (fun (γ : Type) (Jq : γ → World → Prop) (hq : AbidesT (TMine base) Jq) (s : γ) (hs : Jq s W) => hq s W _ (some D) hs (grownBy_putObj' W D (.deferred none)) (fun r e => by cases e; exact mine_put (by omega) hK))
    refine ⟨by simp, .inl ⟨_, _, rfl, run_takeDeferred hK, ?_⟩⟩
    exact .inr ⟨ch, rfl, HP.out _ Jp HJp.out _ hj⟩
end Go.Proofs.YtonnemkecppmiaaGreatDoor
