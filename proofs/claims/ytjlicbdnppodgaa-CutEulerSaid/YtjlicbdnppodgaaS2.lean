import Derived.Test.YtjlicbdnppodgaaS1
import Derived.Deep.DeepCutAuto
namespace Go.Proofs.Ytjlicbdnppodgaa
open Go.RowKit
/-! A loop whose body writes many slots: the frame at the round's start is told by one function of the slot's number. -/
def mixF : List (Option Nat) → (Nat → Value) → List Value → List Value
  | [], _, l => l
  | _ :: _, _, [] => []
  | some d :: m, f, _ :: l => f d :: mixF m f l
  | none :: m, f, x :: l => x :: mixF m f l
def mixL : List (Option Nat) → List Value → List Value → List Value
  | [], l, _ => l
  | _ :: _, [], _ => []
  | _ :: _, x :: l, [] => x :: l
  | some _ :: m, _ :: l, y :: l' => y :: mixL m l l'
  | none :: m, x :: l, _ :: l' => x :: mixL m l l'
def goodM : Nat → List (Option Nat) → Bool
  | _, [] => true
  | i, some d :: m => Nat.beq d i && goodM (i + 1) m
  | i, none :: m => goodM (i + 1) m
def slotF (a : Act) (n : Nat) : Value := a.tmps.getD n undef
theorem mixL_self : ∀ (m : List (Option Nat)) (l : List Value), mixL m l l = l
  | [], l => by cases l <;> rfl
  | o :: m, [] => by cases o <;> rfl
  | some d :: m, x :: l => by unfold mixL; rw [mixL_self m l]
  | none :: m, x :: l => by unfold mixL; rw [mixL_self m l]
theorem mixF_of : ∀ (m : List (Option Nat)) (i : Nat) (g : Nat → Value) (l0 l : List Value), goodM i m = true → mixL m l0 l = l → (∀ j x, l[j]? = some x → g (i + j) = x) → mixF m g l0 = l
  | [], i, g, l0, l, _, h, _ => by unfold mixF; unfold mixL at h; exact h
  | o :: m, i, g, [], l, _, h, _ => by
    have h1 : mixL (o :: m) [] l = [] := by cases o <;> rfl
    rw [h1] at h; subst h
    cases o <;> rfl
  | o :: m, i, g, x :: l0, [], _, h, _ => by
    have h1 : mixL (o :: m) (x :: l0) [] = x :: l0 := by cases o <;> rfl
    rw [h1] at h; cases h
  | some d :: m, i, g, x :: l0, y :: l, hg, h, hs => by
    unfold goodM at hg
    rw [Bool.and_eq_true] at hg
    have hd : d = i := Nat.eq_of_beq_eq_true hg.1
    unfold mixL at h
    unfold mixF
    injection h with h1 h2
    rw [mixF_of m (i + 1) g l0 l hg.2 h2 (fun j z hj => by have := hs (j + 1) z (by simpa using hj); rw [← this]; congr 1; omega), hd]
    have := hs 0 y (by simp)
    rw [Nat.add_zero] at this
    rw [this]
  | none :: m, i, g, x :: l0, y :: l, hg, h, hs => by
    unfold goodM at hg
    unfold mixL at h
    unfold mixF
    injection h with h1 h2
    rw [mixF_of m (i + 1) g l0 l hg h2 (fun j z hj => by have := hs (j + 1) z (by simpa using hj); rw [← this]; congr 1; omega), h1]
theorem slotF_at {l : List Value} {df : List Deferred} {n : Nat} {v : Value} (h : l[n]? = some v) : slotF ⟨l.toArray, df⟩ n = v := by
  unfold slotF
  show l.toArray.getD n undef = v
  rw [Array.getD_eq_getD_getElem?, List.getElem?_toArray, h]; rfl
section
variable {P : Program} {c : Code} {Q : Exit → Act → World → Prop} {mask : List (Option Nat)} {Rel : (Nat → Value) → World → Prop} {mu : (Nat → Value) → World → Nat} {l0 : List Value} {df : List Deferred}
def InvM (mask : List (Option Nat)) (Rel : (Nat → Value) → World → Prop) (l0 : List Value) (df : List Deferred) (a : Act) (w : World) : Prop := Rel (slotF a) w ∧ a = ⟨(mixF mask (slotF a) l0).toArray, df⟩
/-- What a round of the loop must reach. -/
def EndM (mask : List (Option Nat)) (Rel : (Nat → Value) → World → Prop) (mu : (Nat → Value) → World → Nat) (l0 : List Value) (df : List Deferred) (f : Nat → Value) (w : World) (a : Act) (w' : World) : Prop := InvM mask Rel l0 df a w' ∧ mu (slotF a) w' < mu f w
theorem invM {l : List Value} {w : World} (hg : goodM 0 mask = true) (hl : mixL mask l0 l = l) (hR : Rel (slotF ⟨l.toArray, df⟩) w) : InvM mask Rel l0 df ⟨l.toArray, df⟩ w := by
  refine ⟨hR, ?_⟩
  rw [mixF_of mask 0 (slotF ⟨l.toArray, df⟩) l0 l hg hl (fun j x hj => slotF_at (by rw [Nat.zero_add]; exact hj))]
theorem endM {l : List Value} {f : Nat → Value} {w w' : World} (hg : goodM 0 mask = true) (hl : mixL mask l0 l = l) (hR : Rel (slotF ⟨l.toArray, df⟩) w') (hm : mu (slotF ⟨l.toArray, df⟩) w' < mu f w) : EndM mask Rel mu l0 df f w ⟨l.toArray, df⟩ w' :=
  ⟨invM hg hl hR, hm⟩
theorem wp_loopM (mask : List (Option Nat)) (Rel : (Nat → Value) → World → Prop) (mu : (Nat → Value) → World → Nat) {w : World} (hg : goodM 0 mask = true) (h0 : Rel (slotF ⟨l0.toArray, df⟩) w)
    (hs : ∀ (f : Nat → Value) (w' : World), Rel f w' → c.wp P (Exit.then (fun a' w'' => EndM mask Rel mu l0 df f w' a' w'') Q) ⟨(mixF mask f l0).toArray, df⟩ w') : (Code.loop c).wp P Q ⟨l0.toArray, df⟩ w := by
  refine wp_loop (InvM mask Rel l0 df) (fun a w => mu (slotF a) w) (invM hg (mixL_self mask l0) h0) ?_
  rintro a w1 ⟨hR, ha⟩
  have := hs (slotF a) w1 hR
  rw [← ha] at this
  exact this
end
theorem IBlk.congr {W : World} {g n : Nat} {f f' : Nat → Int} (h : IBlk W g n f) (e : ∀ k, f' k = f k) : IBlk W g n f' := ⟨h.lt, fun j hj => by rw [e j]; exact h.cell j hj, h.free⟩
theorem IBlk.congr' {W : World} {g n : Nat} {f f' : Nat → Int} (h : IBlk W g n f) (e : ∀ k, k < n → f' k = f k) : IBlk W g n f' := ⟨h.lt, fun j hj => by rw [e j hj]; exact h.cell j hj, h.free⟩
theorem At.pre {α : Type} {w : World} {B size : Nat} {cells : α → List Value} {A : Option Addr} {l z : List α} (h : At w B size cells A (l ++ z)) : At w B size cells A l := fun k x hx =>
  h k x (by rw [List.getElem?_append_left (List.getElem?_eq_some_iff.1 hx).1]; exact hx)
theorem At.drop {α : Type} {w : World} {B size b off : Nat} {cells : α → List Value} {l : List α} (h : At w B size cells (some ⟨b, off, none⟩) l) (n : Nat) : At w B size cells (some ⟨b, off + n * size, none⟩) (l.drop n) := fun k x hx => by
  rw [List.getElem?_drop] at hx
  obtain ⟨b', off', e, hb, hc⟩ := h _ _ hx
  injection e with e
  injection e with e1 e2
  subst e1 e2
  refine ⟨b, _, rfl, hb, fun j u hu => ?_⟩
  have := hc j u hu
  rw [Nat.add_mul] at this
  rw [Nat.add_assoc off]
  exact this
theorem flat_inv {α : Type} {cells : α → List Value} {size : Nat} (hs : ∀ x, (cells x).length = size) : ∀ (l : List α) (j : Nat) (u : Value), (l.flatMap cells)[j]? = some u → ∃ k x r, l[k]? = some x ∧ (cells x)[r]? = some u ∧ j = k * size + r
  | [], j, u, h => by simp at h
  | y :: l, j, u, h => by
    rw [List.flatMap_cons] at h
    by_cases hj : j < size
    · rw [List.getElem?_append_left (by rw [hs]; exact hj)] at h
      exact ⟨0, y, j, rfl, h, by omega⟩
    · rw [List.getElem?_append_right (by rw [hs]; omega), hs] at h
      obtain ⟨k, x, r, h1, h2, h3⟩ := flat_inv hs l _ u h
      exact ⟨k + 1, x, r, by rw [List.getElem?_cons_succ]; exact h1, h2, by rw [Nat.add_mul]; omega⟩
theorem At.news {α : Type} {w : World} {B size b off : Nat} {cells : α → List Value} {l : List α} (hs : ∀ x, (cells x).length = size) (h : At w B size cells (some ⟨b, off, none⟩) l) : ∀ j u, (l.flatMap cells)[j]? = some u → w.cell? ((⟨b, off, none⟩ : Addr).add j) = some u := fun j u hu => by
  obtain ⟨k, x, r, h1, h2, rfl⟩ := flat_inv hs l j u hu
  obtain ⟨b', off', e, hb, hc⟩ := h _ _ h1
  injection e with e
  injection e with e1 e2
  subst e1 e2
  have := hc r u h2
  have hadd : (⟨b, off, none⟩ : Addr).add (k * size + r) = ⟨b, off + (k * size + r), none⟩ := by unfold Addr.add; split <;> simp_all
  rw [hadd, ← Nat.add_assoc]
  exact this
theorem flat_len {α : Type} {cells : α → List Value} {size : Nat} (hs : ∀ x, (cells x).length = size) : ∀ l : List α, (l.flatMap cells).length = l.length * size
  | [] => by simp
  | y :: l => by rw [List.flatMap_cons, List.length_append, hs, flat_len hs l, List.length_cons, Nat.add_mul]; omega
/-- To append a slice, of no element too. -/
theorem step_append_any {P : Program} {w : World} {ops : Array Oper} {o : Oper} {a : Act} {K : Act → World → Prop} {Q : Exit → Act → World → Prop} {E : Prop} (hgd : o.guard = none) (s x : Operand) (t : TypeId)
    (ho : o.op = .call { callee := .builtin .append, args := #[s, x], argTypes := #[t, t] })
    (base : Nat) (e : TypeId) (i : TypeInfo) (z : Value) (size bytes : Nat) (ht : P.underlying t = some (.slice e)) (hi : P.info? e = some i) (hz : i.zero = some z)
    (hsize : i.size = size) (hby : i.bytes = bytes) (hzs : z.cells.size = size) (hsz : 0 < size)
    (v : Value) (n : Nat) (xs : List Value) (hs : a.eval s = v) (hown : w.ownsRow base e size v n xs)
    (ad : Addr) (m c : Nat) (news : List Value) (hx : a.eval x = .slice (some ad) m c) (hl : news.length = m * size) (hnews : ∀ j u, news[j]? = some u → w.cell? (ad.add j) = some u) (h1 : ∀ u ∈ news, u.oneCell' = true)
    (h63 : n + m ≤ maxLen) (hbytes : (n + m) * bytes ≤ 140737488355328) (hbase : base ≤ w.heap.size)
    (h : ∀ v' w', w'.ownsRow base e size v' (n + m) (xs ++ news) → w.grownBy w' v.ownBlock → K (a.put o.dst v') w') :
    if Region.wanted o (yielded ops a.tmps) = true then Oper.wp P o a w K Q else E := by
  have hw : Region.wanted o (yielded ops a.tmps) = true := by simp [Region.wanted, hgd]
  rw [if_pos hw]
  obtain ⟨v', w', hr, h2, h3, -, -⟩ := run_append_own_at (P := P) w base t o.type e i z size bytes ht hi hz hsize hby hzs hsz v n xs hown ad m c news hl hnews h1 h63 hbytes hbase
  unfold Oper.wp execOp
  simp only [ho, resolve, invoke, builtin, Sem.run_bind, Sem.run_pure, Result.andThen_ok, List.map_toArray, List.map_cons, List.map_nil, hs, hx, hr]
  exact h v' w' h2 h3
theorem grown_from {B : Nat} {V W W' : World} {row : Option Nat} (hb : Below B V W) (h : W.grownBy W' row) (hs : B ≤ W.heap.size) (hr : ∀ g, row = some g → B ≤ g) : Below B V W' :=
  ⟨h.os.trans hb.os, h.tape.trans hb.tape, h.output.trans hb.output, Nat.le_trans hb.size h.size, fun k hk => (h.block k (by omega) (fun e => by have := hr k e.symm; omega)).trans (hb.block k hk)⟩
theorem own_empty {W : World} {H base size : Nat} {e : TypeId} (h : W.heap[H]? = some (.cells #[] e (0, 0))) (hb : base ≤ H) : W.ownsRow base e size (.slice (some ⟨H, 0, none⟩) 0 0) 0 [] :=
  ⟨by simp, .inr ⟨H, 0, #[], rfl, hb, h, Nat.le_refl _, by unfold maxLen; omega, by simp, by simp⟩⟩
theorem Bx.set1 {W : World} {b : Nat} {vs : List Value} (h : Bx W b vs) {k : Nat} (hk : k < vs.length) (v : Value) : Bx (W.setCell ⟨b, k, none⟩ v) b (vs.set k v) := by
  refine ⟨by rw [World.size_setCell]; exact h.lt, fun j u hu => ?_, fun j => by rw [World.frozen?_setCell]; exact h.fr j⟩
  by_cases e : j = k
  · subst e
    rw [List.getElem?_set_self hk] at hu
    injection hu with hu
    subst hu
    exact World.cell?_setCell_same' _ _ _ (by rw [h.c j _ (List.getElem?_eq_getElem hk)]; rfl)
  · rw [List.getElem?_set_ne (by omega)] at hu
    rw [World.cell?_setCell_other _ _ _ _ (by intro e'; injection e' with _ e2; exact e e2.symm)]
    exact h.c j u hu
theorem At.pre' {α : Type} {w : World} {B size : Nat} {cells : α → List Value} {A : Option Addr} {l l0 z : List α} (h : At w B size cells A l) (e : l = l0 ++ z) : At w B size cells A l0 := by subst e; exact h.pre
theorem bxOf {B : Nat} {V W : World} (_ : Below B V W) (vs : Array Value) (t : TypeId) : Bx (W.alloc (.cells vs t)) W.heap.size vs.toList := Bx.new W vs t
theorem two_box (V : World) (vs : Array Value) (t : TypeId) : Bx ((V.alloc (.cells vs t)).alloc (.cells vs t)) V.heap.size vs.toList ∧ Bx ((V.alloc (.cells vs t)).alloc (.cells vs t)) (V.heap.size + 1) vs.toList ∧ Below V.heap.size V ((V.alloc (.cells vs t)).alloc (.cells vs t)) := by
  have hs : (V.alloc (.cells vs t)).heap.size = V.heap.size + 1 := by simp
  refine ⟨(Bx.new V vs t).next (nxA _ _), ?_, (nxA _ _).trans ((nxA _ _).mono (by omega))⟩
  rw [← hs]
  exact Bx.new _ vs t
structure LBlk {α : Type} (cells : α → List Value) (size : Nat) (W : World) (g : Nat) (l : List α) : Prop where
  lt : g < W.heap.size
  at_ : At W W.heap.size size cells (some ⟨g, 0, none⟩) l
  fr : ∀ j, W.frozen? ⟨g, j, none⟩ = false
theorem LBlk.below {α : Type} {cells : α → List Value} {size : Nat} {W W' : World} {B g : Nat} {l : List α} (h : LBlk cells size W g l) (hb : Below B W W') (hg : g < B) : LBlk cells size W' g l := by
  refine ⟨Nat.lt_of_lt_of_le h.lt hb.size, fun k x hx => ?_, fun j => (hb.frozen (p := ⟨g, j, none⟩) hg).trans (h.fr j)⟩
  obtain ⟨b, off, e, hl, hc⟩ := h.at_ k x hx
  injection e with e
  injection e with e1 e2
  subst e1 e2
  exact ⟨g, 0, rfl, Nat.lt_of_lt_of_le hl hb.size, fun j u hu => (hb.cell (p := ⟨g, 0 + k * size + j, none⟩) hg).trans (hc j u hu)⟩
theorem LBlk.next {α : Type} {cells : α → List Value} {size : Nat} {W W' : World} {g : Nat} {l : List α} (h : LBlk cells size W g l) (hb : Below W.heap.size W W') : LBlk cells size W' g l := h.below hb h.lt
theorem Bx.far {W : World} {b g k : Nat} {vs : List Value} (h : Bx W b vs) (hne : g ≠ b) (v : Value) : Bx (W.setCell ⟨g, k, none⟩ v) b vs :=
  ⟨by rw [World.size_setCell]; exact h.lt, fun j u hu => by rw [World.cell?_setCell_other _ _ _ _ (by intro e; injection e with e; exact hne e)]; exact h.c j u hu, fun j => by rw [World.frozen?_setCell]; exact h.fr j⟩
theorem LBlk.far {α : Type} {cells : α → List Value} {size : Nat} {W : World} {g b k : Nat} {l : List α} (h : LBlk cells size W b l) (hne : g ≠ b) (v : Value) : LBlk cells size (W.setCell ⟨g, k, none⟩ v) b l := by
  refine ⟨by rw [World.size_setCell]; exact h.lt, fun i x hx => ?_, fun j => by rw [World.frozen?_setCell]; exact h.fr j⟩
  obtain ⟨b', off, e, hl, hc⟩ := h.at_ i x hx
  injection e with e
  injection e with e1 e2
  subst e1 e2
  exact ⟨b, 0, rfl, by rw [World.size_setCell]; exact hl, fun j u hu => by rw [World.cell?_setCell_other _ _ _ _ (by intro e; injection e with e; exact hne e)]; exact hc j u hu⟩
theorem LBlk.drew {α : Type} {cells : α → List Value} {size : Nat} {W : World} {g : Nat} {l : List α} (h : LBlk cells size W g l) : LBlk cells size W.drew g l := ⟨h.lt, h.at_, h.fr⟩
theorem LBlk.cell {α : Type} {cells : α → List Value} {size : Nat} {W : World} {g : Nat} {l : List α} (h : LBlk cells size W g l) {k : Nat} {x : α} (hx : l[k]? = some x) {j : Nat} {u : Value} (hu : (cells x)[j]? = some u) : W.cell? ⟨g, k * size + j, none⟩ = some u := by
  obtain ⟨b, off, e, hl, hc⟩ := h.at_ k x hx
  injection e with e
  injection e with e1 e2
  subst e1 e2
  have := hc j u hu
  rwa [Nat.zero_add] at this
theorem idx_eq {size k j k' j' : Nat} (hj : j < size) (hj' : j' < size) (h : k * size + j = k' * size + j') : k = k' ∧ j = j' := by
  have h1 : (k * size + j) / size = k := by rw [Nat.mul_comm, Nat.mul_add_div (by omega), Nat.div_eq_of_lt hj]; rfl
  have h2 : (k' * size + j') / size = k' := by rw [Nat.mul_comm, Nat.mul_add_div (by omega), Nat.div_eq_of_lt hj']; rfl
  have h3 : k = k' := by rw [← h1, ← h2, h]
  subst h3
  exact ⟨rfl, by omega⟩
theorem LBlk.set {α : Type} {cells : α → List Value} {size : Nat} (hs : ∀ x, (cells x).length = size) {W : World} {g : Nat} {l : List α} (h : LBlk cells size W g l) {k j : Nat} {x x' : α} {v : Value} (hx : l[k]? = some x) (hj : j < size) (hx' : cells x' = (cells x).set j v) : LBlk cells size (W.setCell ⟨g, k * size + j, none⟩ v) g (l.set k x') := by
  refine ⟨by rw [World.size_setCell]; exact h.lt, fun k2 y hy => ?_, fun i => by rw [World.frozen?_setCell]; exact h.fr i⟩
  refine ⟨g, 0, rfl, by rw [World.size_setCell]; exact h.lt, fun i u hu => ?_⟩
  rw [Nat.zero_add]
  have hi : i < size := by have := (List.getElem?_eq_some_iff.1 hu).1; rw [hs] at this; exact this
  by_cases e : k2 = k
  · subst e
    rw [List.getElem?_set_self (List.getElem?_eq_some_iff.1 hx).1] at hy
    injection hy with hy
    subst hy
    rw [hx'] at hu
    by_cases e2 : i = j
    · subst e2
      rw [List.getElem?_set_self (by rw [hs]; exact hj)] at hu
      injection hu with hu
      subst hu
      have hv : (cells x)[i]? = some ((cells x)[i]'(by rw [hs]; exact hj)) := List.getElem?_eq_getElem _
      exact World.cell?_setCell_same' _ _ _ (by rw [h.cell hx hv]; rfl)
    · rw [List.getElem?_set_ne (by omega)] at hu
      rw [World.cell?_setCell_other _ _ _ _ (by intro e'; injection e' with _ e3; exact e2 (by omega))]
      exact h.cell hx hu
  · rw [List.getElem?_set_ne (by omega)] at hy
    rw [World.cell?_setCell_other _ _ _ _ (by intro e'; injection e' with _ e3; exact e (idx_eq hi hj e3.symm).1)]
    exact h.cell hy hu
theorem own_lblk {α : Type} {cells : α → List Value} {size : Nat} (hs : ∀ x, (cells x).length = size) (h0 : 0 < size) {W : World} {base n : Nat} {e : TypeId} {v : Value} {l : List α} (h : W.ownsRow base e size v n (l.flatMap cells)) (hn : n = l.length) (hne : v ≠ .slice none 0 0) :
    ∃ g cap, v = .slice (some ⟨g, 0, none⟩) l.length cap ∧ base ≤ g ∧ LBlk cells size W g l := by
  subst hn
  rcases h.2 with ⟨e1, -⟩ | ⟨g, cap, cur, rfl, hb, hg, -, -, -, -⟩
  · exact absurd e1 hne
  · refine ⟨g, cap, rfl, hb, ?_⟩
    have hlt : g < W.heap.size := (Array.getElem?_eq_some_iff.1 hg).1
    obtain ⟨A, c, ev, hat⟩ := own_at hs h0 h
    injection ev with ev _ _
    subst ev
    exact ⟨hlt, hat, fun j => by simp [World.frozen?, hg]⟩
theorem wpList_append_none {P : Program} {w : World} {ops : Array Oper} {rest : List Oper} {o : Oper} {a : Act} {Q : Exit → Act → World → Prop} (hgd : o.guard = none) (s x : Operand) (t : TypeId)
    (ho : o.op = .call { callee := .builtin .append, args := #[s, x], argTypes := #[t, t] })
    (e : TypeId) (i : TypeInfo) (ht : P.underlying t = some (.slice e)) (hi : P.info? e = some i)
    (H c : Nat) (hs : a.eval s = .slice (some ⟨H, 0, none⟩) 0 0) (hx : a.eval x = .slice none 0 c) (h : wpList P ops Q rest (a.put o.dst (.slice (some ⟨H, 0, none⟩) 0 0)) w) : wpList P ops Q (o :: rest) a w := by
  refine wpList_plain hgd fun K hK => ?_
  have hr : (Builtin.append_ #[t, t] o.type #[.slice (some ⟨H, 0, none⟩) 0 0, .slice none 0 c]).run P w = .ok (.slice (some ⟨H, 0, none⟩) 0 0) w := by
    simp [Builtin.append_, run_underlying ht, sizeOf, typeInfo, hi, Builtin.lenOf, Builtin.firstCells, loadCells, loadCellsFrom, storeCells]
  unfold Oper.wp execOp
  simp only [ho, resolve, invoke, builtin, Sem.run_bind, Sem.run_pure, Result.andThen_ok, List.map_toArray, List.map_cons, List.map_nil, hs, hx, hr]
  exact hK _ _ h
theorem at_split {α : Type} {W : World} {B size : Nat} {cells : α → List Value} {A : Option Addr} {l : List α} (hs : ∀ x, (cells x).length = size) (h : At W B size cells A l) : (A = none ∧ l = []) ∨ ∃ a, A = some a ∧ ∀ W' B', At W' B' size cells A l → ∀ j u, (l.flatMap cells)[j]? = some u → W'.cell? (a.add j) = some u := by
  match l, h with
  | [], _ =>
    cases A with
    | none => exact .inl ⟨rfl, rfl⟩
    | some a => exact .inr ⟨a, rfl, fun W' B' _ j u hu => by simp at hu⟩
  | x :: l, h =>
    obtain ⟨b, off, e, -, -⟩ := h 0 x rfl
    subst e
    exact .inr ⟨_, rfl, fun W' B' h' => h'.news hs⟩
end Go.Proofs.Ytjlicbdnppodgaa
