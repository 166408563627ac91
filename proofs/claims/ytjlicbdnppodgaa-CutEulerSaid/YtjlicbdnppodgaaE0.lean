import Derived.Test.YtjlicbdnppodgaaS2
import Derived.Deep.Slices
import Derived.Deep.Fields
import Derived.ChangeSame
import Derived.OpenShut
import Derived.Carry
import Derived.Test.YtjlicbdnppodgaaP3
import Derived.Test.YtjlicbdnppodgaaRows
import Derived.ProofKit
import Derived.LaidMore
import Derived.Stop.Joined
import Derived.FnData
namespace Go.Proofs.Ytjlicbdnppodgaa
section
open Go.ChangeShapes Go.WideShapes Go.RowKit Go.Deep
/-! A cut that came in as an argument. -/
section
variable {H : Type} {enc : TypeId × Value → H} {w : World}
theorem uInt : Try.prog.underlying 3 = some (.int .i64) := by kernel_rfl
theorem uCut : Try.prog.underlying 24 = some (.struct (Try.prog.fieldsOf 24)) := by kernel_rfl
theorem kInt : Try.prog.cellsOf 3 = 1 := by kernel_rfl
theorem kCut : Try.prog.cellsOf 24 = 3 := by kernel_rfl
theorem kInts : Try.prog.cellsOf 22 = 1 := by kernel_rfl
theorem sInts : Try.prog.underlying 22 = some (.slice 3) := by kernel_rfl
abbrev Rd (enc : TypeId × Value → H) (w : World) (n : Nat) (t : TypeId) (cs : List Value) : Prop := ∃ y, DataW.trod enc Try.prog w 0 (fun _ => true) true n t cs = some y
theorem rd_int {n : Nat} {cs : List Value} (h : Rd enc w n 3 cs) : ∃ k, cs = [.int .i64 k] := by
  obtain ⟨y, hy⟩ := h
  obtain ⟨k, e, -⟩ := DataW.trod_int uInt hy
  exact ⟨k, e⟩
theorem rd_fields {t : TypeId} {n : Nat} {cs : List Value} (hs : Try.prog.underlying t = some (.struct (Try.prog.fieldsOf t))) (h : Rd enc w n t cs) :
    cs.length = Try.prog.cellsOf t ∧ ∃ m, ∀ (i o ty : Nat), ((Try.prog.fieldsOf t)[i]?).map (fun f => (f.offset, f.type)) = some (o, ty) → Rd enc w m ty ((cs.drop o).take (Try.prog.cellsOf ty)) := by
  obtain ⟨y, hy⟩ := h
  obtain ⟨xs, m, _, _, hl, hx, hf⟩ := DataW.trod_struct hs hy
  refine ⟨hl, m, fun i o ty hi => ?_⟩
  obtain ⟨f, hf1, hf2⟩ := Option.map_eq_some_iff.1 hi
  injection hf2 with e1 e2
  subst e1 e2
  have := hf i f hf1
  have hlt : i < xs.length := by rw [hx]; exact (Array.getElem?_eq_some_iff.1 hf1).1
  rw [List.getElem?_eq_getElem hlt] at this
  exact ⟨_, this⟩
theorem add_spot {a : Addr} (h : a.spot = none) (n : Nat) : a.add n = ⟨a.block, a.off + n, none⟩ := by
  unfold Addr.add
  split
  · rename_i e; subst e; cases a; simp only at h; subst h; rfl
  · rfl
theorem cell_inW {W : World} {a : Addr} {v : Value} (h : W.cell? a = some v) : a.spot = none ∧ a.block < W.heap.size := by
  unfold World.cell? at h
  split at h
  · rename_i ho
    refine ⟨?_, (Array.getElem?_eq_some_iff.1 ho).1⟩
    split at h
    · cases h
    · rename_i hs; simpa using hs
  · cases h
theorem choose_list {α : Type} (n : Nat) {Q : Nat → α → Prop} (h : ∀ i, i < n → ∃ a, Q i a) : ∃ l : List α, l.length = n ∧ ∀ i a, l[i]? = some a → Q i a := by
  induction n with
  | zero => exact ⟨[], rfl, fun i a h => by simp at h⟩
  | succ n ih =>
    obtain ⟨l, hl, hq⟩ := ih (fun i hi => h i (by omega))
    obtain ⟨a, ha⟩ := h n (by omega)
    refine ⟨l ++ [a], by simp [hl], fun i b hb => ?_⟩
    by_cases hi : i < l.length
    · rw [List.getElem?_append_left hi] at hb; exact hq i b hb
    · rw [List.getElem?_append_right (by omega)] at hb
      have : i - l.length = 0 := by
        have := (List.getElem?_eq_some_iff.1 hb).1
        simp at this; omega
      rw [this] at hb
      simp at hb
      subst hb
      rw [show i = n by omega]
      exact ha
/-- A slice that came in: its elements' cells. -/
theorem rd_slice {α : Type} {size : Nat} {cells : α → List Value} {Good : α → Prop} {t e : TypeId} {n : Nat} {cs : List Value} (ht : Try.prog.underlying t = some (.slice e)) (hC : Try.prog.cellsOf e = size) (hpos : 0 < size)
    (hel : ∀ m cs', Rd enc w m e cs' → ∃ a : α, cs' = cells a ∧ Good a) (h : Rd enc w n t cs) :
    ∃ (A : Option Addr) (c : Nat) (l : List α), cs = [.slice A l.length c] ∧ At w w.heap.size size cells A l ∧ l.length ≤ 9223372036854775807 ∧ ∀ a ∈ l, Good a := by
  obtain ⟨y, hy⟩ := h
  rcases open_slice ht hy with ⟨rfl, -⟩ | ⟨a, len, cap, m, n', D, Pl, rfl, hb, hl, hm, hmm, -, hi⟩
  · exact ⟨none, 0, [], rfl, At.nil, by simp, fun a h => by simp at h⟩
  · have hlm : len ≤ m := by simp at hmm; omega
    obtain ⟨l, hll, hq⟩ := choose_list (α := α) len (Q := fun i x => w.cells? 0 (a.add (i * size)) size = some (cells x) ∧ Good x) (fun i hi' => by
      obtain ⟨cs', h1, h2⟩ := hi i (by omega)
      rw [hC] at h1
      obtain ⟨x, rfl, hg⟩ := hel _ _ ⟨_, h2⟩
      exact ⟨x, h1, hg⟩)
    refine ⟨some a, cap, l, by rw [hll], fun k x hk => ?_, by unfold maxLen at hm; omega, fun x hx => ?_⟩
    · obtain ⟨h1, -⟩ := hq k x hk
      obtain ⟨-, hcl, hat⟩ := World.cells?_some h1
      have hx0 := hat 0 hpos
      have hv : (cells x)[0]? = some ((cells x)[0]'(by omega)) := List.getElem?_eq_getElem (by omega)
      rw [hv] at hx0
      have hk0 : 0 < l.length := by have := (List.getElem?_eq_some_iff.1 hk).1; omega
      obtain ⟨h0, -⟩ := hq 0 l[0] (List.getElem?_eq_getElem hk0)
      obtain ⟨-, hcl0, hat0⟩ := World.cells?_some h0
      have ha0 := hat0 0 hpos
      have hv0 : (cells l[0])[0]? = some ((cells l[0])[0]'(by omega)) := List.getElem?_eq_getElem (by omega)
      rw [hv0, Nat.zero_mul] at ha0
      have hz : a.add 0 = a := by unfold Addr.add; simp
      rw [hz, hz] at ha0
      obtain ⟨hs, hbl⟩ := cell_inW ha0
      refine ⟨a.block, a.off, by cases a; simp only at hs; subst hs; rfl, hbl, fun j u hu => ?_⟩
      have hj : j < size := by have := (List.getElem?_eq_some_iff.1 hu).1; omega
      have := hat j hj
      rw [add_spot hs, add_spot (a := ⟨a.block, a.off + k * size, none⟩) rfl] at this
      exact this.trans hu
    · obtain ⟨i, hi', rfl⟩ := List.mem_iff_getElem.1 hx
      exact (hq i _ (List.getElem?_eq_getElem hi')).2
set_option maxRecDepth 100000 in
theorem rd_cut {b : Nat} {v : Value} {d : DataW H} {ps : List MemPlace} (hv : Value.okWide Try.prog w .any b 24 v) (h : DataW.Trod enc Try.prog w 0 (fun _ => true) true 24 v d ps) : ∃ s : Cut, v = .agg #[.int .i64 s.wide, .int .i64 s.high, .slice s.A s.piece.length s.c] ∧ CutAt w w.heap.size s := by
  obtain ⟨⟨cs⟩, rfl, hsz⟩ := okWide_struct uCut hv
  rw [kCut] at hsz
  obtain ⟨fuel, hf⟩ := h
  match cs, hsz with
  | [c0, c1, c2], _ =>
    obtain ⟨-, m, hf⟩ := rd_fields uCut (⟨_, hf⟩ : Rd enc w fuel 24 [c0, c1, c2])
    obtain ⟨k0, e0⟩ := rd_int (by have := hf 0 0 3 (by kernel_rfl); rw [kInt] at this; exact this : Rd enc w m 3 [c0])
    obtain ⟨k1, e1⟩ := rd_int (by have := hf 1 1 3 (by kernel_rfl); rw [kInt] at this; exact this : Rd enc w m 3 [c1])
    obtain ⟨A1, q1, l1, e2, h1, b1, -⟩ := rd_slice (α := Int) (size := 1) (cells := icell) (Good := fun _ => True) sInts kInt (by omega) (fun m cs' h' => by obtain ⟨k, e⟩ := rd_int h'; exact ⟨k, e, trivial⟩) (by have := hf 2 2 22 (by kernel_rfl); rw [kInts] at this; exact this : Rd enc w m 22 [c2])
    injection e0 with e0
    injection e1 with e1
    injection e2 with e2
    subst e0 e1 e2
    exact ⟨⟨k0, k1, l1, A1, q1⟩, rfl, h1, b1⟩
end
end
section
open Go.ChangeShapes Go.WideShapes Go.ChangeAt Go.RowKit
theorem own : ownKnob Try.prog.godebug = none := by kernel_rfl
theorem u5 : Try.prog.underlying 5 = some (.int .u8) := by kernel_rfl
theorem i64_wf {x : Int} (h : (Lit.int .i64 x).wf = true) : I64 x := by
  simp [Lit.wf, IntKind.min, IntKind.max, IntKind.signed, IntKind.bits] at h
  exact ⟨by omega, by omega⟩
theorem laidOut : laidOutB Try.prog = true := by kernel_rfl
theorem u4 : Try.prog.underlying 4 = some .bool := by kernel_rfl
section
variable {H : Type} {enc : TypeId × Value → H} {P : Program}
theorem post_of_below {f : Func} {s : ChangeSpec} {apart fresh handsOn again : Bool} {W W' : World} {args : Array Value} {v : Value} {ds gs : List (DataW H)} {before pa pv : List MemPlace}
    (hW : DataW.Whole enc P f.params.toList s.vars apart W args.toList ds gs before)
    (hres : ∀ (b : Nat) (sp : Nat → Bool) (hd : Bool), DataW.TrodAll enc P W' b sp hd f.resultTypes.toList (v.resultList f.resultTypes.size) (s.fn H (ds ++ gs)).results [])
    (hargs : ∀ sp : Nat → Bool, (∀ p ∈ before, sp p.block = true) → DataW.TrodAll enc P W' 0 sp true f.params.toList args.toList (s.fn H (ds ++ gs)).args pa)
    (hvars : ∀ sp : Nat → Bool, (∀ p ∈ before, sp p.block = true) → DataW.TrodVars enc P W' sp s.vars (s.fn H (ds ++ gs)).vars pv)
    (hps : before = pa ++ pv) (hb : Below W.heap.size W W')
    (hok : ∀ (j : Nat) (t : TypeId) (r : Value), f.resultTypes[j]? = some t → (v.resultList f.resultTypes.size)[j]? = some r → Value.okWide P W' .any 0 t r) :
    s.post enc P f apart fresh handsOn again W args v W' := by
  have hlt : ∀ p ∈ before, p.block < W.heap.size := fun p hp => hW.lt p hp
  have hold : ∀ p ∈ before, (fun b => decide (b < W.heap.size)) p.block = true := fun p hp => by simpa using hlt p hp
  refine ⟨ds, gs, before, [], pa, pv, hW, hres _ _ _, hargs _ hold, hvars _ hold, World.keptBut_mono (fun p hp => ⟨hp, ?_⟩) (hb.frame (· ∈ before)), fun _ => ?_⟩
  · rw [hps, List.mem_append] at hp
    exact Or.inr hp
  · obtain ⟨_, _, _, _, _, hz, hn⟩ := hW
    refine ⟨hok, _, _, ([] ++ pa) ++ pv, ⟨[] ++ pa, pv, trodAll_append (hargs _ (fun _ _ => rfl)) (hres _ _ _), hvars _ (fun _ _ => rfl), rfl, ?_, ?_⟩, ?_⟩
    · intro b off hp
      have hin : MemPlace.cell b off ∈ before := by rw [hps]; simpa using hp
      rw [hb.frozen (hlt _ hin)]
      exact hz b off hin
    · intro ha
      have := hn ha
      rw [hps] at this
      simpa using this
    · intro p hp _
      rw [hps]
      simpa using hp
theorem trodAll_stays (hl : laidOutB P = true) {W W' : World} (hb : Below W.heap.size W W') {sp : Nat → Bool} : ∀ {ts : List TypeId} {vs : List Value} {ds : List (DataW H)} {ps : List MemPlace},
    (∀ t ∈ ts, P.readableRec t = true ∧ t < P.types.size) → DataW.TrodAll enc P W 0 (fun _ => true) true ts vs ds ps → (∀ x ∈ ps, x.block < W.heap.size) → (∀ x ∈ ps, sp x.block = true) → DataW.TrodAll enc P W' 0 sp true ts vs ds ps
  | [], [], [], _, _, h, _, _ => h
  | [], _ :: _, _, _, _, h, _, _ => h.elim
  | [], [], _ :: _, _, _, h, _, _ => h.elim
  | _ :: _, [], _, _, _, h, _, _ => h.elim
  | _ :: _, _ :: _, [], _, _, h, _, _ => h.elim
  | t :: ts, v :: vs, d :: ds, ps, hr, h, hlt, hsp => by
    obtain ⟨p, q, h1, h2, rfl⟩ := h
    obtain ⟨r1, r2⟩ := hr t (List.mem_cons_self ..)
    exact ⟨p, q, WideElems.Trod_stays hl r1 r2 h1 (fun x hx => hb.same (hlt x (List.mem_append_left _ hx))) (fun x hx => hsp x (List.mem_append_left _ hx)),
      trodAll_stays hl hb (fun t ht => hr t (List.mem_cons_of_mem _ ht)) h2 (fun x hx => hlt x (List.mem_append_right _ hx)) (fun x hx => hsp x (List.mem_append_right _ hx)), rfl⟩
end
set_option maxRecDepth 100000 in
/-- A law's post: it returned true, nothing below has turned. -/
theorem law_post {H : Type} {enc : TypeId × Value → H} {f : Func} {s : ChangeSpec} {W W' : World} {args : Array Value} {ds : List (DataW H)} {before : List MemPlace}
    (hv : s.vars = []) (hrt : f.resultTypes = #[4]) (hfn : (s.fn H ds).results = [.lit (.bool true)] ∧ (s.fn H ds).args = ds) (hfv : (s.fn H ds).vars = [])
    (hp : (f.params.all fun t => Try.prog.readableRec t && decide (t < Try.prog.types.size)) = true)
    (hW : DataW.Whole enc Try.prog f.params.toList s.vars false W args.toList ds [] before) (hA : DataW.TrodAll enc Try.prog W 0 (fun _ => true) true f.params.toList args.toList ds before) (hb : Below W.heap.size W W') :
    s.post enc Try.prog f false true false false W args (.bool true) W' := by
  have hlt : ∀ p ∈ before, p.block < W.heap.size := fun p hp => hW.lt p hp
  refine post_of_below (pa := before) (pv := []) hW (fun _ _ _ => ?_) (fun sp hsp => ?_) (fun _ _ => ?_) (by simp) hb ?_
  · rw [List.append_nil, hfn.1, hrt]
    exact trodAll_mk1 (shut_bool u4 _)
  · rw [List.append_nil, hfn.2]
    refine trodAll_stays laidOut hb (fun t ht => ?_) hA hlt hsp
    have := Array.all_eq_true'.1 hp t (by simpa using ht)
    simpa using this
  · rw [List.append_nil, hfv, hv]; rfl
  · rw [hrt]
    intro j t r hj hr
    match j, hj, hr with
    | 0, hj, hr =>
      simp [Value.resultList] at hj hr
      subst hj; subst hr
      exact okWide_bool_mk u4 _
end
end Go.Proofs.Ytjlicbdnppodgaa
