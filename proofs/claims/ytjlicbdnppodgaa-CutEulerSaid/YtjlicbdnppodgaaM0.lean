import Derived.Test.YtjlicbdnppodgaaS2
import Derived.DeepKeys3
import Derived.Maps.RangeWalk
import Derived.WideKeyEntry
namespace Go.Proofs.Ytjlicbdnppodgaa
open Go.RowKit
open Go.Maps (Keyed)
/-! A map in memory, as a function. -/
theorem idx_key {l : List MapEntry} (h : l.Pairwise (fun x y => x.key ≠ y.key)) {i j : Nat} {x y : MapEntry} (hi : l[i]? = some x) (hj : l[j]? = some y) (e : x.key = y.key) : i = j := by
  obtain ⟨l1, b1⟩ := List.getElem?_eq_some_iff.1 hi
  obtain ⟨l2, b2⟩ := List.getElem?_eq_some_iff.1 hj
  rw [List.pairwise_iff_getElem] at h
  rcases Nat.lt_trichotomy i j with h1 | h1 | h1
  · exact absurd (by rw [b1, b2, e]) (h i j l1 l2 h1)
  · exact h1
  · exact absurd (by rw [b1, b2, e]) (h j i l2 l1 h1)
set_option linter.unusedSectionVars false
section
variable {α β : Type} [DecidableEq α] {P : Program} {k : TypeId} {kv : α → Value} {vv : β → Value}
structure Holds (P : Program) (k : TypeId) (kv : α → Value) (vv : β → Value) (f : α → Option β) (es : Array MapEntry) (clock : Nat) : Prop where
  st : MapKept.Stamped es clock
  en : ∀ x ∈ es.toList, ∃ p v l, keyOf P k (kv p) = some l ∧ x.key = kv p ∧ x.val = vv v ∧ f p = some v
  al : ∀ p v, f p = some v → ∃ x ∈ es.toList, x.key = kv p
def MapIs (P : Program) (k : TypeId) (kv : α → Value) (vv : β → Value) (b : Nat) (f : α → Option β) (W : World) : Prop := ∃ es clock, W.heap[b]? = some (.map es clock) ∧ Holds P k kv vv f es clock
def setO (f : α → Option β) (p : α) (v : β) : α → Option β := fun q => if q = p then some v else f q
theorem MapIs.lt {b : Nat} {f : α → Option β} {W : World} (h : MapIs P k kv vv b f W) : b < W.heap.size := by
  obtain ⟨es, clock, h, -⟩ := h
  exact (Array.getElem?_eq_some_iff.1 h).1
theorem MapIs.of {b : Nat} {f : α → Option β} {W W' : World} (h : MapIs P k kv vv b f W) (e : W'.heap[b]? = W.heap[b]?) : MapIs P k kv vv b f W' := by
  obtain ⟨es, clock, h1, h2⟩ := h
  exact ⟨es, clock, e.trans h1, h2⟩
theorem MapIs.next {b : Nat} {f : α → Option β} {W W' : World} (h : MapIs P k kv vv b f W) (hb : Below W.heap.size W W') : MapIs P k kv vv b f W' := h.of (hb.block b h.lt)
theorem MapIs.grown {b : Nat} {f : α → Option β} {W W' : World} {row : Option Nat} (h : MapIs P k kv vv b f W) (hg : W.grownBy W' row) (hr : some b ≠ row) : MapIs P k kv vv b f W' := h.of (hg.block b h.lt hr)
theorem MapIs.made (P : Program) (k : TypeId) (kv : α → Value) (vv : β → Value) (W : World) : MapIs P k kv vv W.heap.size (fun _ => none) (W.alloc (.map #[] 0)) :=
  ⟨#[], 0, heap_alloc_new _ _, ⟨MapKept.stamped_empty 0, by simp, fun _ _ h => by cases h⟩⟩
theorem MapIs.eq {b : Nat} {f g : α → Option β} {W : World} (h : MapIs P k kv vv b f W) (e : ∀ p, f p = g p) : MapIs P k kv vv b g W := by
  obtain rfl : f = g := funext e
  exact h
theorem Holds.keys {f : α → Option β} {es : Array MapEntry} {clock : Nat} (h : Holds P k kv vv f es clock) : ∀ x ∈ es.toList, ∃ l, keyOf P k x.key = some l := fun x hx => by
  obtain ⟨p, v, l, h1, h2, -⟩ := h.en x hx
  exact ⟨l, by rw [h2]; exact h1⟩
/-- What a look-up finds. -/
theorem Holds.find {f : α → Option β} {es : Array MapEntry} {clock : Nat} (h : Holds P k kv vv f es clock) (K : Keyed P k) (hi : ∀ p q, kv p = kv q → p = q) {p : α} {l : Lit} (hkey : keyOf P k (kv p) = some l) :
    (f p = none ∧ (∀ w : World, (Instr.findKey k (kv p) es.toList).run P w = .ok none w) ∧ ∀ x ∈ es.toList, x.key ≠ kv p) ∨
    ∃ j e0 v, f p = some v ∧ (∀ w : World, (Instr.findKey k (kv p) es.toList).run P w = .ok (some (j, e0.val)) w) ∧ es.toList[j]? = some e0 ∧ e0.key = kv p ∧ e0.val = vv v := by
  cases hf : f p with
  | none =>
    have hn : ∀ x ∈ es.toList, x.key ≠ kv p := fun x hx e => by
      obtain ⟨q, v, l', -, h2, -, h4⟩ := h.en x hx
      rw [h2] at e
      rw [hi _ _ e, hf] at h4
      cases h4
    refine .inl ⟨rfl, fun w => ?_, hn⟩
    rcases K.find w hkey es.toList h.keys with ⟨h1, -⟩ | ⟨j, e0, h1, h2, h3⟩
    · exact h1
    · exact absurd h3 (hn e0 (List.mem_of_getElem? h2))
  | some v =>
    obtain ⟨x, hx, hxk⟩ := h.al p v hf
    rcases K.find default hkey es.toList h.keys with ⟨-, h2⟩ | ⟨j, e0, h1, h2, h3⟩
    · exact absurd hxk (h2 x hx)
    · obtain ⟨q, v', l', -, g2, g3, g4⟩ := h.en e0 (List.mem_of_getElem? h2)
      rw [g2] at h3
      have hq := hi _ _ h3
      subst hq
      rw [hf] at g4
      injection g4 with g4
      subst g4
      refine .inr ⟨j, e0, v, rfl, fun w => ?_, h2, g2, g3⟩
      rcases K.find w hkey es.toList h.keys with ⟨-, h2'⟩ | ⟨j', e1, h1', h2', h3'⟩
      · exact absurd hxk (h2' x hx)
      · rw [h1']
        have hst := (MapKept.stamped_iff es clock).1 h.st
        have hje : e1 = e0 := entry_eq_of_key hst.2.2 (List.mem_of_getElem? h2') (List.mem_of_getElem? h2) (h3'.trans g2.symm)
        subst hje
        have hjj : j' = j := idx_key hst.2.2 h2' h2 rfl
        rw [hjj]
theorem MapIs.look {b : Nat} {f : α → Option β} {W : World} (h : MapIs P k kv vv b f W) (K : Keyed P k) (hi : ∀ p q, kv p = kv q → p = q) {t e : TypeId} (ht : P.underlying t = some (.map k e)) {z : Value} (hz : ∀ u : World, (zeroValue e).run P u = .ok z u) {p : α} {l : Lit} (hkey : keyOf P k (kv p) = some l) :
    (Instr.lookup t (.map (some b)) (kv p) false).run P W = .ok ((f p).elim z vv) W ∧ (Instr.lookup t (.map (some b)) (kv p) true).run P W = .ok (.tuple #[(f p).elim z vv, .bool (f p).isSome]) W := by
  obtain ⟨es, clock, hb, hh⟩ := h
  rcases hh.find K hi hkey with ⟨hf, h1, -⟩ | ⟨j, e0, v, hf, h1, -, -, h3⟩
  · rw [hf]
    constructor <;> simp [Instr.lookup, run_underlying ht, MapKept.run_getObj_map hb, K.check W _ hkey, h1, hz, Result.andThen]
  · rw [hf]
    constructor <;> simp [Instr.lookup, run_underlying ht, MapKept.run_getObj_map hb, K.check W _ hkey, h1, h3, Result.andThen]
theorem grown_set {W : World} {b : Nat} {es : Array MapEntry} {clock : Nat} (hb : W.heap[b]? = some (.map es clock)) (ob : Obj) : W.grownBy (ChangeMaps.setBlock W b ob) (some b) ∧ (ChangeMaps.setBlock W b ob).heap.size = W.heap.size ∧ (ChangeMaps.setBlock W b ob).heap[b]? = some ob :=
  ⟨⟨rfl, rfl, rfl, by simp [ChangeMaps.setBlock], fun i _ hi => ChangeMaps.heap_setBlock_other hb _ (fun e => hi (by rw [e]))⟩, by simp [ChangeMaps.setBlock], ChangeMaps.heap_setBlock_same hb _⟩
theorem Holds.push {f : α → Option β} {es : Array MapEntry} {clock : Nat} (h : Holds P k kv vv f es clock) {p : α} {l : Lit} (hkey : keyOf P k (kv p) = some l) (hn : ∀ x ∈ es.toList, x.key ≠ kv p) (v : β) : Holds P k kv vv (setO f p v) (es.push ⟨kv p, vv v, clock⟩) (clock + 1) := by
  refine ⟨MapKept.stamped_push h.st hn, fun x hx => ?_, fun q u hq => ?_⟩
  · simp only [Array.toList_push, List.mem_append, List.mem_singleton] at hx
    rcases hx with hx | rfl
    · obtain ⟨q, v', l', h1, h2, h3, h4⟩ := h.en x hx
      refine ⟨q, v', l', h1, h2, h3, ?_⟩
      unfold setO
      rw [if_neg (fun e => hn x hx (by rw [h2, e])), h4]
    · exact ⟨p, v, l, hkey, rfl, rfl, by unfold setO; rw [if_pos rfl]⟩
  · unfold setO at hq
    by_cases e : q = p
    · exact ⟨⟨kv p, vv v, clock⟩, by simp, by rw [e]⟩
    · rw [if_neg e] at hq
      obtain ⟨x, hx, h2⟩ := h.al q u hq
      exact ⟨x, by simp [hx], h2⟩
theorem Holds.turn {f : α → Option β} {es : Array MapEntry} {clock : Nat} (h : Holds P k kv vv f es clock) (hi : ∀ p q, kv p = kv q → p = q) {p : α} {l : Lit} (hkey : keyOf P k (kv p) = some l) {j : Nat} {e0 : MapEntry} (hj : es.toList[j]? = some e0) (he : e0.key = kv p) (v : β) : Holds P k kv vv (setO f p v) (es.modify j (fun e' => { e' with key := kv p, val := vv v })) clock := by
  have hst := (MapKept.stamped_iff es clock).1 h.st
  refine ⟨MapKept.stamped_modify h.st j _ (fun _ _ => rfl) (fun e _ h1 => by
    rw [← Array.getElem?_toList, hj] at h1
    injection h1 with h1
    rw [← h1, he]), fun x hx => ?_, fun q u hq => ?_⟩
  · rw [Array.toList_modify] at hx
    obtain ⟨i, hil, ex⟩ := List.getElem_of_mem hx
    rw [List.getElem_modify] at ex
    split at ex
    · subst ex
      exact ⟨p, v, l, hkey, rfl, rfl, by unfold setO; rw [if_pos rfl]⟩
    · rename_i hne
      rw [List.length_modify] at hil
      have hm : x ∈ es.toList := by rw [← ex]; exact List.getElem_mem _
      obtain ⟨q, v', l', h1, h2, h3, h4⟩ := h.en x hm
      refine ⟨q, v', l', h1, h2, h3, ?_⟩
      unfold setO
      rw [if_neg (fun e => hne ?_), h4]
      exact idx_key hst.2.2 hj (List.getElem?_eq_some_iff.2 ⟨hil, ex⟩) (by rw [h2, e, he])
  · have hj' : (es.modify j (fun e' => { e' with key := kv p, val := vv v })).toList = es.toList.modify j (fun e' => { e' with key := kv p, val := vv v }) := Array.toList_modify ..
    obtain ⟨l2, b2⟩ := List.getElem?_eq_some_iff.1 hj
    have hin : (⟨kv p, vv v, e0.born⟩ : MapEntry) ∈ es.toList.modify j (fun e' => { e' with key := kv p, val := vv v }) := by
      rw [List.mem_iff_getElem?]
      exact ⟨j, by rw [List.getElem?_modify, hj]; simp⟩
    unfold setO at hq
    by_cases e : q = p
    · exact ⟨⟨kv p, vv v, e0.born⟩, by rw [hj']; exact hin, by rw [e]⟩
    · rw [if_neg e] at hq
      obtain ⟨x, hx, h2⟩ := h.al q u hq
      refine ⟨x, ?_, h2⟩
      rw [hj', List.mem_iff_getElem?]
      obtain ⟨i, hi'⟩ := List.mem_iff_getElem?.1 hx
      refine ⟨i, ?_⟩
      have e3 : j ≠ i := fun e3 => by
        subst e3
        rw [hj] at hi'
        injection hi' with hi'
        subst hi'
        exact e (hi _ _ (h2.symm.trans he))
      rw [List.getElem?_modify, hi']; simp [e3]
theorem MapIs.upd {b : Nat} {f : α → Option β} {W : World} (h : MapIs P k kv vv b f W) (K : Keyed P k) (hi : ∀ p q, kv p = kv q → p = q) {t e : TypeId} (ht : P.underlying t = some (.map k e)) {p : α} {l : Lit} (hkey : keyOf P k (kv p) = some l) (v : β) :
    ∃ W', (Instr.mapUpdate t (.map (some b)) (kv p) (vv v)).run P W = .ok () W' ∧ MapIs P k kv vv b (setO f p v) W' ∧ W.grownBy W' (some b) ∧ W'.heap.size = W.heap.size := by
  obtain ⟨es, clock, hb, hh⟩ := h
  rcases hh.find K hi hkey with ⟨hf, h1, h2⟩ | ⟨j, e0, v0, hf, h1, h2, h3, h4⟩
  · obtain ⟨g1, g2, g3⟩ := grown_set hb (.map (es.push ⟨kv p, vv v, clock⟩) (clock + 1))
    refine ⟨_, ?_, ⟨_, _, g3, hh.push hkey h2 v⟩, g1, g2⟩
    simp [Instr.mapUpdate, run_underlying ht, MapKept.run_getObj_map hb, K.check W false hkey, h1, MapKept.run_setObj_map _ hb, Result.andThen, ChangeMaps.setBlock]
  · obtain ⟨g1, g2, g3⟩ := grown_set hb (.map (es.modify j (fun e' => { e' with key := kv p, val := vv v })) clock)
    have hj : es[j]? = some e0 := by simpa using h2
    refine ⟨_, ?_, ⟨_, _, g3, hh.turn hi hkey h2 h3 v⟩, g1, g2⟩
    simp [Instr.mapUpdate, run_underlying ht, MapKept.run_getObj_map hb, K.check W false hkey, h1, hj, h3, K.stays W hkey, MapKept.run_setObj_map _ hb, Result.andThen, ChangeMaps.setBlock]
/-- The entry of a key, and then what is stored in it. -/
theorem MapIs.entry {b : Nat} {f : α → Option β} {W : World} (h : MapIs P k kv vv b f W) (K : Keyed P k) (hi : ∀ p q, kv p = kv q → p = q) {t e : TypeId} (ht : P.underlying t = some (.map k e)) (z : β) (hz : ∀ u : World, (zeroValue e).run P u = .ok (vv z) u) {p : α} {l : Lit} (hkey : keyOf P k (kv p) = some l) (v : β) :
    ∃ W' x st W2, (Instr.mapEntry t (.map (some b)) (kv p)).run P W = .ok (.tuple #[x, st]) W' ∧ MapIs P k kv vv b (fun q => if q = p then some ((f p).getD z) else f q) W' ∧ W.grownBy W' (some b) ∧ W'.heap.size = W.heap.size ∧
      (Instr.entryStore t (.map (some b)) st (vv v)).run P W' = .ok () W2 ∧ MapIs P k kv vv b (setO f p v) W2 ∧ W'.grownBy W2 (some b) ∧ W2.heap.size = W'.heap.size := by
  obtain ⟨es, clock, hb, hh⟩ := h
  have hst := hh.st
  obtain ⟨s1, s2, -⟩ := hh.st
  rcases hh.find K hi hkey with ⟨hf, h1, h2⟩ | ⟨j, e0, v0, hf, h1, h2, h3, h4⟩
  · obtain ⟨g1, g2, g3⟩ := grown_set hb (.map (es.push ⟨kv p, vv z, clock⟩) (clock + 1))
    have e1 : (Instr.mapEntry t (.map (some b)) (kv p)).run P W = .ok (.tuple #[vv z, goInt clock]) (ChangeMaps.setBlock W b (.map (es.push ⟨kv p, vv z, clock⟩) (clock + 1))) := by
      simp [Instr.mapEntry, run_underlying ht, MapKept.run_getObj_map hb, K.check W false hkey, h1, hz, MapKept.run_setObj_map _ hb, Result.andThen, ChangeMaps.setBlock]
    generalize ChangeMaps.setBlock W b (.map (es.push ⟨kv p, vv z, clock⟩) (clock + 1)) = W1 at *
    obtain ⟨q1, q2, q3⟩ := grown_set g3 (.map (es.push ⟨kv p, vv v, clock⟩) (clock + 1))
    have hp := hh.push hkey h2 z
    refine ⟨W1, vv z, goInt clock, _, e1, ⟨_, _, g3, ?_⟩, g1, g2, ?_, ⟨_, _, q3, hh.push hkey h2 v⟩, q1, q2⟩
    · have hfe : (fun q => if q = p then some ((f p).getD z) else f q) = setO f p z := by
        funext q
        rw [hf]; rfl
      rw [hfe]
      exact hp
    · have hidx : (es.push ⟨kv p, vv z, clock⟩).findIdx? (fun e => ((e.born : Nat) : Int) == ((clock : Nat) : Int)) = some es.size := by
        rw [WideElems.findIdx_arr]
        have := WideElems.findIdx_born (l := (es.push ⟨kv p, vv z, clock⟩).toList) (j := es.size) (e0 := ⟨kv p, vv z, clock⟩) hp.st.2.1 (by simp)
        exact this
      have hmod : (es.push ⟨kv p, vv z, clock⟩).modify es.size (fun e => { e with val := vv v }) = es.push ⟨kv p, vv v, clock⟩ := by
        apply Array.ext'
        rw [Array.toList_modify, Array.toList_push, Array.toList_push, ← Array.length_toList, WideElems.modify_last]
      simp [Instr.entryStore, MapKept.run_getObj_map g3, asInt, asIntOf, goInt, hidx, hmod, MapKept.run_setObj_map _ g3, Result.andThen, ChangeMaps.setBlock]
  · have hj : es[j]? = some e0 := by simpa using h2
    have hsame : es.modify j (fun e => { e with key := kv p }) = es := by
      apply Array.ext'
      rw [Array.toList_modify, ChangeMaps.modify_eq_set _ _ _ _ h2]
      have : ({ e0 with key := kv p } : MapEntry) = e0 := by rw [← h3]
      rw [this]
      exact WideElems.set_self _ _ _ h2
    obtain ⟨g1, g2, g3⟩ := grown_set hb (.map es clock)
    have e1 : (Instr.mapEntry t (.map (some b)) (kv p)).run P W = .ok (.tuple #[vv v0, goInt e0.born]) (ChangeMaps.setBlock W b (.map es clock)) := by
      simp [Instr.mapEntry, run_underlying ht, MapKept.run_getObj_map hb, K.check W false hkey, h1, hj, h3, h4, K.stays W hkey, hsame, MapKept.run_setObj_map _ hb, Result.andThen, ChangeMaps.setBlock]
    generalize ChangeMaps.setBlock W b (.map es clock) = W1 at *
    obtain ⟨q1, q2, q3⟩ := grown_set g3 (.map (es.modify j (fun e' => { e' with key := kv p, val := vv v })) clock)
    refine ⟨W1, vv v0, goInt e0.born, _, e1, ⟨_, _, g3, ?_⟩, g1, g2, ?_, ⟨_, _, q3, hh.turn hi hkey h2 h3 v⟩, q1, q2⟩
    · have hfe : (fun q => if q = p then some ((f p).getD z) else f q) = f := by
        funext q
        by_cases e : q = p
        · rw [if_pos e, e, hf]; rfl
        · rw [if_neg e]
      rw [hfe]
      exact hh
    · have hidx : es.findIdx? (fun e => ((e.born : Nat) : Int) == ((e0.born : Nat) : Int)) = some j := by
        rw [WideElems.findIdx_arr]
        exact WideElems.findIdx_born s2 h2
      have hmod : es.modify j (fun e => { e with val := vv v }) = es.modify j (fun e' => { e' with key := kv p, val := vv v }) := by
        apply Array.ext'
        rw [Array.toList_modify, Array.toList_modify, ChangeMaps.modify_eq_set _ _ _ _ h2, ChangeMaps.modify_eq_set _ _ _ _ h2, ← h3]
      simp [Instr.entryStore, MapKept.run_getObj_map g3, asInt, asIntOf, goInt, hidx, hmod, MapKept.run_setObj_map _ g3, Result.andThen, ChangeMaps.setBlock]
/-! A range over a map. -/
def RangeIs (P : Program) (k : TypeId) (kv : α → Value) (vv : β → Value) (b r : Nat) (f : α → Option β) (done : α → Bool) (cnt : Nat) (W : World) : Prop :=
  ∃ es clock since seen c0, W.heap[b]? = some (.map es clock) ∧ Holds P k kv vv f es clock ∧ W.heap[r]? = some (.mapIter (some b) since seen c0) ∧ (∀ x ∈ es.toList, x.born < since) ∧ since ≤ c0 ∧ since ≤ clock ∧ (leftOf es seen).size = cnt ∧
    (∀ x ∈ es.toList, ∀ p, x.key = kv p → done p = seen.contains x.born) ∧ (∀ p, done p = true → (f p).isSome = true)
theorem RangeIs.map {b r cnt : Nat} {f : α → Option β} {done : α → Bool} {W : World} (h : RangeIs P k kv vv b r f done cnt W) : MapIs P k kv vv b f W := by
  obtain ⟨es, clock, since, seen, c0, h1, h2, -⟩ := h
  exact ⟨es, clock, h1, h2⟩
theorem RangeIs.rlt {b r cnt : Nat} {f : α → Option β} {done : α → Bool} {W : World} (h : RangeIs P k kv vv b r f done cnt W) : r < W.heap.size := by
  obtain ⟨es, clock, since, seen, c0, h1, h2, h3, -⟩ := h
  exact (Array.getElem?_eq_some_iff.1 h3).1
theorem RangeIs.ne {b r cnt : Nat} {f : α → Option β} {done : α → Bool} {W : World} (h : RangeIs P k kv vv b r f done cnt W) : b ≠ r := by
  obtain ⟨es, clock, since, seen, c0, h1, h2, h3, -⟩ := h
  intro e
  rw [e, h3] at h1
  cases h1
theorem RangeIs.of {b r cnt : Nat} {f : α → Option β} {done : α → Bool} {W W' : World} (h : RangeIs P k kv vv b r f done cnt W) (e1 : W'.heap[b]? = W.heap[b]?) (e2 : W'.heap[r]? = W.heap[r]?) : RangeIs P k kv vv b r f done cnt W' := by
  obtain ⟨es, clock, since, seen, c0, h1, h2, h3, h4⟩ := h
  exact ⟨es, clock, since, seen, c0, e1.trans h1, h2, e2.trans h3, h4⟩
theorem RangeIs.next_ {b r cnt : Nat} {f : α → Option β} {done : α → Bool} {W W' : World} (h : RangeIs P k kv vv b r f done cnt W) (hb : Below W.heap.size W W') : RangeIs P k kv vv b r f done cnt W' := h.of (hb.block b h.map.lt) (hb.block r h.rlt)
theorem RangeIs.grown {b r cnt : Nat} {f : α → Option β} {done : α → Bool} {W W' : World} {row : Option Nat} (h : RangeIs P k kv vv b r f done cnt W) (hg : W.grownBy W' row) (h1 : some b ≠ row) (h2 : some r ≠ row) : RangeIs P k kv vv b r f done cnt W' := h.of (hg.block b h.map.lt h1) (hg.block r h.rlt h2)
theorem MapIs.range {b : Nat} {f : α → Option β} {W : World} (h : MapIs P k kv vv b f W) {t e : TypeId} (ht : P.underlying t = some (.map k e)) :
    ∃ W' cnt, (Instr.range t (.map (some b))).run P W = .ok (.pointer (some ⟨W.heap.size, 0, none⟩)) W' ∧ RangeIs P k kv vv b W.heap.size f (fun _ => false) cnt W' ∧ Below W.heap.size W W' ∧ W'.heap.size = W.heap.size + 1 := by
  have hlt := h.lt
  obtain ⟨es, clock, hb, hh⟩ := h
  refine ⟨_, _, run_range_map W t k e b es clock ht hb, ⟨es, clock, clock, #[], clock, (heap_alloc_old W _ hlt).trans hb, hh, heap_alloc_new _ _, hh.st.1, Nat.le_refl _, Nat.le_refl _, rfl, fun x _ p _ => by simp, fun p h => by cases h⟩, nxA _ _, by simp⟩
theorem RangeIs.step {b r cnt : Nat} {f : α → Option β} {done : α → Bool} {W : World} (h : RangeIs P k kv vv b r f done cnt W) (hi : ∀ p q, kv p = kv q → p = q) (ty : TypeId) :
    (cnt = 0 ∧ (∀ p, done p = (f p).isSome) ∧ (Instr.next (.pointer (some ⟨r, 0, none⟩)) false ty).run P W = .ok (.tuple #[.bool false]) W) ∨
    ∃ p v W' cnt', f p = some v ∧ done p = false ∧ (∃ l, keyOf P k (kv p) = some l) ∧ (Instr.next (.pointer (some ⟨r, 0, none⟩)) false ty).run P W = .ok (.tuple #[.bool true, kv p, vv v]) W' ∧ RangeIs P k kv vv b r f (fun q => done q || decide (q = p)) cnt' W' ∧ cnt' < cnt ∧
      W.grownBy W' (some r) ∧ W'.heap.size = W.heap.size ∧ (Instr.entry (.pointer (some ⟨r, 0, none⟩))).run P W' = .ok (.tuple #[kv p, vv v]) W' := by
  have hne := h.ne
  obtain ⟨es, clock, since, seen, c0, hb, hh, hr, hold, hsc, hsk, rfl, hd, hd2⟩ := h
  rcases run_next_at (P := P) W ty r b since c0 seen es clock hr hb hold hsc with ⟨h0, hrun⟩ | ⟨e, he, w1, hal, hrun⟩
  · refine .inl ⟨h0, fun p => ?_, hrun⟩
    cases hf : f p with
    | none =>
      cases hdp : done p with
      | false => rfl
      | true =>
        have := hd2 p hdp
        rw [hf] at this
        cases this
    | some v =>
      obtain ⟨x, hx, hk⟩ := hh.al p v hf
      rw [hd x hx p hk]
      exact all_seen es seen h0 x hx
  · obtain ⟨hem, hes⟩ := mem_left he
    obtain ⟨p, v, l, h1, h2, h3, h4⟩ := hh.en e hem
    have hst := (MapKept.stamped_iff es clock).1 hh.st
    have hr1 : w1.heap[r]? = some (.mapIter (some b) since seen c0) := by rcases hal with rfl | rfl <;> exact hr
    have hb1 : w1.heap[b]? = some (.map es clock) := by rcases hal with rfl | rfl <;> exact hb
    have hset := MapKept.heap_set (o' := .mapIter (some b) since (seen.push e.born) clock) hr1
    have hb' : (ChangeMaps.setBlock w1 r (.mapIter (some b) since (seen.push e.born) clock)).heap[b]? = some (.map es clock) := (hset.2 b hne).trans hb1
    rw [h2, h3] at hrun
    have hen := run_entry_at (P := P) _ r b since seen es clock e hset.1 hb' hem hst.2.1
    rw [h2, h3] at hen
    refine .inr ⟨p, v, _, _, h4, by rw [hd e hem p h2, hes], ⟨l, h1⟩, hrun, ⟨es, clock, since, seen.push e.born, clock, hb', hh, hset.1, hold, hsk, hsk, rfl, fun x hx q hq => ?_, fun q hq => ?_⟩, left_shrinks es seen e he, ?_, ?_, hen⟩
    · show (done q || decide (q = p)) = _
      rw [hd x hx q hq, contains_push]
      by_cases e1 : q = p
      · subst e1
        have : x = e := entry_eq_of_key hst.2.2 hx hem (hq.trans h2.symm)
        subst this
        simp
      · have hxb : (x.born == e.born) = false := by
          cases hc : x.born == e.born with
          | false => rfl
          | true =>
            have := born_inj hst.2.1 hx hem (by simpa using hc)
            subst this
            exact absurd (hi _ _ (hq.symm.trans h2)) e1
        simp [e1, hxb]
    · simp only [Bool.or_eq_true, decide_eq_true_eq] at hq
      rcases hq with hq | rfl
      · exact hd2 q hq
      · rw [h4]; rfl
    · rcases hal with rfl | rfl <;> exact ⟨rfl, rfl, rfl, by simp [ChangeMaps.setBlock], fun i _ hi => hset.2 i (fun e1 => hi (by rw [e1]))⟩
    · rcases hal with rfl | rfl <;> simp [ChangeMaps.setBlock]
end
end Go.Proofs.Ytjlicbdnppodgaa
