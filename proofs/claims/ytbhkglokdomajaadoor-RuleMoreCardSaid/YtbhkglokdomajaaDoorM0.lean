import Derived.Test.YtbhkglokdomajaaDoorP4
import Derived.DeepKeys3
import Derived.Maps.OwnOps
namespace Go.Proofs.YtbhkglokdomajaaDoor
open Go.RowKit
open Go.Maps (Keyed)
/-! A map of what is known: each entry's value is right for its key. -/
def Memo (P : Program) (k : TypeId) (ok : Value → Value → Prop) (b : Nat) (W : World) : Prop := ∃ es clock, W.heap[b]? = some (.map es clock) ∧ ∀ x ∈ es.toList, (∃ l, keyOf P k x.key = some l) ∧ ok x.key x.val
theorem Memo.lt {P : Program} {k : TypeId} {ok : Value → Value → Prop} {b : Nat} {W : World} (h : Memo P k ok b W) : b < W.heap.size := by
  obtain ⟨es, clock, h, -⟩ := h
  exact (Array.getElem?_eq_some_iff.1 h).1
theorem Memo.imp {P : Program} {k : TypeId} {ok ok' : Value → Value → Prop} {b : Nat} {W W' : World} (h : Memo P k ok b W) (hb : W'.heap[b]? = W.heap[b]?) (hi : ∀ x v, ok x v → ok' x v) : Memo P k ok' b W' := by
  obtain ⟨es, clock, h1, h2⟩ := h
  exact ⟨es, clock, hb.trans h1, fun x hx => ⟨(h2 x hx).1, hi _ _ (h2 x hx).2⟩⟩
theorem Memo.made (P : Program) (k : TypeId) (ok : Value → Value → Prop) (W : World) : Memo P k ok W.heap.size (W.alloc (.map #[] 0)) := ⟨#[], 0, heap_alloc_new _ _, by simp⟩
section
variable {P : Program} {ops : Array Oper} {rest : List Oper} {o : Oper} {a : Act} {Q : Exit → Act → World → Prop}
theorem wpList_lookup_memo (w : World) (hg : o.guard = none) (m x : Operand) (t : TypeId) (hop : o.op = Op.lookup t m x true)
    (k e : TypeId) (K : Keyed P k) (ht : P.underlying t = some (.map k e)) (z : Value) (hz : (zeroValue e).run P w = .ok z w) (b : Nat) (ok : Value → Value → Prop)
    (hm : a.eval m = .map (some b)) (hown : Memo P k ok b w) (key : Value) (kl : Lit) (hx : a.eval x = key) (hkey : keyOf P k key = some kl)
    (hK0 : wpList P ops Q rest (a.put o.dst (.tuple #[z, .bool false])) w) (hK1 : ∀ v, ok key v → wpList P ops Q rest (a.put o.dst (.tuple #[v, .bool true])) w) :
    wpList P ops Q (o :: rest) a w := by
  refine wpList_plain hg fun K' hK' => ?_
  obtain ⟨es, clock, hb, hall⟩ := hown
  rcases K.find w hkey es.toList (fun x hx => (hall x hx).1) with ⟨h1, h2⟩ | ⟨j, e0, h1, h2, h3⟩
  · have hrun : (Instr.lookup t (.map (some b)) key true).run P w = .ok (.tuple #[z, .bool false]) w := by
      simp [Instr.lookup, run_underlying ht, MapKept.run_getObj_map hb, K.check w _ hkey, h1, hz, Result.andThen]
    unfold Oper.wp
    simp [execOp, hop, hm, hx, hrun, Result.andThen]
    exact hK' _ _ hK0
  · have hm0 : e0 ∈ es.toList := List.mem_of_getElem? h2
    have hrun : (Instr.lookup t (.map (some b)) key true).run P w = .ok (.tuple #[e0.val, .bool true]) w := by
      simp [Instr.lookup, run_underlying ht, MapKept.run_getObj_map hb, K.check w _ hkey, h1, Result.andThen]
    have hok := (hall e0 hm0).2
    rw [h3] at hok
    unfold Oper.wp
    simp [execOp, hop, hm, hx, hrun, Result.andThen]
    exact hK' _ _ (hK1 _ hok)
theorem wpList_update_memo (w : World) (hg : o.guard = none) (m x v : Operand) (t : TypeId) (hop : o.op = Op.mapUpdate t m x v)
    (k e : TypeId) (K : Keyed P k) (ht : P.underlying t = some (.map k e)) (b : Nat) (ok : Value → Value → Prop)
    (hm : a.eval m = .map (some b)) (hown : Memo P k ok b w) (key val : Value) (kl : Lit) (hx : a.eval x = key) (hv : a.eval v = val) (hkey : keyOf P k key = some kl) (hval : ok key val)
    (hK : ∀ w', Memo P k ok b w' → w.grownBy w' (some b) → wpList P ops Q rest (a.put o.dst undef) w') :
    wpList P ops Q (o :: rest) a w := by
  refine wpList_plain hg fun K' hK' => ?_
  obtain ⟨es, clock, hb, hall⟩ := hown
  have hbl := (Array.getElem?_eq_some_iff.1 hb).1
  have hgrow : ∀ ob : Obj, w.grownBy (ChangeMaps.setBlock w b ob) (some b) := fun ob => ⟨rfl, rfl, rfl, by simp [ChangeMaps.setBlock], fun i _ hi => ChangeMaps.heap_setBlock_other hb _ (fun e => hi (by rw [e]))⟩
  rcases K.find w hkey es.toList (fun x hx => (hall x hx).1) with ⟨h1, h2⟩ | ⟨j, e0, h1, h2, h3⟩
  · have hrun : (Instr.mapUpdate t (.map (some b)) key val).run P w = .ok () (ChangeMaps.setBlock w b (.map (es.push ⟨key, val, clock⟩) (clock + 1))) := by
      simp [Instr.mapUpdate, run_underlying ht, MapKept.run_getObj_map hb, K.check w false hkey, h1, MapKept.run_setObj_map _ hb, Result.andThen, ChangeMaps.setBlock]
    unfold Oper.wp
    simp [execOp, hop, hm, hx, hv, hrun, Result.andThen]
    refine hK' _ _ (hK _ ⟨_, _, ChangeMaps.heap_setBlock_same hb _, fun x hx' => ?_⟩ (hgrow _))
    simp only [Array.toList_push, List.mem_append, List.mem_singleton] at hx'
    rcases hx' with hx' | rfl
    · exact hall x hx'
    · exact ⟨⟨_, hkey⟩, hval⟩
  · have hj : es[j]? = some e0 := by simpa using h2
    have hrun : (Instr.mapUpdate t (.map (some b)) key val).run P w = .ok () (ChangeMaps.setBlock w b (.map (es.modify j (fun e' => { e' with key := key, val := val })) clock)) := by
      simp [Instr.mapUpdate, run_underlying ht, MapKept.run_getObj_map hb, K.check w false hkey, h1, hj, h3, K.stays w hkey, MapKept.run_setObj_map _ hb, Result.andThen, ChangeMaps.setBlock]
    unfold Oper.wp
    simp [execOp, hop, hm, hx, hv, hrun, Result.andThen]
    refine hK' _ _ (hK _ ⟨_, _, ChangeMaps.heap_setBlock_same hb _, fun x hx' => ?_⟩ (hgrow _))
    rw [Array.toList_modify] at hx'
    obtain ⟨i, hi, ex⟩ := List.getElem_of_mem hx'
    rw [List.getElem_modify] at ex
    split at ex
    · subst ex
      exact ⟨⟨_, hkey⟩, hval⟩
    · subst ex
      exact hall _ (List.getElem_mem _)
end
end Go.Proofs.YtbhkglokdomajaaDoor
