import Derived.Test.YtjlicbdnppodgaaS2
namespace Go.Proofs.Ytjlicbdnppodgaa
open Go.RowKit
/-! To append a list that some call handed back, of no element too, to a slice of one's own. -/
theorem wpList_append_list {α : Type} {cells : α → List Value} {P : Program} {w : World} {ops : Array Oper} {rest : List Oper} {o : Oper} {a : Act} {Q : Exit → Act → World → Prop} (hgd : o.guard = none) (s x : Operand) (t : TypeId)
    (ho : o.op = .call { callee := .builtin .append, args := #[s, x], argTypes := #[t, t] })
    (base : Nat) (e : TypeId) (i : TypeInfo) (z : Value) (size bytes : Nat) (ht : P.underlying t = some (.slice e)) (hi : P.info? e = some i) (hz : i.zero = some z)
    (hsize : i.size = size) (hby : i.bytes = bytes) (hzs : z.cells.size = size) (hsz : 0 < size) (hcs : ∀ y, (cells y).length = size) (h1 : ∀ y, ∀ u ∈ cells y, u.oneCell' = true)
    (v : Value) (n : Nat) (xs : List Value) (hs : a.eval s = v) (hown : w.ownsRow base e size v n xs) (hn : 1 ≤ n)
    (A : Option Addr) (l : List α) (c B : Nat) (hx : a.eval x = .slice A l.length c) (hat : At w B size cells A l)
    (h63 : n + l.length ≤ maxLen) (hbytes : (n + l.length) * bytes ≤ 140737488355328) (hbase : base ≤ w.heap.size)
    (h : ∀ v' w', w'.ownsRow base e size v' (n + l.length) (xs ++ l.flatMap cells) → w.grownBy w' v.ownBlock → wpList P ops Q rest (a.put o.dst v') w') : wpList P ops Q (o :: rest) a w := by
  rcases at_split hcs hat with ⟨rfl, rfl⟩ | ⟨ad, rfl, hcell⟩
  · refine wpList_plain hgd fun K hK => ?_
    obtain ⟨g, cap, rfl, hb, hlt⟩ := hown.form (by omega)
    have hcap : n ≤ cap := by
      rcases hown.2 with ⟨e1, _⟩ | ⟨g', cap', cur, e1, _, hh, hnc, _⟩
      · cases e1
      · injection e1 with _ _ e2
        omega
    have hr : (Builtin.append_ #[t, t] o.type #[.slice (some ⟨g, 0, none⟩) n cap, .slice none 0 c]).run P w = .ok (.slice (some ⟨g, 0, none⟩) n cap) w := by
      simp [Builtin.append_, run_underlying ht, sizeOf, typeInfo, hi, Builtin.lenOf, Builtin.firstCells, loadCells, storeCells, hcap]
    unfold Oper.wp execOp
    have hx' : a.eval x = .slice none 0 c := hx
    simp only [ho, resolve, invoke, builtin, Sem.run_bind, Sem.run_pure, Result.andThen_ok, List.map_toArray, List.map_cons, List.map_nil, hs, hx', hr]
    refine hK _ _ (h _ _ ?_ (World.grownBy.refl _ _))
    simpa using hown
  · refine wpList_append_own w hgd s x t ho base e i z size bytes ht hi hz hsize hby hzs hsz v n xs hs hown ad l.length c (l.flatMap cells) hx (flat_len hcs l) (hcell w B hat) (fun u hu => ?_) h63 hbytes hbase (fun v' w' h2 h3 _ => h v' w' h2 h3)
    obtain ⟨y, -, hy⟩ := List.mem_flatMap.1 hu
    exact h1 y u hy
end Go.Proofs.Ytjlicbdnppodgaa
