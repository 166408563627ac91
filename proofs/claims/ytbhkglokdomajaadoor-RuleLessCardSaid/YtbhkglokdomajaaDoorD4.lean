import Derived.Test.YtbhkglokdomajaaDoorD1
namespace Go.Proofs.YtbhkglokdomajaaDoor
open Go.ChangeShapes Go.WideShapes Go.RowKit Go.Deep
/-! Of a die and of stints that came in: no slice is longer than its room. -/
section
variable {H : Type} {enc : TypeId × Value → H} {w : World}
theorem slice_cap {t e : TypeId} {n n' c : Nat} {A : Option Addr} (ht : Tryd.prog.underlying t = some (.slice e)) (h : Rd enc w n t [.slice A n' c]) : n' ≤ c := by
  obtain ⟨y, hy⟩ := h
  rcases open_slice ht hy with ⟨e1, -⟩ | ⟨a, len, cap, m, n1, D, Pl, e1, hb, hl, hm, hmm, -, hi⟩
  · injection e1 with e1
    injection e1 with _ e2 e3
    omega
  · injection e1 with e1
    injection e1 with _ e2 e3
    omega
set_option maxRecDepth 100000 in
theorem die_cap {s : Die} {d : DataW H} {ps : List MemPlace} (h : DataW.Trod enc Tryd.prog w 0 (fun _ => true) true 24 (.agg #[.slice s.A s.blades.length s.c, .int .i64 s.bound, .int .i64 s.stop, .int .i64 s.bend]) d ps) : s.blades.length ≤ s.c := by
  obtain ⟨fuel, hf⟩ := h
  obtain ⟨-, m, hf⟩ := rd_fields uDie (⟨_, hf⟩ : Rd enc w fuel 24 [.slice s.A s.blades.length s.c, .int .i64 s.bound, .int .i64 s.stop, .int .i64 s.bend])
  exact slice_cap sBlades (by have := hf 0 0 22 (by kernel_rfl); rw [kBlades] at this; exact this : Rd enc w m 22 [.slice s.A s.blades.length s.c])
set_option maxRecDepth 100000 in
theorem stints_cap {A : Option Addr} {n c : Nat} {d : DataW H} {ps : List MemPlace} (h : DataW.Trod enc Tryd.prog w 0 (fun _ => true) true 33 (.slice A n c) d ps) : n ≤ c := by
  obtain ⟨fuel, hf⟩ := h
  exact slice_cap sStints (⟨_, hf⟩ : Rd enc w fuel 33 [.slice A n c])
end
end Go.Proofs.YtbhkglokdomajaaDoor
