import Derived.Test.YtfffhbolaimmdaaDoorP6
namespace Go.Proofs.YtfffhbolaimmdaaDoor
open Go.RowKit
theorem heap_alloc_new' {w : World} {o : Obj} {k : Nat} (h : k = w.heap.size) : (w.alloc o).heap[k]? = some o := by subst h; exact heap_alloc_new w o
theorem results_tmp_cell {fn : Func} {t p : Tmp} {ty : TypeId} (h : fn.results = #[.tmp t, .cell p ty]) {tmps : Array Value} {P : Program} {w : World} {a : Addr} {v : Value} (hp : tmps.getD p undef = .pointer (some a)) (hv : (loadVar ty a).run P w = .ok v w) :
    (results fn tmps).run P w = .ok (.tuple #[tmps.getD t undef, v]) w := by
  have hp' : tmps[p]?.getD undef = .pointer (some a) := by simpa using hp
  simp [results, h, hp', asAddr, hv, Result.andThen]
set_option maxHeartbeats 400000 in
theorem licence_any (s : Store) (i : Nat) (w : World) (ok : Ok s) (hi : i < s.wishes.length) (hr : StoreAt w w.heap.size s) :
    Calls Tryd.prog 67 #[.agg #[.slice s.A1 s.sheets.length s.c1, .slice s.A2 s.lics.length s.c2, .slice s.A3 s.makes.length s.c3, .slice s.A4 s.wishes.length s.c4], .agg #[.int .i64 (wishAt s i).puz, .int .i64 (wishAt s i).many, .int .i64 (wishAt s i).hour, .int .i64 (wishAt s i).price, .int .i64 (wishAt s i).ship]] w
      (Ret (.tuple #[.int .i64 (makeAt s i).pic, .agg #[.int .i64 (licAt s i).copies, .int .i64 (licAt s i).lo, .int .i64 (licAt s i).hi, .int .i64 (licAt s i).fee]]) w) := by
  have l2 := hr.l2
  have l3 := hr.l3
  obtain ⟨bm, om, em, hbm, m0, m1⟩ := hr.makeC ok hi
  obtain ⟨bl, ol, el, hbl, q0, q1, q2, q3⟩ := hr.licC ok hi
  have hp := ok.puz hi
  have hp0 := ok.wishOk hi
  have hm := ok.make _ (makeAt_mem ok hi)
  have g0 : 0 ≤ (wishAt s i).puz := hp0.1
  have g1 : 0 ≤ (makeAt s i).pic := hm.1
  have g2 : (makeAt s i).pic.toNat < s.lics.length := by omega
  have g3 : (wishAt s i).puz < s.makes.length := hp0.2.1
  have g4 : (makeAt s i).pic < s.lics.length := hm.2.1
  have hbm1 : bm < w.heap.size + 1 := by omega
  have hbm2 : bm < w.heap.size + 1 + 1 := by omega
  have hbl1 : bl < w.heap.size + 1 := by omega
  have hbl2 : bl < w.heap.size + 1 + 1 := by omega
  clear hr ok hm hp0
  go_enter Tryd.func67, Tryd.ntmps67
  go_wp2
  go_region
  go_wp2
  (try simp only [Exit.inBlock, Exit.then])
  refine bodyPost_ret (results_tmp_cell rfl rfl (run_loadVar_row _ (w.heap.size + 1 + 1) 59 59 _ (0, 0) _ (heap_alloc_new' (by simp)) Tryd.underlying59 rfl (by kernel_rfl))) rfl ?_
  exact ⟨rfl, by
    refine Below.drew ?_
    exact ((((Below.refl _ _).alloc (Nat.le_refl _) _).alloc (by simp) _).alloc (by simp; omega) _)⟩
end Go.Proofs.YtfffhbolaimmdaaDoor
