import Derived.Test.YtfffhbolaimmdaaDoorQ2
namespace Go.Proofs.YtfffhbolaimmdaaDoor
open Go.RowKit
/-! Plain facts: a store in which it is known how many sheets there are. -/
def fixV (b : Bool) (x : Sheet) : Int := if b = true then x.hi else x.lo
def fixSheet (b : Bool) (x : Sheet) : Sheet := ⟨fixV b x, fixV b x, x.cost⟩
def Fx (s : Store) (b : Bool) (t : Store) : Prop := ∃ A c, t = { s with sheets := s.sheets.map (fixSheet b), A1 := A, c1 := c }
theorem Fx.len {s t : Store} {b : Bool} (h : Fx s b t) : t.sheets.length = s.sheets.length := by obtain ⟨A, c, rfl⟩ := h; simp
theorem Fx.ok {s t : Store} {b : Bool} (h : Fx s b t) (ok : Ok s) : Ok t := by
  obtain ⟨A, c, rfl⟩ := h
  refine ⟨by simpa using ok.ns, ok.nl, ok.nm, ok.nw, fun x hx => ?_, ok.lic, fun x hx => ?_, ok.wish⟩
  · obtain ⟨a, ha, rfl⟩ := List.mem_map.1 hx
    have := ok.sheet a ha
    cases b
    · exact ⟨by show 0 ≤ a.lo; omega, by show a.lo ≤ a.lo; omega, by show a.lo ≤ 100000; omega, by show 0 ≤ a.cost; omega, by show a.cost ≤ 10000; omega⟩
    · exact ⟨by show 0 ≤ a.hi; omega, by show a.hi ≤ a.hi; omega, by show a.hi ≤ 100000; omega, by show 0 ≤ a.cost; omega, by show a.cost ≤ 10000; omega⟩
  · have := ok.make x hx
    refine ⟨this.1, this.2.1, ?_, this.2.2.2⟩
    rw [this.2.2.1]; simp
theorem Fx.sheet {s t : Store} {b : Bool} (h : Fx s b t) (k : Nat) : sheetAt t k = fixSheet b (sheetAt s k) := by
  obtain ⟨A, c, rfl⟩ := h
  unfold sheetAt
  simp only [List.getD_eq_getElem?_getD, List.getElem?_map]
  cases s.sheets[k]? with
  | none => cases b <;> rfl
  | some x => rfl
theorem Fx.lo {s t : Store} {b : Bool} (h : Fx s b t) : loAt t = fun k => fixV b (sheetAt s k) := by
  funext k; unfold loAt; rw [h.sheet]; rfl
theorem Fx.hi {s t : Store} {b : Bool} (h : Fx s b t) : hiAt t = fun k => fixV b (sheetAt s k) := by
  funext k; unfold hiAt; rw [h.sheet]; rfl
theorem fixV_lo (s : Store) : (fun k => fixV false (sheetAt s k)) = loAt s := rfl
theorem fixV_hi (s : Store) : (fun k => fixV true (sheetAt s k)) = hiAt s := rfl
theorem Fx.nw {s t : Store} {b : Bool} (h : Fx s b t) : t.wishes.length = s.wishes.length := by obtain ⟨A, c, rfl⟩ := h; rfl
theorem Fx.take {s t : Store} {b : Bool} (h : Fx s b t) (set k : Nat) : takeS t set k = takeS s set k := by obtain ⟨A, c, rfl⟩ := h; rfl
theorem Fx.okAt {s t : Store} {b : Bool} (h : Fx s b t) (set k : Nat) : okAt t set k = okAt s set k := by obtain ⟨A, c, rfl⟩ := h; rfl
theorem Fx.refusedTo {s t : Store} {b : Bool} (h : Fx s b t) (set n : Nat) : refusedTo t set n = refusedTo s set n := by
  induction n with
  | zero => rfl
  | succ n ih => unfold Go.Proofs.YtfffhbolaimmdaaDoor.refusedTo; rw [ih, h.okAt]
theorem Fx.refused {s t : Store} {b : Bool} (h : Fx s b t) (set : Nat) : refusedS t set = refusedS s set := by
  unfold refusedS; rw [h.refusedTo, h.nw]
theorem Fx.check {s t : Store} {b : Bool} (h : Fx s b t) (ok : Ok s) (st : Int) : checkS t st = checkS s st := by
  unfold checkS; rw [if_pos ((ok_iff t).2 (h.ok ok)), if_pos ((ok_iff s).2 ok), h.nw]
theorem Fx.accepted {s t : Store} {b : Bool} (h : Fx s b t) (ok : Ok s) (st : Int) : acceptedS t st = acceptedS s st := by
  unfold acceptedS; rw [h.check ok, h.refused]
theorem Fx.lack {s t : Store} {b : Bool} (h : Fx s b t) (set k : Nat) (m : Int) : lackS t set k m = lackS s set k m := by unfold lackS; rw [h.take]
theorem Fx.gain {s t : Store} {b : Bool} (h : Fx s b t) (set : Nat) (f : Nat → Int) : gainS t set f = gainS s set f := by
  have e1 : gainTo t set t.wishes.length = gainTo s set s.wishes.length := by obtain ⟨A, c, rfl⟩ := h; rfl
  have e2 : costTo t set f t.sheets.length = costTo s set f s.sheets.length := by
    rw [h.len]
    unfold costTo
    refine sumTo_congr fun i _ => ?_
    rw [h.lack, h.sheet]; rfl
  unfold gainS; rw [e1, e2]
theorem Fx.bestTo {s t : Store} (h : Fx s false t) (n : Nat) : bestTo t n = bestTo s n := by
  induction n with
  | zero => rfl
  | succ n ih => unfold Go.Proofs.YtfffhbolaimmdaaDoor.bestTo better; rw [ih, h.refused, h.gain, h.gain, h.lo, fixV_lo]
theorem Fx.best {s t : Store} (h : Fx s false t) : bestS t = bestS s := by unfold bestS setsN; rw [h.bestTo, h.nw]
theorem Fx.acs {s t : Store} (h : Fx s false t) (ok : Ok s) : acS t = acS s ∧ acSet t = acSet s ∧ acGain t = acGain s := by
  have h1 := (ok_iff t).2 (h.ok ok)
  have h2 := (ok_iff s).2 ok
  unfold acS acSet acGain
  rw [if_pos h1, if_pos h1, if_pos h1, if_pos h2, if_pos h2, if_pos h2, h.best, h.gain, h.lo, fixV_lo]
  exact ⟨rfl, rfl, rfl⟩
theorem Fx.profitLo {s t : Store} (h : Fx s false t) (ok : Ok s) (st : Int) : profitS t st = ((profitS s st).1, (profitS s st).1) := by
  unfold profitS; rw [h.accepted ok, h.gain, h.gain, h.lo, h.hi, fixV_lo]; split <;> rfl
theorem Fx.profitHi {s t : Store} (h : Fx s true t) (ok : Ok s) (st : Int) : profitS t st = ((profitS s st).2, (profitS s st).2) := by
  unfold profitS; rw [h.accepted ok, h.gain, h.gain, h.lo, h.hi, fixV_hi]; split <;> rfl
theorem Fx.surely {s t : Store} (h : Fx s false t) (ok : Ok s) (st : Int) : surelyS t st = surelyS s st := by
  unfold surelyS surelyTo; rw [h.accepted ok, h.len, h.lo, fixV_lo]; simp only [h.lack]
theorem Fx.can {s t : Store} (h : Fx s true t) (ok : Ok s) (st : Int) : surelyS t st = canS s st := by
  unfold surelyS surelyTo canS canTo; rw [h.accepted ok, h.len, h.lo, fixV_hi]; simp only [h.lack]
theorem Fx.lacksLo {s t : Store} (h : Fx s false t) (set k : Nat) : lacksS t set k = ((lacksS s set k).2, (lacksS s set k).2) := by
  unfold lacksS; rw [h.lack, h.lack, h.lo, h.hi, fixV_lo]
theorem Fx.lacksHi {s t : Store} (h : Fx s true t) (set k : Nat) : lacksS t set k = ((lacksS s set k).1, (lacksS s set k).1) := by
  unfold lacksS; rw [h.lack, h.lack, h.lo, h.hi, fixV_hi]
end Go.Proofs.YtfffhbolaimmdaaDoor
