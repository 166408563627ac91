import Derived.Test.YtjlicbdnppodgaaL0
namespace Go.Proofs.Ytjlicbdnppodgaa
open Go.RowKit
/-! A loop whose rounds hold a range over a function: each round leaves a mark among the deferred calls. -/
section
variable {P : Program} {F : Fence} {n : Nat} {c : Code} {Q : Exit → Act → World → Prop} {mask : List (Option Nat)} {Rel : (Nat → Value) → List Deferred → World → Prop} {mu : (Nat → Value) → World → Nat} {l0 : List Value} {df : List Deferred}
def InvD (mask : List (Option Nat)) (Rel : (Nat → Value) → List Deferred → World → Prop) (l0 : List Value) (a : Act) (w : World) : Prop := Rel (slotF a) a.defers w ∧ a = ⟨(mixF mask (slotF a) l0).toArray, a.defers⟩
def EndD (mask : List (Option Nat)) (Rel : (Nat → Value) → List Deferred → World → Prop) (mu : (Nat → Value) → World → Nat) (l0 : List Value) (f : Nat → Value) (w : World) (a : Act) (w' : World) : Prop := InvD mask Rel l0 a w' ∧ mu (slotF a) w' < mu f w
theorem invD {l : List Value} {w : World} (hg : goodM 0 mask = true) (hl : mixL mask l0 l = l) (hR : Rel (slotF ⟨l.toArray, df⟩) df w) : InvD mask Rel l0 ⟨l.toArray, df⟩ w := by
  refine ⟨hR, ?_⟩
  rw [mixF_of mask 0 (slotF ⟨l.toArray, df⟩) l0 l hg hl (fun j x hj => slotF_at (by rw [Nat.zero_add]; exact hj))]
theorem endD {l : List Value} {f : Nat → Value} {w w' : World} (hg : goodM 0 mask = true) (hl : mixL mask l0 l = l) (hR : Rel (slotF ⟨l.toArray, df⟩) df w') (hm : mu (slotF ⟨l.toArray, df⟩) w' < mu f w) : EndD mask Rel mu l0 f w ⟨l.toArray, df⟩ w' :=
  ⟨invD hg hl hR, hm⟩
theorem wpIn_loopD (mask : List (Option Nat)) (Rel : (Nat → Value) → List Deferred → World → Prop) (mu : (Nat → Value) → World → Nat) {w : World} (hg : goodM 0 mask = true) (h0 : Rel (slotF ⟨l0.toArray, df⟩) df w)
    (hs : ∀ (f : Nat → Value) (df' : List Deferred) (w' : World), Rel f df' w' → c.wpIn F n P (Exit.then (fun a' w'' => EndD mask Rel mu l0 f w' a' w'') Q) ⟨(mixF mask f l0).toArray, df'⟩ w') : (Code.loop c).wpIn F n P Q ⟨l0.toArray, df⟩ w := by
  refine wpIn_loop (InvD mask Rel l0) (fun a w => mu (slotF a) w) (invD hg (mixL_self mask l0) h0) ?_
  rintro a w1 ⟨hR, ha⟩
  have := hs (slotF a) a.defers w1 hR
  rw [← ha] at this
  exact this
end
/-! The marks. -/
def marks (Ds : List Nat) : List Deferred := Ds.map fun D => { target := .collected D, args := #[] }
structure DefsOk (lo hi : Nat) (Ds : List Nat) (W : World) : Prop where
  nd : Ds.Nodup
  lt : ∀ D ∈ Ds, lo ≤ D ∧ D < hi
  at_ : ∀ D ∈ Ds, W.heap[D]? = some (.deferred (some []))
theorem DefsOk.nil (lo hi : Nat) (W : World) : DefsOk lo hi [] W := ⟨.nil, fun D h => by simp at h, fun D h => by simp at h⟩
theorem DefsOk.of {lo hi : Nat} {Ds : List Nat} {W W' : World} (h : DefsOk lo hi Ds W) (hk : ∀ D ∈ Ds, W'.heap[D]? = W.heap[D]?) : DefsOk lo hi Ds W' := ⟨h.nd, h.lt, fun D hD => (hk D hD).trans (h.at_ D hD)⟩
theorem DefsOk.grown {lo hi : Nat} {Ds : List Nat} {W W' : World} {row : Option Nat} (h : DefsOk lo hi Ds W) (hg : W.grownBy W' row) (hr : ∀ r, row = some r → ¬ (∃ o, W.heap[r]? = some (.deferred o))) : DefsOk lo hi Ds W' :=
  h.of fun D hD => hg.block D (Array.getElem?_eq_some_iff.1 (h.at_ D hD)).1 (fun e => hr D e.symm ⟨_, h.at_ D hD⟩)
theorem DefsOk.more {lo hi hi' : Nat} {Ds : List Nat} {W : World} (h : DefsOk lo hi Ds W) (hh : hi ≤ hi') : DefsOk lo hi' Ds W := ⟨h.nd, fun D hD => ⟨(h.lt D hD).1, Nat.lt_of_lt_of_le (h.lt D hD).2 hh⟩, h.at_⟩
theorem DefsOk.cons {lo hi hi' D : Nat} {Ds : List Nat} {W : World} (h : DefsOk lo hi Ds W) (hlo : lo ≤ hi) (h1 : hi ≤ D) (h2 : D < hi') (hd : W.heap[D]? = some (.deferred (some []))) : DefsOk lo hi' (D :: Ds) W := by
  refine ⟨List.nodup_cons.2 ⟨fun hm => by have := (h.lt D hm).2; omega, h.nd⟩, fun x hx => ?_, fun x hx => ?_⟩
  · rcases List.mem_cons.1 hx with rfl | hx
    · omega
    · have := h.lt x hx; omega
  · rcases List.mem_cons.1 hx with rfl | hx
    · exact hd
    · exact h.at_ x hx
/-- At the return the marks are taken, one after the other. -/
theorem leaves_marks {P : Program} {F : Fence} {n : Nat} {fn : Func} {tmps : Array Value} {R : Ending → World → Prop} {u : FrameMode} (hu : u ≠ .run) (Inv : World → Prop) (lo : Nat) (hInv : ∀ (W : World) (D : Nat), lo ≤ D → W.heap[D]? = some (.deferred (some [])) → Inv W → Inv (W.putObj D (.deferred none)))
    (hend : ∀ W, Inv W → LeavesIn F n P fn tmps R [] u W) : ∀ (Ds : List Nat) (hi : Nat) (W : World), DefsOk lo hi Ds W → Inv W → LeavesInM F n P fn tmps R (marks Ds) u W
  | [], _, W, _, h => hend W h
  | D :: Ds, hi, W, hd, h => by
    refine ⟨hu, .inl ⟨D, _, rfl, run_takeDeferred (hd.at_ D (List.mem_cons_self ..)), ?_⟩⟩
    have hnd := List.nodup_cons.1 hd.nd
    refine leaves_marks hu Inv lo hInv hend Ds hi _ ⟨hnd.2, fun x hx => hd.lt x (List.mem_cons_of_mem _ hx), fun x hx => ?_⟩ (hInv W D (hd.lt D (List.mem_cons_self ..)).1 (hd.at_ D (List.mem_cons_self ..)) h)
    rw [World.putObj_heap_other (by intro e; subst e; exact hnd.1 hx)]
    exact hd.at_ x (List.mem_cons_of_mem _ hx)
end Go.Proofs.Ytjlicbdnppodgaa
