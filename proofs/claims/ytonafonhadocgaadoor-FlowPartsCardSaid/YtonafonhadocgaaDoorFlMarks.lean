/- Marks of range loops that pile up on a frame's deferred calls. -/
import Derived.Test.YtonafonhadocgaaDoorRangeS
namespace Go.Proofs.YtonafonhadocgaaDoor
open Go.RowKit

abbrev mkD (D : Nat) : Deferred := { target := .collected D, args := #[] }
/-- d: marks of blocks from lo on, below hi; none of their rounds deferred a call. -/
structure Marks (lo hi : Nat) (d : List Deferred) (w : World) : Prop where
  ex : ∃ Ds : List Nat, d = Ds.map mkD ∧ Ds.Nodup ∧ ∀ D ∈ Ds, lo ≤ D ∧ D < hi ∧ w.heap[D]? = some (.deferred (some []))
section
variable {lo hi : Nat} {d : List Deferred} {w w' : World}
theorem Marks.nil (lo hi : Nat) (w : World) : Marks lo hi [] w := ⟨[], rfl, List.nodup_nil, fun D h => by cases h⟩
theorem Marks.keep (h : Marks lo hi d w) (hk : ∀ D, lo ≤ D → D < hi → w.heap[D]? = some (.deferred (some [])) → w'.heap[D]? = some (.deferred (some []))) : Marks lo hi d w' := by
  obtain ⟨Ds, e, hn, hD⟩ := h.ex
  exact ⟨Ds, e, hn, fun D hm => ⟨(hD D hm).1, (hD D hm).2.1, hk D (hD D hm).1 (hD D hm).2.1 (hD D hm).2.2⟩⟩
theorem Marks.wide {hi' : Nat} (h : Marks lo hi d w) (hh : hi ≤ hi') : Marks lo hi' d w := by
  obtain ⟨Ds, e, hn, hD⟩ := h.ex
  exact ⟨Ds, e, hn, fun D hm => ⟨(hD D hm).1, Nat.lt_of_lt_of_le (hD D hm).2.1 hh, (hD D hm).2.2⟩⟩
/-- What comes later in a world that keeps what lay there. -/
theorem Marks.below (h : Marks lo hi d w) (hb : Below w.heap.size w w') : Marks lo hi d w' :=
  h.keep fun D _ _ hD => (hb.block D (Array.getElem?_eq_some_iff.1 hD).1).trans hD
/-- A block of cells that turns is no mark. -/
theorem Marks.grown {row : Option Nat} (h : Marks lo hi d w) (hg : w.grownBy w' row) (hr : ∀ r, row = some r → w.heap[r]? ≠ some (.deferred (some [])) ∨ r < lo ∨ hi ≤ r) : Marks lo hi d w' :=
  h.keep fun D h1 h2 hD => (hg.block D (Array.getElem?_eq_some_iff.1 hD).1 (fun e => by
    rcases hr D e.symm with h3 | h3 | h3
    · exact h3 hD
    · omega
    · omega)).trans hD
theorem Marks.cons {D hi' : Nat} (h : Marks lo hi d w) (hD : w.heap[D]? = some (.deferred (some []))) (h1 : lo ≤ D) (h2 : hi ≤ D) (h3 : D < hi') : Marks lo hi' (mkD D :: d) w := by
  obtain ⟨Ds, e, hn, hDs⟩ := h.ex
  refine ⟨D :: Ds, by rw [e]; rfl, List.nodup_cons.2 ⟨fun hm => ?_, hn⟩, fun D' hm => ?_⟩
  · have := (hDs D hm).2.1
    omega
  · rcases List.mem_cons.1 hm with rfl | hm
    · exact ⟨h1, h3, hD⟩
    · have := hDs D' hm
      exact ⟨this.1, by omega, this.2.2⟩
end
/-- A frame whose deferred calls are marks alone ends as one without. -/
theorem leaves_marks {F : Fence} {n : Nat} {P : Program} {fn : Func} {tmps : Array Value} {R : Ending → World → Prop} {lo hi : Nat} (S : World → Prop)
    (hS : ∀ u D, S u → u.heap[D]? = some (.deferred (some [])) → lo ≤ D → S (u.putObj D (.deferred none)))
    (hfin : ∀ u, S u → ∃ v, (results fn tmps).run P u = .ok v u ∧ R (.returned v) u)
    {d : List Deferred} {w : World} (h : Marks lo hi d w) (h0 : S w) : LeavesInM F n P fn tmps R d .returning w := by
  obtain ⟨Ds, e, hn, hD⟩ := h.ex
  subst e
  clear h
  induction Ds generalizing w with
  | nil => exact hfin w h0
  | cons D Ds ih =>
    have hd := hD D List.mem_cons_self
    have hn' := List.nodup_cons.1 hn
    refine ⟨by simp, .inl ⟨D, _, rfl, run_takeDeferred hd.2.2, ih (hS w D h0 hd.2.2 hd.1) hn'.2 fun D' hm => ?_⟩⟩
    have h1 := hD D' (List.mem_cons_of_mem _ hm)
    exact ⟨h1.1, h1.2.1, (World.putObj_heap_other (fun e => hn'.1 (by rw [← e]; exact hm))).trans h1.2.2⟩
end Go.Proofs.YtonafonhadocgaaDoor
