/- A row of flows as an argument. -/
import Derived.Test.YtonafonhadocgaaGreatDoorQU
import Derived.Test.YtonafonhadocgaaGreatDoorFlRows
namespace Go.Proofs.YtonafonhadocgaaGreatDoor
open Go.ChangeShapes Go.WideShapes Go.ChangeAt Go.RowKit Go.Shelf

section
variable {H : Type} {enc : TypeId × Value → H} {W : World} {base : Nat} {held : Bool}
theorem flows_of_trod {fuel : Nat} {v : Value} {x : DataW H × List MemPlace} (h : DataW.trod enc Tryz.prog W base (fun _ => true) held fuel 50 [v] = some x) :
    ∃ A n c fs, v = .slice A n c ∧ RdF W A n c fs ∧ (∀ k ∈ fs, FlOk k) ∧ c ≤ 9223372036854775807 := by
  rcases Go.Deep.open_slice Tryz.underlying50 h with ⟨hcs, _⟩ | ⟨a, n, c, m, q, D, Pl, hcs, _, hl, hm, hmm, _, hi⟩
  · injection hcs with hv _
    exact ⟨none, 0, 0, [], hv, ⟨rfl, Nat.le_refl _, fun _ => ⟨rfl, rfl⟩, fun h => absurd h (by omega)⟩, fun k hk => (by cases hk), by omega⟩
  · injection hcs with hv _
    have hmc : m = c := by simpa using hmm
    obtain ⟨ks, hkl, hk⟩ := list_of_each n (fun i (k : Fl) => FlOk k ∧ W.cells? base (a.add (i * 36)) 36 = some (flC k.1 k.2).toList) fun i hin => by
      obtain ⟨cs, h1, h2⟩ := hi i (by omega)
      rw [kcF] at h1
      obtain ⟨_, hcl, _⟩ := World.cells?_some h1
      obtain ⟨k, e, hk⟩ := flow_of_trod hcl h2
      exact ⟨k, hk, by rw [h1, e]⟩
    refine ⟨some a, n, c, ks, hv, ⟨hkl, hl, fun e => (by cases e), fun hn => ?_⟩, fun k hkm => ?_, by simpa [maxLen] using hm⟩
    · obtain ⟨k0, hk0⟩ : ∃ k0, ks[0]? = some k0 := ⟨ks[0]'(by omega), List.getElem?_eq_getElem _⟩
      have h0 := (hk 0 k0 hk0).2
      rw [Nat.zero_mul] at h0
      obtain ⟨b, off, rfl⟩ := cells_head h0 (by omega)
      exact ⟨b, off, rfl, (cells_range h0 (by omega)).1, fun j k hj => (cells_range (hk j k hj).2 (by omega)).2⟩
    · obtain ⟨i, hi'⟩ := List.getElem?_of_mem hkm
      exact (hk i k hi').1
end
end Go.Proofs.YtonafonhadocgaaGreatDoor
