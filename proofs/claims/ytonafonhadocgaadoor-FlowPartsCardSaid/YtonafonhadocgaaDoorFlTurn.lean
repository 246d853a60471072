/- Worlds that keep all of an earlier one but a few blocks. -/
import Derived.Test.YtonafonhadocgaaDoorFlMarks
import Derived.Test.YtonafonhadocgaaDoorFlPartsP
namespace Go.Proofs.YtonafonhadocgaaDoor
open Go.RowKit

/-- A keeps what lay in W, but for the blocks of which Y tells. -/
structure Turn (W : World) (Y : Nat → Prop) (A : World) : Prop where
  os : A.os = W.os
  tape : A.tape = W.tape
  output : A.output = W.output
  size : W.heap.size ≤ A.heap.size
  block : ∀ k, k < W.heap.size → ¬ Y k → A.heap[k]? = W.heap[k]?
section
variable {W A B : World} {Y : Nat → Prop}
theorem Turn.refl (W : World) (Y : Nat → Prop) : Turn W Y W := ⟨rfl, rfl, rfl, Nat.le_refl _, fun _ _ _ => rfl⟩
theorem Turn.grown {row : Option Nat} (h : Turn W Y A) (hg : A.grownBy B row) (hr : ∀ r, row = some r → Y r ∨ W.heap.size ≤ r) : Turn W Y B :=
  ⟨hg.os.trans h.os, hg.tape.trans h.tape, hg.output.trans h.output, Nat.le_trans h.size hg.size, fun k hk hY => (hg.block k (Nat.lt_of_lt_of_le hk h.size) (fun e => by
    rcases hr k e.symm with h1 | h1
    · exact hY h1
    · omega)).trans (h.block k hk hY)⟩
theorem Turn.below (h : Turn W Y A) (hb : Below A.heap.size A B) : Turn W Y B :=
  ⟨hb.os.trans h.os, hb.tape.trans h.tape, hb.output.trans h.output, Nat.le_trans h.size hb.size, fun k hk hY => (hb.block k (Nat.lt_of_lt_of_le hk h.size)).trans (h.block k hk hY)⟩
theorem Turn.trans {Z : Nat → Prop} (h : Turn W Y A) (k : Turn A Z B) (hZ : ∀ r, Z r → Y r ∨ W.heap.size ≤ r) : Turn W Y B :=
  ⟨k.os.trans h.os, k.tape.trans h.tape, k.output.trans h.output, Nat.le_trans h.size k.size, fun r hr hY => (k.block r (Nat.lt_of_lt_of_le hr h.size) (fun e => by
    rcases hZ r e with h1 | h1
    · exact hY h1
    · omega)).trans (h.block r hr hY)⟩
theorem Turn.to_below {b : Nat} (h : Turn W Y A) (hY : ∀ r, Y r → b ≤ r) (hb : b ≤ W.heap.size) : Below b W A :=
  ⟨h.os, h.tape, h.output, h.size, fun k hk => h.block k (Nat.lt_of_lt_of_le hk hb) (fun e => by have := hY k e; omega)⟩
theorem Turn.blk {g : Nat} {t : TypeId} {cs : Array Value} (h : Turn W Y A) (hb : Blk W g t cs) (hg : ¬ Y g) : Blk A g t cs :=
  (h.block g hb.lt hg).trans hb
theorem Turn.cell {b o : Nat} {v : Value} (h : Turn W Y A) (hb : ¬ Y b) (hc : W.cell? ⟨b, o, none⟩ = some v) : A.cell? ⟨b, o, none⟩ = some v := by
  have hlt : b < W.heap.size := by
    rcases Nat.lt_or_ge b W.heap.size with h1 | h1
    · exact h1
    · unfold World.cell? at hc
      rw [Array.getElem?_eq_none h1] at hc
      cases hc
  unfold World.cell? at hc ⊢
  rw [h.block b hlt hb]
  exact hc
theorem Turn.marks {lo hi : Nat} {d : List Deferred} (h : Turn W Y A) (hm : Marks lo hi d W) (hY : ∀ r, Y r → r < lo ∨ hi ≤ r ∨ W.heap[r]? ≠ some (.deferred (some []))) : Marks lo hi d A :=
  hm.keep fun D h1 h2 hD => (h.block D (Array.getElem?_eq_some_iff.1 hD).1 (fun e => by
    rcases hY D e with h3 | h3 | h3
    · omega
    · omega
    · exact h3 hD)).trans hD
theorem Turn.setCell {g : Nat} (h : Turn W Y A) (hg : Y g ∨ W.heap.size ≤ g) (i : Nat) (v : Value) : Turn W Y (A.setCell ⟨g, i, none⟩ v) :=
  h.grown (grownBy_setCell A g i v) (fun r e => by injection e with e; rw [← e]; exact hg)
end
end Go.Proofs.YtonafonhadocgaaDoor
