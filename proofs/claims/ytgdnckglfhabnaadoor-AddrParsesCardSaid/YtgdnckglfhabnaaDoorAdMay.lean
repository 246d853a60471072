/- addr.May. -/
import Derived.Test.YtgdnckglfhabnaaDoorAdEq
namespace Go.Proofs.YtgdnckglfhabnaaDoor
open Go.RowKit Go.Shelf

def mayB (v6 : Bool) (l : List UInt8) : Bool := v6 || decide (l.drop 4 = List.replicate 12 0)

theorem a12 : (Tryd.prog.info? 62).map (·.size) = some 12 := by kernel_rfl

set_option maxRecDepth 100000 in
set_option maxHeartbeats 4000000 in
theorem may_yes (l : List UInt8) (w : World) :
    Calls Tryd.prog 11 #[.agg (adC true l)] w fun e w' => e = .returned (.bool true) ∧ Below w.heap.size w w' := by
  have k := Blk.new w 24 (adC true l)
  have q := k.cell 0
  have q0 : (w.alloc (.cells (adC true l) 24)).cell? ⟨w.heap.size, 0, none⟩ = some (.bool true) := by rw [q]; rfl
  have HB := Lib.hid ((Below.refl _ w).alloc (Nat.le_refl _) (.cells (adC true l) 24))
  clear k q
  go_enter Tryd.func11, Tryd.ntmps11
  go_wp2_with fail
  go_ret
  exact ⟨rfl, HB.out⟩

set_option maxRecDepth 100000 in
set_option maxHeartbeats 4000000 in
theorem may_four (b0 b1 b2 b3 b4 b5 b6 b7 b8 b9 b10 b11 b12 b13 b14 b15 : UInt8) (w : World) :
    Calls Tryd.prog 11 #[.agg (adC false [b0, b1, b2, b3, b4, b5, b6, b7, b8, b9, b10, b11, b12, b13, b14, b15])] w fun e w' => e = .returned (.bool (decide ([b4, b5, b6, b7, b8, b9, b10, b11, b12, b13, b14, b15] = List.replicate 12 0))) ∧ Below w.heap.size w w' := by
  obtain ⟨cs, hcs⟩ : ∃ cs, cs = adC false [b0, b1, b2, b3, b4, b5, b6, b7, b8, b9, b10, b11, b12, b13, b14, b15] := ⟨_, rfl⟩
  rw [← hcs]
  obtain ⟨r, hr⟩ : ∃ r, r = decide ([b4, b5, b6, b7, b8, b9, b10, b11, b12, b13, b14, b15] = List.replicate 12 0) := ⟨_, rfl⟩
  rw [← hr]
  have k := Blk.new w 24 cs
  have q := k.cell 0
  have q0 : (w.alloc (.cells cs 24)).cell? ⟨w.heap.size, 0, none⟩ = some (.bool false) := by rw [q, hcs]; rfl
  have HB := Lib.hid ((Below.refl _ w).alloc (Nat.le_refl _) (.cells cs 24))
  have K := Lib.hid k
  have HC := Lib.hid hcs
  have ha : ∀ W : World, (Instr.arrayAt 62 (.slice (some ⟨w.heap.size, 5, none⟩) 12 12)).run Tryd.prog W = .ok (.pointer (some ⟨w.heap.size, 5, none⟩)) W := fun W => by kernel_rfl
  have hz : ∀ W : World, (Op.equalIn 10000 62 (.agg (bv [b4, b5, b6, b7, b8, b9, b10, b11, b12, b13, b14, b15]).toArray) (.agg #[.int .u8 0, .int .u8 0, .int .u8 0, .int .u8 0, .int .u8 0, .int .u8 0, .int .u8 0, .int .u8 0, .int .u8 0, .int .u8 0, .int .u8 0, .int .u8 0])).run Tryd.prog W = .ok r W := fun W => by rw [hr]; exact eq_twelve _ (List.replicate 12 0) rfl rfl W
  clear k q hcs hr
  go_enter Tryd.func11, Tryd.ntmps11
  go_wp2_with (refine wpList_load_part 62 (.tmp 8) w.heap.size 5 24 cs (bv [b4, b5, b6, b7, b8, b9, b10, b11, b12, b13, b14, b15]) _ K.out (by rw [HC.out]; rfl) (by rfl) (by rfl) Tryd.underlying62 rfl a12 (by rfl) ?_)
  go_ret
  exact ⟨rfl, HB.out⟩

theorem sixteen (l : List UInt8) (h : l.length = 16) : ∃ b0 b1 b2 b3 b4 b5 b6 b7 b8 b9 b10 b11 b12 b13 b14 b15, l = [b0, b1, b2, b3, b4, b5, b6, b7, b8, b9, b10, b11, b12, b13, b14, b15] := by
  match l, h with
  | [b0, b1, b2, b3, b4, b5, b6, b7, b8, b9, b10, b11, b12, b13, b14, b15], _ => exact ⟨_, _, _, _, _, _, _, _, _, _, _, _, _, _, _, _, rfl⟩

/-- addr.May. -/
theorem may_any (v6 : Bool) (l : List UInt8) (h : l.length = 16) (w : World) :
    Calls Tryd.prog 11 #[.agg (adC v6 l)] w fun e w' => e = .returned (.bool (mayB v6 l)) ∧ Below w.heap.size w w' := by
  cases v6
  · obtain ⟨b0, b1, b2, b3, b4, b5, b6, b7, b8, b9, b10, b11, b12, b13, b14, b15, rfl⟩ := sixteen l h
    exact (may_four b0 b1 b2 b3 b4 b5 b6 b7 b8 b9 b10 b11 b12 b13 b14 b15 w).mono fun e w' ⟨h1, h2⟩ => ⟨by rw [h1]; rfl, h2⟩
  · exact (may_yes l w).mono fun e w' ⟨h1, h2⟩ => ⟨h1, h2⟩
end Go.Proofs.YtgdnckglfhabnaaDoor
