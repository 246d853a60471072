/- The codes that are known. -/
import Derived.Test.YtajgnbhcgfgjjaaDoorKsParse
import Derived.LoopN
namespace Go.Proofs.YtajgnbhcgfgjjaaDoor
open Go.RowKit Go.Shelf

def codeL : List ByteArray := [⟨#[65, 67, 83, 84]⟩, ⟨#[65, 85, 84, 72]⟩, ⟨#[65, 85, 84, 79]⟩, ⟨#[66, 67, 83, 84]⟩, ⟨#[67, 82, 89, 80]⟩, ⟨#[68, 69, 78, 89]⟩, ⟨#[68, 82, 79, 80]⟩, ⟨#[73, 78, 73, 84]⟩, ⟨#[77, 67, 83, 84]⟩, ⟨#[78, 75, 69, 89]⟩, ⟨#[78, 84, 83, 78]⟩, ⟨#[82, 65, 84, 69]⟩, ⟨#[82, 77, 79, 84]⟩, ⟨#[82, 83, 84, 82]⟩, ⟨#[83, 84, 69, 80]⟩]
theorem lit_ne (l : List UInt8) {s : ByteArray} (h : ¬ (⟨l.toArray⟩ : ByteArray) = s) : (l == s.toList) = false := by
  have e := bytes_ne h
  rw [ByteArray.toList_eq] at e
  exact e
def knownB (s : ByteArray) : Bool := codeL.any fun c => decide (c = s)

set_option maxRecDepth 100000 in
theorem codes_any (w : World) : Calls Tryd.prog 29 #[] w fun e w' => e = .returned (.agg #[.string ⟨#[65, 67, 83, 84]⟩, .string ⟨#[65, 85, 84, 72]⟩, .string ⟨#[65, 85, 84, 79]⟩, .string ⟨#[66, 67, 83, 84]⟩, .string ⟨#[67, 82, 89, 80]⟩, .string ⟨#[68, 69, 78, 89]⟩, .string ⟨#[68, 82, 79, 80]⟩, .string ⟨#[73, 78, 73, 84]⟩, .string ⟨#[77, 67, 83, 84]⟩, .string ⟨#[78, 75, 69, 89]⟩, .string ⟨#[78, 84, 83, 78]⟩, .string ⟨#[82, 65, 84, 69]⟩, .string ⟨#[82, 77, 79, 84]⟩, .string ⟨#[82, 83, 84, 82]⟩, .string ⟨#[83, 84, 69, 80]⟩]) ∧ Below w.heap.size w w' := by
  go_enter Tryd.func29, Tryd.ntmps29
  go_wp2
  have k := Blk.new w 64 #[.string ⟨#[65, 67, 83, 84]⟩, .string ⟨#[65, 85, 84, 72]⟩, .string ⟨#[65, 85, 84, 79]⟩, .string ⟨#[66, 67, 83, 84]⟩, .string ⟨#[67, 82, 89, 80]⟩, .string ⟨#[68, 69, 78, 89]⟩, .string ⟨#[68, 82, 79, 80]⟩, .string ⟨#[73, 78, 73, 84]⟩, .string ⟨#[77, 67, 83, 84]⟩, .string ⟨#[78, 75, 69, 89]⟩, .string ⟨#[78, 84, 83, 78]⟩, .string ⟨#[82, 65, 84, 69]⟩, .string ⟨#[82, 77, 79, 84]⟩, .string ⟨#[82, 83, 84, 82]⟩, .string ⟨#[83, 84, 69, 80]⟩]
  have hb : Below w.heap.size w (w.alloc (.cells #[.string ⟨#[65, 67, 83, 84]⟩, .string ⟨#[65, 85, 84, 72]⟩, .string ⟨#[65, 85, 84, 79]⟩, .string ⟨#[66, 67, 83, 84]⟩, .string ⟨#[67, 82, 89, 80]⟩, .string ⟨#[68, 69, 78, 89]⟩, .string ⟨#[68, 82, 79, 80]⟩, .string ⟨#[73, 78, 73, 84]⟩, .string ⟨#[77, 67, 83, 84]⟩, .string ⟨#[78, 75, 69, 89]⟩, .string ⟨#[78, 84, 83, 78]⟩, .string ⟨#[82, 65, 84, 69]⟩, .string ⟨#[82, 77, 79, 84]⟩, .string ⟨#[82, 83, 84, 82]⟩, .string ⟨#[83, 84, 69, 80]⟩] 64)) := (Below.refl _ w).alloc (Nat.le_refl _) _
  generalize w.alloc (.cells #[.string ⟨#[65, 67, 83, 84]⟩, .string ⟨#[65, 85, 84, 72]⟩, .string ⟨#[65, 85, 84, 79]⟩, .string ⟨#[66, 67, 83, 84]⟩, .string ⟨#[67, 82, 89, 80]⟩, .string ⟨#[68, 69, 78, 89]⟩, .string ⟨#[68, 82, 79, 80]⟩, .string ⟨#[73, 78, 73, 84]⟩, .string ⟨#[77, 67, 83, 84]⟩, .string ⟨#[78, 75, 69, 89]⟩, .string ⟨#[78, 84, 83, 78]⟩, .string ⟨#[82, 65, 84, 69]⟩, .string ⟨#[82, 77, 79, 84]⟩, .string ⟨#[82, 83, 84, 82]⟩, .string ⟨#[83, 84, 69, 80]⟩] 64) = w1 at *
  have q0 := k.cell 0
  have q1 := k.cell 1
  have q2 := k.cell 2
  have q3 := k.cell 3
  have q4 := k.cell 4
  have q5 := k.cell 5
  have q6 := k.cell 6
  have q7 := k.cell 7
  have q8 := k.cell 8
  have q9 := k.cell 9
  have q10 := k.cell 10
  have q11 := k.cell 11
  have q12 := k.cell 12
  have q13 := k.cell 13
  have q14 := k.cell 14
  simp at q0 q1 q2 q3 q4 q5 q6 q7 q8 q9 q10 q11 q12 q13 q14
  refine bodyPost_ret (v := .agg #[.string ⟨#[65, 67, 83, 84]⟩, .string ⟨#[65, 85, 84, 72]⟩, .string ⟨#[65, 85, 84, 79]⟩, .string ⟨#[66, 67, 83, 84]⟩, .string ⟨#[67, 82, 89, 80]⟩, .string ⟨#[68, 69, 78, 89]⟩, .string ⟨#[68, 82, 79, 80]⟩, .string ⟨#[73, 78, 73, 84]⟩, .string ⟨#[77, 67, 83, 84]⟩, .string ⟨#[78, 75, 69, 89]⟩, .string ⟨#[78, 84, 83, 78]⟩, .string ⟨#[82, 65, 84, 69]⟩, .string ⟨#[82, 77, 79, 84]⟩, .string ⟨#[82, 83, 84, 82]⟩, .string ⟨#[83, 84, 69, 80]⟩]) (by simp [results, Tryd.results29, go_sem, q0, q1, q2, q3, q4, q5, q6, q7, q8, q9, q10, q11, q12, q13, q14]) rfl ⟨rfl, hb⟩

set_option maxRecDepth 100000 in
set_option maxHeartbeats 2000000 in
theorem known_any (s : ByteArray) (w : World) : Calls Tryd.prog 17 #[.string s] w fun e w' => e = .returned (.bool (knownB s)) ∧ Below w.heap.size w w' := by
  go_enter Tryd.func17, Tryd.ntmps17
  go_wp2_with fail
  refine (codes_any _).mono ?_
  rintro e w1 ⟨rfl, hb⟩
  have HB := Lib.hid hb
  clear hb
  go_wp2_with fail
  have i0 : ∀ w, (Instr.index 64 (.agg #[.string ⟨#[65, 67, 83, 84]⟩, .string ⟨#[65, 85, 84, 72]⟩, .string ⟨#[65, 85, 84, 79]⟩, .string ⟨#[66, 67, 83, 84]⟩, .string ⟨#[67, 82, 89, 80]⟩, .string ⟨#[68, 69, 78, 89]⟩, .string ⟨#[68, 82, 79, 80]⟩, .string ⟨#[73, 78, 73, 84]⟩, .string ⟨#[77, 67, 83, 84]⟩, .string ⟨#[78, 75, 69, 89]⟩, .string ⟨#[78, 84, 83, 78]⟩, .string ⟨#[82, 65, 84, 69]⟩, .string ⟨#[82, 77, 79, 84]⟩, .string ⟨#[82, 83, 84, 82]⟩, .string ⟨#[83, 84, 69, 80]⟩]) (.int .i64 0)).run Tryd.prog w = .ok (.string ⟨#[65, 67, 83, 84]⟩) w := fun _ => by kernel_rfl
  have i1 : ∀ w, (Instr.index 64 (.agg #[.string ⟨#[65, 67, 83, 84]⟩, .string ⟨#[65, 85, 84, 72]⟩, .string ⟨#[65, 85, 84, 79]⟩, .string ⟨#[66, 67, 83, 84]⟩, .string ⟨#[67, 82, 89, 80]⟩, .string ⟨#[68, 69, 78, 89]⟩, .string ⟨#[68, 82, 79, 80]⟩, .string ⟨#[73, 78, 73, 84]⟩, .string ⟨#[77, 67, 83, 84]⟩, .string ⟨#[78, 75, 69, 89]⟩, .string ⟨#[78, 84, 83, 78]⟩, .string ⟨#[82, 65, 84, 69]⟩, .string ⟨#[82, 77, 79, 84]⟩, .string ⟨#[82, 83, 84, 82]⟩, .string ⟨#[83, 84, 69, 80]⟩]) (.int .i64 1)).run Tryd.prog w = .ok (.string ⟨#[65, 85, 84, 72]⟩) w := fun _ => by kernel_rfl
  have i2 : ∀ w, (Instr.index 64 (.agg #[.string ⟨#[65, 67, 83, 84]⟩, .string ⟨#[65, 85, 84, 72]⟩, .string ⟨#[65, 85, 84, 79]⟩, .string ⟨#[66, 67, 83, 84]⟩, .string ⟨#[67, 82, 89, 80]⟩, .string ⟨#[68, 69, 78, 89]⟩, .string ⟨#[68, 82, 79, 80]⟩, .string ⟨#[73, 78, 73, 84]⟩, .string ⟨#[77, 67, 83, 84]⟩, .string ⟨#[78, 75, 69, 89]⟩, .string ⟨#[78, 84, 83, 78]⟩, .string ⟨#[82, 65, 84, 69]⟩, .string ⟨#[82, 77, 79, 84]⟩, .string ⟨#[82, 83, 84, 82]⟩, .string ⟨#[83, 84, 69, 80]⟩]) (.int .i64 2)).run Tryd.prog w = .ok (.string ⟨#[65, 85, 84, 79]⟩) w := fun _ => by kernel_rfl
  have i3 : ∀ w, (Instr.index 64 (.agg #[.string ⟨#[65, 67, 83, 84]⟩, .string ⟨#[65, 85, 84, 72]⟩, .string ⟨#[65, 85, 84, 79]⟩, .string ⟨#[66, 67, 83, 84]⟩, .string ⟨#[67, 82, 89, 80]⟩, .string ⟨#[68, 69, 78, 89]⟩, .string ⟨#[68, 82, 79, 80]⟩, .string ⟨#[73, 78, 73, 84]⟩, .string ⟨#[77, 67, 83, 84]⟩, .string ⟨#[78, 75, 69, 89]⟩, .string ⟨#[78, 84, 83, 78]⟩, .string ⟨#[82, 65, 84, 69]⟩, .string ⟨#[82, 77, 79, 84]⟩, .string ⟨#[82, 83, 84, 82]⟩, .string ⟨#[83, 84, 69, 80]⟩]) (.int .i64 3)).run Tryd.prog w = .ok (.string ⟨#[66, 67, 83, 84]⟩) w := fun _ => by kernel_rfl
  have i4 : ∀ w, (Instr.index 64 (.agg #[.string ⟨#[65, 67, 83, 84]⟩, .string ⟨#[65, 85, 84, 72]⟩, .string ⟨#[65, 85, 84, 79]⟩, .string ⟨#[66, 67, 83, 84]⟩, .string ⟨#[67, 82, 89, 80]⟩, .string ⟨#[68, 69, 78, 89]⟩, .string ⟨#[68, 82, 79, 80]⟩, .string ⟨#[73, 78, 73, 84]⟩, .string ⟨#[77, 67, 83, 84]⟩, .string ⟨#[78, 75, 69, 89]⟩, .string ⟨#[78, 84, 83, 78]⟩, .string ⟨#[82, 65, 84, 69]⟩, .string ⟨#[82, 77, 79, 84]⟩, .string ⟨#[82, 83, 84, 82]⟩, .string ⟨#[83, 84, 69, 80]⟩]) (.int .i64 4)).run Tryd.prog w = .ok (.string ⟨#[67, 82, 89, 80]⟩) w := fun _ => by kernel_rfl
  have i5 : ∀ w, (Instr.index 64 (.agg #[.string ⟨#[65, 67, 83, 84]⟩, .string ⟨#[65, 85, 84, 72]⟩, .string ⟨#[65, 85, 84, 79]⟩, .string ⟨#[66, 67, 83, 84]⟩, .string ⟨#[67, 82, 89, 80]⟩, .string ⟨#[68, 69, 78, 89]⟩, .string ⟨#[68, 82, 79, 80]⟩, .string ⟨#[73, 78, 73, 84]⟩, .string ⟨#[77, 67, 83, 84]⟩, .string ⟨#[78, 75, 69, 89]⟩, .string ⟨#[78, 84, 83, 78]⟩, .string ⟨#[82, 65, 84, 69]⟩, .string ⟨#[82, 77, 79, 84]⟩, .string ⟨#[82, 83, 84, 82]⟩, .string ⟨#[83, 84, 69, 80]⟩]) (.int .i64 5)).run Tryd.prog w = .ok (.string ⟨#[68, 69, 78, 89]⟩) w := fun _ => by kernel_rfl
  have i6 : ∀ w, (Instr.index 64 (.agg #[.string ⟨#[65, 67, 83, 84]⟩, .string ⟨#[65, 85, 84, 72]⟩, .string ⟨#[65, 85, 84, 79]⟩, .string ⟨#[66, 67, 83, 84]⟩, .string ⟨#[67, 82, 89, 80]⟩, .string ⟨#[68, 69, 78, 89]⟩, .string ⟨#[68, 82, 79, 80]⟩, .string ⟨#[73, 78, 73, 84]⟩, .string ⟨#[77, 67, 83, 84]⟩, .string ⟨#[78, 75, 69, 89]⟩, .string ⟨#[78, 84, 83, 78]⟩, .string ⟨#[82, 65, 84, 69]⟩, .string ⟨#[82, 77, 79, 84]⟩, .string ⟨#[82, 83, 84, 82]⟩, .string ⟨#[83, 84, 69, 80]⟩]) (.int .i64 6)).run Tryd.prog w = .ok (.string ⟨#[68, 82, 79, 80]⟩) w := fun _ => by kernel_rfl
  have i7 : ∀ w, (Instr.index 64 (.agg #[.string ⟨#[65, 67, 83, 84]⟩, .string ⟨#[65, 85, 84, 72]⟩, .string ⟨#[65, 85, 84, 79]⟩, .string ⟨#[66, 67, 83, 84]⟩, .string ⟨#[67, 82, 89, 80]⟩, .string ⟨#[68, 69, 78, 89]⟩, .string ⟨#[68, 82, 79, 80]⟩, .string ⟨#[73, 78, 73, 84]⟩, .string ⟨#[77, 67, 83, 84]⟩, .string ⟨#[78, 75, 69, 89]⟩, .string ⟨#[78, 84, 83, 78]⟩, .string ⟨#[82, 65, 84, 69]⟩, .string ⟨#[82, 77, 79, 84]⟩, .string ⟨#[82, 83, 84, 82]⟩, .string ⟨#[83, 84, 69, 80]⟩]) (.int .i64 7)).run Tryd.prog w = .ok (.string ⟨#[73, 78, 73, 84]⟩) w := fun _ => by kernel_rfl
  have i8 : ∀ w, (Instr.index 64 (.agg #[.string ⟨#[65, 67, 83, 84]⟩, .string ⟨#[65, 85, 84, 72]⟩, .string ⟨#[65, 85, 84, 79]⟩, .string ⟨#[66, 67, 83, 84]⟩, .string ⟨#[67, 82, 89, 80]⟩, .string ⟨#[68, 69, 78, 89]⟩, .string ⟨#[68, 82, 79, 80]⟩, .string ⟨#[73, 78, 73, 84]⟩, .string ⟨#[77, 67, 83, 84]⟩, .string ⟨#[78, 75, 69, 89]⟩, .string ⟨#[78, 84, 83, 78]⟩, .string ⟨#[82, 65, 84, 69]⟩, .string ⟨#[82, 77, 79, 84]⟩, .string ⟨#[82, 83, 84, 82]⟩, .string ⟨#[83, 84, 69, 80]⟩]) (.int .i64 8)).run Tryd.prog w = .ok (.string ⟨#[77, 67, 83, 84]⟩) w := fun _ => by kernel_rfl
  have i9 : ∀ w, (Instr.index 64 (.agg #[.string ⟨#[65, 67, 83, 84]⟩, .string ⟨#[65, 85, 84, 72]⟩, .string ⟨#[65, 85, 84, 79]⟩, .string ⟨#[66, 67, 83, 84]⟩, .string ⟨#[67, 82, 89, 80]⟩, .string ⟨#[68, 69, 78, 89]⟩, .string ⟨#[68, 82, 79, 80]⟩, .string ⟨#[73, 78, 73, 84]⟩, .string ⟨#[77, 67, 83, 84]⟩, .string ⟨#[78, 75, 69, 89]⟩, .string ⟨#[78, 84, 83, 78]⟩, .string ⟨#[82, 65, 84, 69]⟩, .string ⟨#[82, 77, 79, 84]⟩, .string ⟨#[82, 83, 84, 82]⟩, .string ⟨#[83, 84, 69, 80]⟩]) (.int .i64 9)).run Tryd.prog w = .ok (.string ⟨#[78, 75, 69, 89]⟩) w := fun _ => by kernel_rfl
  have i10 : ∀ w, (Instr.index 64 (.agg #[.string ⟨#[65, 67, 83, 84]⟩, .string ⟨#[65, 85, 84, 72]⟩, .string ⟨#[65, 85, 84, 79]⟩, .string ⟨#[66, 67, 83, 84]⟩, .string ⟨#[67, 82, 89, 80]⟩, .string ⟨#[68, 69, 78, 89]⟩, .string ⟨#[68, 82, 79, 80]⟩, .string ⟨#[73, 78, 73, 84]⟩, .string ⟨#[77, 67, 83, 84]⟩, .string ⟨#[78, 75, 69, 89]⟩, .string ⟨#[78, 84, 83, 78]⟩, .string ⟨#[82, 65, 84, 69]⟩, .string ⟨#[82, 77, 79, 84]⟩, .string ⟨#[82, 83, 84, 82]⟩, .string ⟨#[83, 84, 69, 80]⟩]) (.int .i64 10)).run Tryd.prog w = .ok (.string ⟨#[78, 84, 83, 78]⟩) w := fun _ => by kernel_rfl
  have i11 : ∀ w, (Instr.index 64 (.agg #[.string ⟨#[65, 67, 83, 84]⟩, .string ⟨#[65, 85, 84, 72]⟩, .string ⟨#[65, 85, 84, 79]⟩, .string ⟨#[66, 67, 83, 84]⟩, .string ⟨#[67, 82, 89, 80]⟩, .string ⟨#[68, 69, 78, 89]⟩, .string ⟨#[68, 82, 79, 80]⟩, .string ⟨#[73, 78, 73, 84]⟩, .string ⟨#[77, 67, 83, 84]⟩, .string ⟨#[78, 75, 69, 89]⟩, .string ⟨#[78, 84, 83, 78]⟩, .string ⟨#[82, 65, 84, 69]⟩, .string ⟨#[82, 77, 79, 84]⟩, .string ⟨#[82, 83, 84, 82]⟩, .string ⟨#[83, 84, 69, 80]⟩]) (.int .i64 11)).run Tryd.prog w = .ok (.string ⟨#[82, 65, 84, 69]⟩) w := fun _ => by kernel_rfl
  have i12 : ∀ w, (Instr.index 64 (.agg #[.string ⟨#[65, 67, 83, 84]⟩, .string ⟨#[65, 85, 84, 72]⟩, .string ⟨#[65, 85, 84, 79]⟩, .string ⟨#[66, 67, 83, 84]⟩, .string ⟨#[67, 82, 89, 80]⟩, .string ⟨#[68, 69, 78, 89]⟩, .string ⟨#[68, 82, 79, 80]⟩, .string ⟨#[73, 78, 73, 84]⟩, .string ⟨#[77, 67, 83, 84]⟩, .string ⟨#[78, 75, 69, 89]⟩, .string ⟨#[78, 84, 83, 78]⟩, .string ⟨#[82, 65, 84, 69]⟩, .string ⟨#[82, 77, 79, 84]⟩, .string ⟨#[82, 83, 84, 82]⟩, .string ⟨#[83, 84, 69, 80]⟩]) (.int .i64 12)).run Tryd.prog w = .ok (.string ⟨#[82, 77, 79, 84]⟩) w := fun _ => by kernel_rfl
  have i13 : ∀ w, (Instr.index 64 (.agg #[.string ⟨#[65, 67, 83, 84]⟩, .string ⟨#[65, 85, 84, 72]⟩, .string ⟨#[65, 85, 84, 79]⟩, .string ⟨#[66, 67, 83, 84]⟩, .string ⟨#[67, 82, 89, 80]⟩, .string ⟨#[68, 69, 78, 89]⟩, .string ⟨#[68, 82, 79, 80]⟩, .string ⟨#[73, 78, 73, 84]⟩, .string ⟨#[77, 67, 83, 84]⟩, .string ⟨#[78, 75, 69, 89]⟩, .string ⟨#[78, 84, 83, 78]⟩, .string ⟨#[82, 65, 84, 69]⟩, .string ⟨#[82, 77, 79, 84]⟩, .string ⟨#[82, 83, 84, 82]⟩, .string ⟨#[83, 84, 69, 80]⟩]) (.int .i64 13)).run Tryd.prog w = .ok (.string ⟨#[82, 83, 84, 82]⟩) w := fun _ => by kernel_rfl
  have i14 : ∀ w, (Instr.index 64 (.agg #[.string ⟨#[65, 67, 83, 84]⟩, .string ⟨#[65, 85, 84, 72]⟩, .string ⟨#[65, 85, 84, 79]⟩, .string ⟨#[66, 67, 83, 84]⟩, .string ⟨#[67, 82, 89, 80]⟩, .string ⟨#[68, 69, 78, 89]⟩, .string ⟨#[68, 82, 79, 80]⟩, .string ⟨#[73, 78, 73, 84]⟩, .string ⟨#[77, 67, 83, 84]⟩, .string ⟨#[78, 75, 69, 89]⟩, .string ⟨#[78, 84, 83, 78]⟩, .string ⟨#[82, 65, 84, 69]⟩, .string ⟨#[82, 77, 79, 84]⟩, .string ⟨#[82, 83, 84, 82]⟩, .string ⟨#[83, 84, 69, 80]⟩]) (.int .i64 14)).run Tryd.prog w = .ok (.string ⟨#[83, 84, 69, 80]⟩) w := fun _ => by kernel_rfl
  refine wp_loop_rounds 16 ?_
  rw [rounds_succ]
  by_cases e0 : (⟨#[65, 67, 83, 84]⟩ : ByteArray) = s
  · subst e0
    have HD := Lib.hid (show knownB ⟨#[65, 67, 83, 84]⟩ = true by decide)
    go_wp2
    go_ret
    exact ⟨by rw [HD.out]; rfl, HB.out⟩
  have n0 := lit_ne [65, 67, 83, 84] e0
  have E0 := Lib.hid e0
  clear e0
  go_wp2_with fail
  clear n0 i0
  rw [rounds_succ]
  by_cases e1 : (⟨#[65, 85, 84, 72]⟩ : ByteArray) = s
  · subst e1
    have HD := Lib.hid (show knownB ⟨#[65, 85, 84, 72]⟩ = true by decide)
    go_wp2
    go_ret
    exact ⟨by rw [HD.out]; rfl, HB.out⟩
  have n1 := lit_ne [65, 85, 84, 72] e1
  have E1 := Lib.hid e1
  clear e1
  go_wp2_with fail
  clear n1 i1
  rw [rounds_succ]
  by_cases e2 : (⟨#[65, 85, 84, 79]⟩ : ByteArray) = s
  · subst e2
    have HD := Lib.hid (show knownB ⟨#[65, 85, 84, 79]⟩ = true by decide)
    go_wp2
    go_ret
    exact ⟨by rw [HD.out]; rfl, HB.out⟩
  have n2 := lit_ne [65, 85, 84, 79] e2
  have E2 := Lib.hid e2
  clear e2
  go_wp2_with fail
  clear n2 i2
  rw [rounds_succ]
  by_cases e3 : (⟨#[66, 67, 83, 84]⟩ : ByteArray) = s
  · subst e3
    have HD := Lib.hid (show knownB ⟨#[66, 67, 83, 84]⟩ = true by decide)
    go_wp2
    go_ret
    exact ⟨by rw [HD.out]; rfl, HB.out⟩
  have n3 := lit_ne [66, 67, 83, 84] e3
  have E3 := Lib.hid e3
  clear e3
  go_wp2_with fail
  clear n3 i3
  rw [rounds_succ]
  by_cases e4 : (⟨#[67, 82, 89, 80]⟩ : ByteArray) = s
  · subst e4
    have HD := Lib.hid (show knownB ⟨#[67, 82, 89, 80]⟩ = true by decide)
    go_wp2
    go_ret
    exact ⟨by rw [HD.out]; rfl, HB.out⟩
  have n4 := lit_ne [67, 82, 89, 80] e4
  have E4 := Lib.hid e4
  clear e4
  go_wp2_with fail
  clear n4 i4
  rw [rounds_succ]
  by_cases e5 : (⟨#[68, 69, 78, 89]⟩ : ByteArray) = s
  · subst e5
    have HD := Lib.hid (show knownB ⟨#[68, 69, 78, 89]⟩ = true by decide)
    go_wp2
    go_ret
    exact ⟨by rw [HD.out]; rfl, HB.out⟩
  have n5 := lit_ne [68, 69, 78, 89] e5
  have E5 := Lib.hid e5
  clear e5
  go_wp2_with fail
  clear n5 i5
  rw [rounds_succ]
  by_cases e6 : (⟨#[68, 82, 79, 80]⟩ : ByteArray) = s
  · subst e6
    have HD := Lib.hid (show knownB ⟨#[68, 82, 79, 80]⟩ = true by decide)
    go_wp2
    go_ret
    exact ⟨by rw [HD.out]; rfl, HB.out⟩
  have n6 := lit_ne [68, 82, 79, 80] e6
  have E6 := Lib.hid e6
  clear e6
  go_wp2_with fail
  clear n6 i6
  rw [rounds_succ]
  by_cases e7 : (⟨#[73, 78, 73, 84]⟩ : ByteArray) = s
  · subst e7
    have HD := Lib.hid (show knownB ⟨#[73, 78, 73, 84]⟩ = true by decide)
    go_wp2
    go_ret
    exact ⟨by rw [HD.out]; rfl, HB.out⟩
  have n7 := lit_ne [73, 78, 73, 84] e7
  have E7 := Lib.hid e7
  clear e7
  go_wp2_with fail
  clear n7 i7
  rw [rounds_succ]
  by_cases e8 : (⟨#[77, 67, 83, 84]⟩ : ByteArray) = s
  · subst e8
    have HD := Lib.hid (show knownB ⟨#[77, 67, 83, 84]⟩ = true by decide)
    go_wp2
    go_ret
    exact ⟨by rw [HD.out]; rfl, HB.out⟩
  have n8 := lit_ne [77, 67, 83, 84] e8
  have E8 := Lib.hid e8
  clear e8
  go_wp2_with fail
  clear n8 i8
  rw [rounds_succ]
  by_cases e9 : (⟨#[78, 75, 69, 89]⟩ : ByteArray) = s
  · subst e9
    have HD := Lib.hid (show knownB ⟨#[78, 75, 69, 89]⟩ = true by decide)
    go_wp2
    go_ret
    exact ⟨by rw [HD.out]; rfl, HB.out⟩
  have n9 := lit_ne [78, 75, 69, 89] e9
  have E9 := Lib.hid e9
  clear e9
  go_wp2_with fail
  clear n9 i9
  rw [rounds_succ]
  by_cases e10 : (⟨#[78, 84, 83, 78]⟩ : ByteArray) = s
  · subst e10
    have HD := Lib.hid (show knownB ⟨#[78, 84, 83, 78]⟩ = true by decide)
    go_wp2
    go_ret
    exact ⟨by rw [HD.out]; rfl, HB.out⟩
  have n10 := lit_ne [78, 84, 83, 78] e10
  have E10 := Lib.hid e10
  clear e10
  go_wp2_with fail
  clear n10 i10
  rw [rounds_succ]
  by_cases e11 : (⟨#[82, 65, 84, 69]⟩ : ByteArray) = s
  · subst e11
    have HD := Lib.hid (show knownB ⟨#[82, 65, 84, 69]⟩ = true by decide)
    go_wp2
    go_ret
    exact ⟨by rw [HD.out]; rfl, HB.out⟩
  have n11 := lit_ne [82, 65, 84, 69] e11
  have E11 := Lib.hid e11
  clear e11
  go_wp2_with fail
  clear n11 i11
  rw [rounds_succ]
  by_cases e12 : (⟨#[82, 77, 79, 84]⟩ : ByteArray) = s
  · subst e12
    have HD := Lib.hid (show knownB ⟨#[82, 77, 79, 84]⟩ = true by decide)
    go_wp2
    go_ret
    exact ⟨by rw [HD.out]; rfl, HB.out⟩
  have n12 := lit_ne [82, 77, 79, 84] e12
  have E12 := Lib.hid e12
  clear e12
  go_wp2_with fail
  clear n12 i12
  rw [rounds_succ]
  by_cases e13 : (⟨#[82, 83, 84, 82]⟩ : ByteArray) = s
  · subst e13
    have HD := Lib.hid (show knownB ⟨#[82, 83, 84, 82]⟩ = true by decide)
    go_wp2
    go_ret
    exact ⟨by rw [HD.out]; rfl, HB.out⟩
  have n13 := lit_ne [82, 83, 84, 82] e13
  have E13 := Lib.hid e13
  clear e13
  go_wp2_with fail
  clear n13 i13
  rw [rounds_succ]
  by_cases e14 : (⟨#[83, 84, 69, 80]⟩ : ByteArray) = s
  · subst e14
    have HD := Lib.hid (show knownB ⟨#[83, 84, 69, 80]⟩ = true by decide)
    go_wp2
    go_ret
    exact ⟨by rw [HD.out]; rfl, HB.out⟩
  have n14 := lit_ne [83, 84, 69, 80] e14
  have E14 := Lib.hid e14
  clear e14
  go_wp2_with fail
  clear n14 i14
  rw [rounds_succ]
  have HD := Lib.hid (show knownB s = false by
    unfold knownB codeL
    simp only [List.any_cons, List.any_nil, Bool.or_false, decide_eq_false E0.out, decide_eq_false E1.out, decide_eq_false E2.out, decide_eq_false E3.out, decide_eq_false E4.out, decide_eq_false E5.out, decide_eq_false E6.out, decide_eq_false E7.out, decide_eq_false E8.out, decide_eq_false E9.out, decide_eq_false E10.out, decide_eq_false E11.out, decide_eq_false E12.out, decide_eq_false E13.out, decide_eq_false E14.out])
  go_wp2
  go_ret
  exact ⟨by rw [HD.out]; rfl, HB.out⟩
end Go.Proofs.YtajgnbhcgfgjjaaDoor
