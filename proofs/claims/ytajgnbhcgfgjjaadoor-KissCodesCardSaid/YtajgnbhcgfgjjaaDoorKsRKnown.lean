/- The codes that are known, by the reference. -/
import Derived.Test.YtajgnbhcgfgjjaaDoorKsKnown
namespace Go.Proofs.YtajgnbhcgfgjjaaDoor
open Go.RowKit Go.Shelf

set_option maxRecDepth 100000 in
set_option maxHeartbeats 2000000 in
theorem rknown_any (s : ByteArray) (w : World) : Calls Tryd.prog 22 #[.string s] w fun e w' => e = .returned (.bool (knownB s)) ∧ Below w.heap.size w w' := by
  have HB := Lib.hid ((Below.refl _ w).alloc (Nat.le_refl w.heap.size) (.cells #[.string ⟨#[65, 67, 83, 84]⟩, .string ⟨#[65, 85, 84, 72]⟩, .string ⟨#[65, 85, 84, 79]⟩, .string ⟨#[66, 67, 83, 84]⟩, .string ⟨#[67, 82, 89, 80]⟩, .string ⟨#[68, 69, 78, 89]⟩, .string ⟨#[68, 82, 79, 80]⟩, .string ⟨#[73, 78, 73, 84]⟩, .string ⟨#[77, 67, 83, 84]⟩, .string ⟨#[78, 75, 69, 89]⟩, .string ⟨#[78, 84, 83, 78]⟩, .string ⟨#[82, 65, 84, 69]⟩, .string ⟨#[82, 77, 79, 84]⟩, .string ⟨#[82, 83, 84, 82]⟩, .string ⟨#[83, 84, 69, 80]⟩] 9))
  have k := Blk.new w 9 #[.string ⟨#[65, 67, 83, 84]⟩, .string ⟨#[65, 85, 84, 72]⟩, .string ⟨#[65, 85, 84, 79]⟩, .string ⟨#[66, 67, 83, 84]⟩, .string ⟨#[67, 82, 89, 80]⟩, .string ⟨#[68, 69, 78, 89]⟩, .string ⟨#[68, 82, 79, 80]⟩, .string ⟨#[73, 78, 73, 84]⟩, .string ⟨#[77, 67, 83, 84]⟩, .string ⟨#[78, 75, 69, 89]⟩, .string ⟨#[78, 84, 83, 78]⟩, .string ⟨#[82, 65, 84, 69]⟩, .string ⟨#[82, 77, 79, 84]⟩, .string ⟨#[82, 83, 84, 82]⟩, .string ⟨#[83, 84, 69, 80]⟩]
  have q0 := k.cell 0
  have q1 := k.cell 1
  have q2 := k.cell 2
  have q3 := k.cell 3
  have q4 := k.cell 4
  have q5 := k.cell 5
  have q6 := k.cell 6
  have q7 := k.cell 7
  have q8 := k.cell 8
  have q9 := k.cell 9
  have q10 := k.cell 10
  have q11 := k.cell 11
  have q12 := k.cell 12
  have q13 := k.cell 13
  have q14 := k.cell 14
  simp at q0 q1 q2 q3 q4 q5 q6 q7 q8 q9 q10 q11 q12 q13 q14
  clear k
  go_enter Tryd.func22, Tryd.ntmps22
  go_wp2_with fail
  refine wp_loop_rounds 16 ?_
  rw [rounds_succ]
  by_cases e0 : (⟨#[65, 67, 83, 84]⟩ : ByteArray) = s
  · subst e0
    have HD := Lib.hid (show knownB ⟨#[65, 67, 83, 84]⟩ = true by decide)
    go_wp2
    go_ret
    exact ⟨by rw [HD.out]; rfl, HB.out⟩
  have n0 := lit_ne [65, 67, 83, 84] e0
  have E0 := Lib.hid e0
  clear e0
  go_wp2_with fail
  clear n0 q0
  rw [rounds_succ]
  by_cases e1 : (⟨#[65, 85, 84, 72]⟩ : ByteArray) = s
  · subst e1
    have HD := Lib.hid (show knownB ⟨#[65, 85, 84, 72]⟩ = true by decide)
    go_wp2
    go_ret
    exact ⟨by rw [HD.out]; rfl, HB.out⟩
  have n1 := lit_ne [65, 85, 84, 72] e1
  have E1 := Lib.hid e1
  clear e1
  go_wp2_with fail
  clear n1 q1
  rw [rounds_succ]
  by_cases e2 : (⟨#[65, 85, 84, 79]⟩ : ByteArray) = s
  · subst e2
    have HD := Lib.hid (show knownB ⟨#[65, 85, 84, 79]⟩ = true by decide)
    go_wp2
    go_ret
    exact ⟨by rw [HD.out]; rfl, HB.out⟩
  have n2 := lit_ne [65, 85, 84, 79] e2
  have E2 := Lib.hid e2
  clear e2
  go_wp2_with fail
  clear n2 q2
  rw [rounds_succ]
  by_cases e3 : (⟨#[66, 67, 83, 84]⟩ : ByteArray) = s
  · subst e3
    have HD := Lib.hid (show knownB ⟨#[66, 67, 83, 84]⟩ = true by decide)
    go_wp2
    go_ret
    exact ⟨by rw [HD.out]; rfl, HB.out⟩
  have n3 := lit_ne [66, 67, 83, 84] e3
  have E3 := Lib.hid e3
  clear e3
  go_wp2_with fail
  clear n3 q3
  rw [rounds_succ]
  by_cases e4 : (⟨#[67, 82, 89, 80]⟩ : ByteArray) = s
  · subst e4
    have HD := Lib.hid (show knownB ⟨#[67, 82, 89, 80]⟩ = true by decide)
    go_wp2
    go_ret
    exact ⟨by rw [HD.out]; rfl, HB.out⟩
  have n4 := lit_ne [67, 82, 89, 80] e4
  have E4 := Lib.hid e4
  clear e4
  go_wp2_with fail
  clear n4 q4
  rw [rounds_succ]
  by_cases e5 : (⟨#[68, 69, 78, 89]⟩ : ByteArray) = s
  · subst e5
    have HD := Lib.hid (show knownB ⟨#[68, 69, 78, 89]⟩ = true by decide)
    go_wp2
    go_ret
    exact ⟨by rw [HD.out]; rfl, HB.out⟩
  have n5 := lit_ne [68, 69, 78, 89] e5
  have E5 := Lib.hid e5
  clear e5
  go_wp2_with fail
  clear n5 q5
  rw [rounds_succ]
  by_cases e6 : (⟨#[68, 82, 79, 80]⟩ : ByteArray) = s
  · subst e6
    have HD := Lib.hid (show knownB ⟨#[68, 82, 79, 80]⟩ = true by decide)
    go_wp2
    go_ret
    exact ⟨by rw [HD.out]; rfl, HB.out⟩
  have n6 := lit_ne [68, 82, 79, 80] e6
  have E6 := Lib.hid e6
  clear e6
  go_wp2_with fail
  clear n6 q6
  rw [rounds_succ]
  by_cases e7 : (⟨#[73, 78, 73, 84]⟩ : ByteArray) = s
  · subst e7
    have HD := Lib.hid (show knownB ⟨#[73, 78, 73, 84]⟩ = true by decide)
    go_wp2
    go_ret
    exact ⟨by rw [HD.out]; rfl, HB.out⟩
  have n7 := lit_ne [73, 78, 73, 84] e7
  have E7 := Lib.hid e7
  clear e7
  go_wp2_with fail
  clear n7 q7
  rw [rounds_succ]
  by_cases e8 : (⟨#[77, 67, 83, 84]⟩ : ByteArray) = s
  · subst e8
    have HD := Lib.hid (show knownB ⟨#[77, 67, 83, 84]⟩ = true by decide)
    go_wp2
    go_ret
    exact ⟨by rw [HD.out]; rfl, HB.out⟩
  have n8 := lit_ne [77, 67, 83, 84] e8
  have E8 := Lib.hid e8
  clear e8
  go_wp2_with fail
  clear n8 q8
  rw [rounds_succ]
  by_cases e9 : (⟨#[78, 75, 69, 89]⟩ : ByteArray) = s
  · subst e9
    have HD := Lib.hid (show knownB ⟨#[78, 75, 69, 89]⟩ = true by decide)
    go_wp2
    go_ret
    exact ⟨by rw [HD.out]; rfl, HB.out⟩
  have n9 := lit_ne [78, 75, 69, 89] e9
  have E9 := Lib.hid e9
  clear e9
  go_wp2_with fail
  clear n9 q9
  rw [rounds_succ]
  by_cases e10 : (⟨#[78, 84, 83, 78]⟩ : ByteArray) = s
  · subst e10
    have HD := Lib.hid (show knownB ⟨#[78, 84, 83, 78]⟩ = true by decide)
    go_wp2
    go_ret
    exact ⟨by rw [HD.out]; rfl, HB.out⟩
  have n10 := lit_ne [78, 84, 83, 78] e10
  have E10 := Lib.hid e10
  clear e10
  go_wp2_with fail
  clear n10 q10
  rw [rounds_succ]
  by_cases e11 : (⟨#[82, 65, 84, 69]⟩ : ByteArray) = s
  · subst e11
    have HD := Lib.hid (show knownB ⟨#[82, 65, 84, 69]⟩ = true by decide)
    go_wp2
    go_ret
    exact ⟨by rw [HD.out]; rfl, HB.out⟩
  have n11 := lit_ne [82, 65, 84, 69] e11
  have E11 := Lib.hid e11
  clear e11
  go_wp2_with fail
  clear n11 q11
  rw [rounds_succ]
  by_cases e12 : (⟨#[82, 77, 79, 84]⟩ : ByteArray) = s
  · subst e12
    have HD := Lib.hid (show knownB ⟨#[82, 77, 79, 84]⟩ = true by decide)
    go_wp2
    go_ret
    exact ⟨by rw [HD.out]; rfl, HB.out⟩
  have n12 := lit_ne [82, 77, 79, 84] e12
  have E12 := Lib.hid e12
  clear e12
  go_wp2_with fail
  clear n12 q12
  rw [rounds_succ]
  by_cases e13 : (⟨#[82, 83, 84, 82]⟩ : ByteArray) = s
  · subst e13
    have HD := Lib.hid (show knownB ⟨#[82, 83, 84, 82]⟩ = true by decide)
    go_wp2
    go_ret
    exact ⟨by rw [HD.out]; rfl, HB.out⟩
  have n13 := lit_ne [82, 83, 84, 82] e13
  have E13 := Lib.hid e13
  clear e13
  go_wp2_with fail
  clear n13 q13
  rw [rounds_succ]
  by_cases e14 : (⟨#[83, 84, 69, 80]⟩ : ByteArray) = s
  · subst e14
    have HD := Lib.hid (show knownB ⟨#[83, 84, 69, 80]⟩ = true by decide)
    go_wp2
    go_ret
    exact ⟨by rw [HD.out]; rfl, HB.out⟩
  have n14 := lit_ne [83, 84, 69, 80] e14
  have E14 := Lib.hid e14
  clear e14
  go_wp2_with fail
  clear n14 q14
  rw [rounds_succ]
  have HD := Lib.hid (show knownB s = false by
    unfold knownB codeL
    simp only [List.any_cons, List.any_nil, Bool.or_false, decide_eq_false E0.out, decide_eq_false E1.out, decide_eq_false E2.out, decide_eq_false E3.out, decide_eq_false E4.out, decide_eq_false E5.out, decide_eq_false E6.out, decide_eq_false E7.out, decide_eq_false E8.out, decide_eq_false E9.out, decide_eq_false E10.out, decide_eq_false E11.out, decide_eq_false E12.out, decide_eq_false E13.out, decide_eq_false E14.out])
  go_wp2
  go_ret
  exact ⟨by rw [HD.out]; rfl, HB.out⟩
end Go.Proofs.YtajgnbhcgfgjjaaDoor
