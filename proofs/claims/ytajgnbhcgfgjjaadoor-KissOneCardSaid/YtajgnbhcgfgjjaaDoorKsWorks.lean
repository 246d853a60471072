/- The document's examples. -/
import Derived.Test.YtajgnbhcgfgjjaaDoorKsFails
import Derived.Test.YtajgnbhcgfgjjaaDoorKsCode
namespace Go.Proofs.YtajgnbhcgfgjjaaDoor
open Go.RowKit Go.Shelf

theorem code_rate (w : World) : Calls Tryd.prog 20 #[.agg (hdC 0 4 4 0 0 0 0 0 82 65 84 69 0 0 0 0)] w fun e w' => e = .returned (.tuple #[.string ⟨#[82, 65, 84, 69]⟩, .bool true]) ∧ Below w.heap.size w w' := by
  have h := code_any 0 4 4 0 0 0 0 0 82 65 84 69 0 0 0 0 w
  have e1 : codeS 4 0 82 65 84 69 = ⟨#[82, 65, 84, 69]⟩ := by decide +kernel
  have e2 : codeB 4 0 82 65 84 69 = true := by decide +kernel
  rw [e1, e2] at h
  exact h
theorem code_sound (w : World) : Calls Tryd.prog 20 #[.agg (hdC 0 4 4 1 0 0 0 0 0 0 0 0 0 0 1 2)] w fun e w' => e = .returned (.tuple #[.string ⟨#[]⟩, .bool false]) ∧ Below w.heap.size w w' := by
  have h := code_any 0 4 4 1 0 0 0 0 0 0 0 0 0 0 1 2 w
  have e1 : codeS 4 1 0 0 0 0 = ⟨#[]⟩ := by decide +kernel
  have e2 : codeB 4 1 0 0 0 0 = false := by decide +kernel
  rw [e1, e2] at h
  exact h
theorem parse_lm (w : World) : Calls Tryd.prog 12 #[.string ⟨#[108, 101, 97, 112, 44, 109, 111, 100, 101]⟩] w fun e w' => e = .returned (.tuple #[.int .u8 0, .int .i64 9]) ∧ Below w.heap.size w w' := by
  have h := parse_any ⟨#[108, 101, 97, 112, 44, 109, 111, 100, 101]⟩ (by decide) w
  have e1 : ¬ (⟨(txt (outOf ⟨#[108, 101, 97, 112, 44, 109, 111, 100, 101]⟩)).toArray⟩ : ByteArray) = ⟨#[108, 101, 97, 112, 44, 109, 111, 100, 101]⟩ := by decide +kernel
  rw [parsed, if_neg e1] at h
  exact h
theorem fails_sound (w : World) : Calls Tryd.prog 8 #[.agg (hdC 0 4 4 1 0 0 0 0 0 0 0 0 0 0 1 2)] w fun e w' => e = .returned (.int .u8 0) ∧ Below w.heap.size w w' := by
  have h := fails_any 0 4 4 1 0 0 0 0 0 0 0 0 0 0 1 2 w (by omega) (by omega) (by omega) (by omega)
  have e1 : bitsN [f0B 4, (4 : Int) != 4, (0 : Int) == 3, f3B 1, rootB 0 0, f5B 1 2, aheadB 2 1, f7B 0 2] 1 = 0 := by decide +kernel
  rw [e1] at h
  exact h
theorem fails_none (w : World) : Calls Tryd.prog 8 #[.agg #[.int .u8 0, .int .u8 0, .int .u8 0, .int .u8 0, .int .i8 0, .int .i8 0, .int .u32 0, .int .u32 0, .int .u8 0, .int .u8 0, .int .u8 0, .int .u8 0, .int .u64 0, .int .u64 0, .int .u64 0, .int .u64 0]] w fun e w' => e = .returned (.int .u8 43) ∧ Below w.heap.size w w' := by
  have h := fails_any 0 0 0 0 0 0 0 0 0 0 0 0 0 0 0 0 w (by omega) (by omega) (by omega) (by omega)
  have e1 : bitsN [f0B 0, (0 : Int) != 4, (0 : Int) == 3, f3B 0, rootB 0 0, f5B 0 0, aheadB 0 0, f7B 0 0] 1 = 43 := by decide +kernel
  rw [e1] at h
  exact h
theorem text_ten (w : World) : Calls Tryd.prog 11 #[.int .u8 10] w fun e w' => e = .returned (.string ⟨#[109, 111, 100, 101, 44, 115, 116, 114, 97, 116, 117, 109]⟩) ∧ Below w.heap.size w w' := by
  have h := text_any 10 (by omega) w
  have e1 : (⟨(txt 10).toArray⟩ : ByteArray) = ⟨#[109, 111, 100, 101, 44, 115, 116, 114, 97, 116, 117, 109]⟩ := by decide +kernel
  rw [e1] at h
  exact h

set_option maxRecDepth 100000 in
set_option maxHeartbeats 2000000 in
theorem works_any (w : World) : Calls Tryd.prog 10 #[] w fun e w' => e = .returned (.bool true) ∧ Below w.heap.size w w' := by
  go_enter Tryd.func10, Tryd.ntmps10
  have B0 := Lib.hid (Below.refl w.heap.size w)
  go_wp2_with fail
  refine (rate_any _).mono ?_
  rintro e w1 ⟨rfl, b⟩
  have B1 := Lib.hid (B0.out.trans (b.mono B0.out.size))
  clear b B0
  go_wp2_with fail
  refine (code_rate _).mono ?_
  rintro e w2 ⟨rfl, b⟩
  have B2 := Lib.hid (B1.out.trans (b.mono B1.out.size))
  clear b B1
  go_wp2_with fail
  refine (sound_any _).mono ?_
  rintro e w3 ⟨rfl, b⟩
  have B3 := Lib.hid (B2.out.trans (b.mono B2.out.size))
  clear b B2
  go_wp2_with fail
  refine (code_sound _).mono ?_
  rintro e w4 ⟨rfl, b⟩
  have B4 := Lib.hid (B3.out.trans (b.mono B3.out.size))
  clear b B3
  go_wp2_with fail
  refine (parse_lm _).mono ?_
  rintro e w5 ⟨rfl, b⟩
  have B5 := Lib.hid (B4.out.trans (b.mono B4.out.size))
  clear b B4
  go_wp2_with fail
  refine (sound_any _).mono ?_
  rintro e w6 ⟨rfl, b⟩
  have B6 := Lib.hid (B5.out.trans (b.mono B5.out.size))
  clear b B5
  go_wp2_with fail
  refine (fails_sound _).mono ?_
  rintro e w7 ⟨rfl, b⟩
  have B7 := Lib.hid (B6.out.trans (b.mono B6.out.size))
  clear b B6
  go_wp2_with fail
  refine (fails_none _).mono ?_
  rintro e w8 ⟨rfl, b⟩
  have B8 := Lib.hid (B7.out.trans (b.mono B7.out.size))
  clear b B7
  go_wp2_with fail
  refine (text_ten _).mono ?_
  rintro e w9 ⟨rfl, b⟩
  have B9 := Lib.hid (B8.out.trans (b.mono B8.out.size))
  clear b B8
  go_wp2_with fail
  go_ret
  exact ⟨rfl, B9.out⟩
end Go.Proofs.YtajgnbhcgfgjjaaDoor
