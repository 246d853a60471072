/- KissKnown, the walk. -/
import Derived.Test.YtajgnbhcgfgjjaaDoorKsWorks
import Derived.Test.YtajgnbhcgfgjjaaDoorKsAsks
import Derived.Test.YtajgnbhcgfgjjaaDoorLoad
namespace Go.Proofs.YtajgnbhcgfgjjaaDoor
open Go.RowKit Go.Shelf

theorem headSize : (Tryd.prog.info? 27).map (·.size) = some 16 := by kernel_rfl
theorem stops_deny (w : World) : Calls Tryd.prog 18 #[.agg (hdC 0 4 4 0 0 0 0 0 68 69 78 89 0 0 0 0)] w fun e w' => e = .returned (.bool true) ∧ Below w.heap.size w w' := by
  have h := stops_any 0 4 4 0 0 0 0 0 68 69 78 89 0 0 0 0 w
  rw [show stopB (codeS 4 0 68 69 78 89) = true by decide +kernel] at h
  exact h
theorem slows_deny (w : World) : Calls Tryd.prog 19 #[.agg (hdC 0 4 4 0 0 0 0 0 68 69 78 89 0 0 0 0)] w fun e w' => e = .returned (.bool false) ∧ Below w.heap.size w w' := by
  have h := slows_any 0 4 4 0 0 0 0 0 68 69 78 89 0 0 0 0 w
  rw [show slowB (codeS 4 0 68 69 78 89) = false by decide +kernel] at h
  exact h
theorem stops_rstr (w : World) : Calls Tryd.prog 18 #[.agg (hdC 0 4 4 0 0 0 0 0 82 83 84 82 0 0 0 0)] w fun e w' => e = .returned (.bool true) ∧ Below w.heap.size w w' := by
  have h := stops_any 0 4 4 0 0 0 0 0 82 83 84 82 0 0 0 0 w
  rw [show stopB (codeS 4 0 82 83 84 82) = true by decide +kernel] at h
  exact h
theorem stops_rate (w : World) : Calls Tryd.prog 18 #[.agg (hdC 0 4 4 0 0 0 0 0 82 65 84 69 0 0 0 0)] w fun e w' => e = .returned (.bool false) ∧ Below w.heap.size w w' := by
  have h := stops_any 0 4 4 0 0 0 0 0 82 65 84 69 0 0 0 0 w
  rw [show stopB (codeS 4 0 82 65 84 69) = false by decide +kernel] at h
  exact h
theorem slows_rate (w : World) : Calls Tryd.prog 19 #[.agg (hdC 0 4 4 0 0 0 0 0 82 65 84 69 0 0 0 0)] w fun e w' => e = .returned (.bool true) ∧ Below w.heap.size w w' := by
  have h := slows_any 0 4 4 0 0 0 0 0 82 65 84 69 0 0 0 0 w
  rw [show slowB (codeS 4 0 82 65 84 69) = true by decide +kernel] at h
  exact h
theorem stops_sound (w : World) : Calls Tryd.prog 18 #[.agg (hdC 0 4 4 1 0 0 0 0 0 0 0 0 0 0 1 2)] w fun e w' => e = .returned (.bool false) ∧ Below w.heap.size w w' := by
  have h := stops_any 0 4 4 1 0 0 0 0 0 0 0 0 0 0 1 2 w
  rw [show stopB (codeS 4 1 0 0 0 0) = false by decide +kernel] at h
  exact h
theorem known_not0 (w : World) : Calls Tryd.prog 17 #[.string ⟨#[]⟩] w fun e w' => e = .returned (.bool false) ∧ Below w.heap.size w w' := by
  have h := known_any ⟨#[]⟩ w
  rw [show knownB ⟨#[]⟩ = false by decide +kernel] at h
  exact h
theorem known_not1 (w : World) : Calls Tryd.prog 17 #[.string ⟨#[88, 89, 90, 87]⟩] w fun e w' => e = .returned (.bool false) ∧ Below w.heap.size w w' := by
  have h := known_any ⟨#[88, 89, 90, 87]⟩ w
  rw [show knownB ⟨#[88, 89, 90, 87]⟩ = false by decide +kernel] at h
  exact h
theorem known_not2 (w : World) : Calls Tryd.prog 17 #[.string ⟨#[65, 67, 83, 84, 32, 65, 85, 84, 72]⟩] w fun e w' => e = .returned (.bool false) ∧ Below w.heap.size w w' := by
  have h := known_any ⟨#[65, 67, 83, 84, 32, 65, 85, 84, 72]⟩ w
  rw [show knownB ⟨#[65, 67, 83, 84, 32, 65, 85, 84, 72]⟩ = false by decide +kernel] at h
  exact h
theorem known_all (k : Nat) (hk : k < 15) : ∃ x : ByteArray, (#[.string ⟨#[65, 67, 83, 84]⟩, .string ⟨#[65, 85, 84, 72]⟩, .string ⟨#[65, 85, 84, 79]⟩, .string ⟨#[66, 67, 83, 84]⟩, .string ⟨#[67, 82, 89, 80]⟩, .string ⟨#[68, 69, 78, 89]⟩, .string ⟨#[68, 82, 79, 80]⟩, .string ⟨#[73, 78, 73, 84]⟩, .string ⟨#[77, 67, 83, 84]⟩, .string ⟨#[78, 75, 69, 89]⟩, .string ⟨#[78, 84, 83, 78]⟩, .string ⟨#[82, 65, 84, 69]⟩, .string ⟨#[82, 77, 79, 84]⟩, .string ⟨#[82, 83, 84, 82]⟩, .string ⟨#[83, 84, 69, 80]⟩] : Array Value)[k]? = some (.string x) ∧ knownB x = true := by
  obtain rfl | rfl | rfl | rfl | rfl | rfl | rfl | rfl | rfl | rfl | rfl | rfl | rfl | rfl | rfl : k = 0 ∨ k = 1 ∨ k = 2 ∨ k = 3 ∨ k = 4 ∨ k = 5 ∨ k = 6 ∨ k = 7 ∨ k = 8 ∨ k = 9 ∨ k = 10 ∨ k = 11 ∨ k = 12 ∨ k = 13 ∨ k = 14 := by omega
  · exact ⟨_, rfl, by decide +kernel⟩
  · exact ⟨_, rfl, by decide +kernel⟩
  · exact ⟨_, rfl, by decide +kernel⟩
  · exact ⟨_, rfl, by decide +kernel⟩
  · exact ⟨_, rfl, by decide +kernel⟩
  · exact ⟨_, rfl, by decide +kernel⟩
  · exact ⟨_, rfl, by decide +kernel⟩
  · exact ⟨_, rfl, by decide +kernel⟩
  · exact ⟨_, rfl, by decide +kernel⟩
  · exact ⟨_, rfl, by decide +kernel⟩
  · exact ⟨_, rfl, by decide +kernel⟩
  · exact ⟨_, rfl, by decide +kernel⟩
  · exact ⟨_, rfl, by decide +kernel⟩
  · exact ⟨_, rfl, by decide +kernel⟩
  · exact ⟨_, rfl, by decide +kernel⟩

set_option maxRecDepth 100000 in
set_option maxHeartbeats 4000000 in
theorem kissKnown_walk (w : World) :
    Calls Tryd.prog 6 #[] w fun e w' => e = .returned (.bool true) ∧ Below w.heap.size w w' := by
  have HR := Lib.hid rate_any
  unfold hdC at HR
  go_enter Tryd.func6, Tryd.ntmps6
  go_wp2_with fail
  refine (HR.out _).mono ?_
  rintro e w1 ⟨rfl, b⟩
  have B1 := Lib.hid b
  clear b
  go_wp2_with fail
  refine (HR.out _).mono ?_
  rintro e w2 ⟨rfl, b⟩
  have B2 := Lib.hid (B1.out.trans (b.mono B1.out.size))
  clear b B1 HR
  go_wp2_with fail
  have KD := Lib.hid (((Blk.new w2 27 #[.int .u8 0, .int .u8 4, .int .u8 4, .int .u8 0, .int .i8 0, .int .i8 0, .int .u32 0, .int .u32 0, .int .u8 68, .int .u8 69, .int .u8 78, .int .u8 89, .int .u64 0, .int .u64 0, .int .u64 0, .int .u64 0]).alloc (.cells #[.int .u8 0, .int .u8 4, .int .u8 4, .int .u8 0, .int .i8 0, .int .i8 0, .int .u32 0, .int .u32 0, .int .u8 82, .int .u8 83, .int .u8 84, .int .u8 82, .int .u64 0, .int .u64 0, .int .u64 0, .int .u64 0] 27)).alloc (.cells #[.string ⟨#[65, 67, 83, 84]⟩, .string ⟨#[65, 85, 84, 72]⟩, .string ⟨#[65, 85, 84, 79]⟩, .string ⟨#[66, 67, 83, 84]⟩, .string ⟨#[67, 82, 89, 80]⟩, .string ⟨#[68, 69, 78, 89]⟩, .string ⟨#[68, 82, 79, 80]⟩, .string ⟨#[73, 78, 73, 84]⟩, .string ⟨#[77, 67, 83, 84]⟩, .string ⟨#[78, 75, 69, 89]⟩, .string ⟨#[78, 84, 83, 78]⟩, .string ⟨#[82, 65, 84, 69]⟩, .string ⟨#[82, 77, 79, 84]⟩, .string ⟨#[82, 83, 84, 82]⟩, .string ⟨#[83, 84, 69, 80]⟩] 9))
  have KR := Lib.hid ((Blk.new (w2.alloc (.cells #[.int .u8 0, .int .u8 4, .int .u8 4, .int .u8 0, .int .i8 0, .int .i8 0, .int .u32 0, .int .u32 0, .int .u8 68, .int .u8 69, .int .u8 78, .int .u8 89, .int .u64 0, .int .u64 0, .int .u64 0, .int .u64 0] 27)) 27 #[.int .u8 0, .int .u8 4, .int .u8 4, .int .u8 0, .int .i8 0, .int .i8 0, .int .u32 0, .int .u32 0, .int .u8 82, .int .u8 83, .int .u8 84, .int .u8 82, .int .u64 0, .int .u64 0, .int .u64 0, .int .u64 0]).alloc (.cells #[.string ⟨#[65, 67, 83, 84]⟩, .string ⟨#[65, 85, 84, 72]⟩, .string ⟨#[65, 85, 84, 79]⟩, .string ⟨#[66, 67, 83, 84]⟩, .string ⟨#[67, 82, 89, 80]⟩, .string ⟨#[68, 69, 78, 89]⟩, .string ⟨#[68, 82, 79, 80]⟩, .string ⟨#[73, 78, 73, 84]⟩, .string ⟨#[77, 67, 83, 84]⟩, .string ⟨#[78, 75, 69, 89]⟩, .string ⟨#[78, 84, 83, 78]⟩, .string ⟨#[82, 65, 84, 69]⟩, .string ⟨#[82, 77, 79, 84]⟩, .string ⟨#[82, 83, 84, 82]⟩, .string ⟨#[83, 84, 69, 80]⟩] 9))
  have KS := Lib.hid (Blk.new ((w2.alloc (.cells #[.int .u8 0, .int .u8 4, .int .u8 4, .int .u8 0, .int .i8 0, .int .i8 0, .int .u32 0, .int .u32 0, .int .u8 68, .int .u8 69, .int .u8 78, .int .u8 89, .int .u64 0, .int .u64 0, .int .u64 0, .int .u64 0] 27)).alloc (.cells #[.int .u8 0, .int .u8 4, .int .u8 4, .int .u8 0, .int .i8 0, .int .i8 0, .int .u32 0, .int .u32 0, .int .u8 82, .int .u8 83, .int .u8 84, .int .u8 82, .int .u64 0, .int .u64 0, .int .u64 0, .int .u64 0] 27)) 9 #[.string ⟨#[65, 67, 83, 84]⟩, .string ⟨#[65, 85, 84, 72]⟩, .string ⟨#[65, 85, 84, 79]⟩, .string ⟨#[66, 67, 83, 84]⟩, .string ⟨#[67, 82, 89, 80]⟩, .string ⟨#[68, 69, 78, 89]⟩, .string ⟨#[68, 82, 79, 80]⟩, .string ⟨#[73, 78, 73, 84]⟩, .string ⟨#[77, 67, 83, 84]⟩, .string ⟨#[78, 75, 69, 89]⟩, .string ⟨#[78, 84, 83, 78]⟩, .string ⟨#[82, 65, 84, 69]⟩, .string ⟨#[82, 77, 79, 84]⟩, .string ⟨#[82, 83, 84, 82]⟩, .string ⟨#[83, 84, 69, 80]⟩])
  have B3 := Lib.hid (((B2.out.alloc B2.out.size _).alloc (by have := B2.out.size; simp; omega) _).alloc (by have := B2.out.size; simp; omega) _ : Below w.heap.size w (((w2.alloc (.cells #[.int .u8 0, .int .u8 4, .int .u8 4, .int .u8 0, .int .i8 0, .int .i8 0, .int .u32 0, .int .u32 0, .int .u8 68, .int .u8 69, .int .u8 78, .int .u8 89, .int .u64 0, .int .u64 0, .int .u64 0, .int .u64 0] 27)).alloc (.cells #[.int .u8 0, .int .u8 4, .int .u8 4, .int .u8 0, .int .i8 0, .int .i8 0, .int .u32 0, .int .u32 0, .int .u8 82, .int .u8 83, .int .u8 84, .int .u8 82, .int .u64 0, .int .u64 0, .int .u64 0, .int .u64 0] 27)).alloc (.cells #[.string ⟨#[65, 67, 83, 84]⟩, .string ⟨#[65, 85, 84, 72]⟩, .string ⟨#[65, 85, 84, 79]⟩, .string ⟨#[66, 67, 83, 84]⟩, .string ⟨#[67, 82, 89, 80]⟩, .string ⟨#[68, 69, 78, 89]⟩, .string ⟨#[68, 82, 79, 80]⟩, .string ⟨#[73, 78, 73, 84]⟩, .string ⟨#[77, 67, 83, 84]⟩, .string ⟨#[78, 75, 69, 89]⟩, .string ⟨#[78, 84, 83, 78]⟩, .string ⟨#[82, 65, 84, 69]⟩, .string ⟨#[82, 77, 79, 84]⟩, .string ⟨#[82, 83, 84, 82]⟩, .string ⟨#[83, 84, 69, 80]⟩] 9)))
  simp only [World.size_alloc] at KR KS
  generalize (((w2.alloc (.cells #[.int .u8 0, .int .u8 4, .int .u8 4, .int .u8 0, .int .i8 0, .int .i8 0, .int .u32 0, .int .u32 0, .int .u8 68, .int .u8 69, .int .u8 78, .int .u8 89, .int .u64 0, .int .u64 0, .int .u64 0, .int .u64 0] 27)).alloc (.cells #[.int .u8 0, .int .u8 4, .int .u8 4, .int .u8 0, .int .i8 0, .int .i8 0, .int .u32 0, .int .u32 0, .int .u8 82, .int .u8 83, .int .u8 84, .int .u8 82, .int .u64 0, .int .u64 0, .int .u64 0, .int .u64 0] 27)).alloc (.cells #[.string ⟨#[65, 67, 83, 84]⟩, .string ⟨#[65, 85, 84, 72]⟩, .string ⟨#[65, 85, 84, 79]⟩, .string ⟨#[66, 67, 83, 84]⟩, .string ⟨#[67, 82, 89, 80]⟩, .string ⟨#[68, 69, 78, 89]⟩, .string ⟨#[68, 82, 79, 80]⟩, .string ⟨#[73, 78, 73, 84]⟩, .string ⟨#[77, 67, 83, 84]⟩, .string ⟨#[78, 75, 69, 89]⟩, .string ⟨#[78, 84, 83, 78]⟩, .string ⟨#[82, 65, 84, 69]⟩, .string ⟨#[82, 77, 79, 84]⟩, .string ⟨#[82, 83, 84, 82]⟩, .string ⟨#[83, 84, 69, 80]⟩] 9)) = w3 at *
  generalize w2.heap.size = n at *
  clear B2
  go_loopw [13] (fun i wr => ∃ k : Nat, k ≤ 15 ∧ i = .int .i64 k ∧ Hid (Blk wr n 27 #[.int .u8 0, .int .u8 4, .int .u8 4, .int .u8 0, .int .i8 0, .int .i8 0, .int .u32 0, .int .u32 0, .int .u8 68, .int .u8 69, .int .u8 78, .int .u8 89, .int .u64 0, .int .u64 0, .int .u64 0, .int .u64 0]) ∧ Hid (Blk wr (n + 1) 27 #[.int .u8 0, .int .u8 4, .int .u8 4, .int .u8 0, .int .i8 0, .int .i8 0, .int .u32 0, .int .u32 0, .int .u8 82, .int .u8 83, .int .u8 84, .int .u8 82, .int .u64 0, .int .u64 0, .int .u64 0, .int .u64 0]) ∧ Hid (Blk wr (n + 1 + 1) 9 #[.string ⟨#[65, 67, 83, 84]⟩, .string ⟨#[65, 85, 84, 72]⟩, .string ⟨#[65, 85, 84, 79]⟩, .string ⟨#[66, 67, 83, 84]⟩, .string ⟨#[67, 82, 89, 80]⟩, .string ⟨#[68, 69, 78, 89]⟩, .string ⟨#[68, 82, 79, 80]⟩, .string ⟨#[73, 78, 73, 84]⟩, .string ⟨#[77, 67, 83, 84]⟩, .string ⟨#[78, 75, 69, 89]⟩, .string ⟨#[78, 84, 83, 78]⟩, .string ⟨#[82, 65, 84, 69]⟩, .string ⟨#[82, 77, 79, 84]⟩, .string ⟨#[82, 83, 84, 82]⟩, .string ⟨#[83, 84, 69, 80]⟩]) ∧ Hid (Below w.heap.size w wr)) (fun i _ => 15 - (intOf i).toNat)
  case atStart => exact ⟨0, by omega, rfl, KD, KR, KS, B3⟩
  case round =>
    clear KD KR KS B3
    obtain ⟨k, hk, rfl, KD, KR, KS, B3⟩ := hrel
    by_cases hlt : k < 15
    · obtain ⟨x, hx, hkx⟩ := known_all k hlt
      have q := (KS.out.cell k).trans hx
      have HX := Lib.hid (fun W => known_any x W)
      rw [hkx] at HX
      clear hx hkx
      go_wp2_with fail
      refine (HX.out _).mono ?_
      rintro e w4 ⟨rfl, b⟩
      have KD4 := Lib.hid (KD.out.keep b)
      have KR4 := Lib.hid (KR.out.keep b)
      have KS4 := Lib.hid (KS.out.keep b)
      have B4 := Lib.hid (B3.out.trans (b.mono B3.out.size))
      clear b
      go_wp2_with fail
      go_roundw
      case rel => exact ⟨k + 1, by omega, by go_num, KD4, KR4, KS4, B4⟩
      case measure => simp [intOf]; omega
    · obtain rfl : k = 15 := by omega
      clear KS
      go_wp2_with fail
      refine (works_any _).mono ?_
      rintro e w4 ⟨rfl, b⟩
      have KD4 := Lib.hid (KD.out.keep b)
      have KR4 := Lib.hid (KR.out.keep b)
      have B4 := Lib.hid (B3.out.trans (b.mono B3.out.size))
      clear b KD KR B3
      go_wp2_with fail
      refine (known_not0 _).mono ?_
      rintro e w5 ⟨rfl, b⟩
      have KD5 := Lib.hid (KD4.out.keep b)
      have KR5 := Lib.hid (KR4.out.keep b)
      have B5 := Lib.hid (B4.out.trans (b.mono B4.out.size))
      clear b KD4 KR4 B4
      go_wp2_with fail
      refine (known_not1 _).mono ?_
      rintro e w6 ⟨rfl, b⟩
      have KD6 := Lib.hid (KD5.out.keep b)
      have KR6 := Lib.hid (KR5.out.keep b)
      have B6 := Lib.hid (B5.out.trans (b.mono B5.out.size))
      clear b KD5 KR5 B5
      go_wp2_with fail
      refine (known_not2 _).mono ?_
      rintro e w7 ⟨rfl, b⟩
      have KD7 := Lib.hid (KD6.out.keep b)
      have KR7 := Lib.hid (KR6.out.keep b)
      have B7 := Lib.hid (B6.out.trans (b.mono B6.out.size))
      clear b KD6 KR6 B6
      go_wp2_with (refine wpList_load_blk 27 (.tmp 1) n 27 (hdC 0 4 4 0 0 0 0 0 68 69 78 89 0 0 0 0) _ KD7.out rfl rfl Tryd.underlying27 rfl headSize rfl ?_)
      refine (stops_deny _).mono ?_
      rintro e w8 ⟨rfl, b⟩
      have KD8 := Lib.hid (KD7.out.keep b)
      have KR8 := Lib.hid (KR7.out.keep b)
      have B8 := Lib.hid (B7.out.trans (b.mono B7.out.size))
      clear b KD7 KR7 B7
      go_wp2_with (refine wpList_load_blk 27 (.tmp 2) (n + 1) 27 (hdC 0 4 4 0 0 0 0 0 82 83 84 82 0 0 0 0) _ KR8.out rfl rfl Tryd.underlying27 rfl headSize rfl ?_)
      refine (stops_rstr _).mono ?_
      rintro e w9 ⟨rfl, b⟩
      have KD9 := Lib.hid (KD8.out.keep b)
      have KR9 := Lib.hid (KR8.out.keep b)
      have B9 := Lib.hid (B8.out.trans (b.mono B8.out.size))
      clear b KD8 KR8 B8
      go_wp2_with fail
      refine (rate_any _).mono ?_
      rintro e w10 ⟨rfl, b⟩
      have KD10 := Lib.hid (KD9.out.keep b)
      have KR10 := Lib.hid (KR9.out.keep b)
      have B10 := Lib.hid (B9.out.trans (b.mono B9.out.size))
      clear b KD9 KR9 B9
      go_wp2_with fail
      refine (stops_rate _).mono ?_
      rintro e w11 ⟨rfl, b⟩
      have KD11 := Lib.hid (KD10.out.keep b)
      have KR11 := Lib.hid (KR10.out.keep b)
      have B11 := Lib.hid (B10.out.trans (b.mono B10.out.size))
      clear b KD10 KR10 B10
      go_wp2_with fail
      refine (rate_any _).mono ?_
      rintro e w12 ⟨rfl, b⟩
      have KD12 := Lib.hid (KD11.out.keep b)
      have KR12 := Lib.hid (KR11.out.keep b)
      have B12 := Lib.hid (B11.out.trans (b.mono B11.out.size))
      clear b KD11 KR11 B11
      go_wp2_with fail
      refine (slows_rate _).mono ?_
      rintro e w13 ⟨rfl, b⟩
      have KD13 := Lib.hid (KD12.out.keep b)
      have KR13 := Lib.hid (KR12.out.keep b)
      have B13 := Lib.hid (B12.out.trans (b.mono B12.out.size))
      clear b KD12 KR12 B12
      go_wp2_with (refine wpList_load_blk 27 (.tmp 1) n 27 (hdC 0 4 4 0 0 0 0 0 68 69 78 89 0 0 0 0) _ KD13.out rfl rfl Tryd.underlying27 rfl headSize rfl ?_)
      refine (slows_deny _).mono ?_
      rintro e w14 ⟨rfl, b⟩
      have KD14 := Lib.hid (KD13.out.keep b)
      have KR14 := Lib.hid (KR13.out.keep b)
      have B14 := Lib.hid (B13.out.trans (b.mono B13.out.size))
      clear b KD13 KR13 B13
      go_wp2_with fail
      refine (sound_any _).mono ?_
      rintro e w15 ⟨rfl, b⟩
      have KD15 := Lib.hid (KD14.out.keep b)
      have KR15 := Lib.hid (KR14.out.keep b)
      have B15 := Lib.hid (B14.out.trans (b.mono B14.out.size))
      clear b KD14 KR14 B14
      go_wp2_with fail
      refine (stops_sound _).mono ?_
      rintro e w16 ⟨rfl, b⟩
      have KD16 := Lib.hid (KD15.out.keep b)
      have KR16 := Lib.hid (KR15.out.keep b)
      have B16 := Lib.hid (B15.out.trans (b.mono B15.out.size))
      clear b KD15 KR15 B15
      go_wp2_with fail
      go_ret
      exact ⟨rfl, B16.out⟩
end Go.Proofs.YtajgnbhcgfgjjaaDoor
