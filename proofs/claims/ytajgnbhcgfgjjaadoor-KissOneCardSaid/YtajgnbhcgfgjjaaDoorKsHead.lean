/- Headers: codes. -/
import Derived.Test.YtajgnbhcgfgjjaaDoorKsKnown
namespace Go.Proofs.YtajgnbhcgfgjjaaDoor
open Go.RowKit Go.Shelf

/-- A header's cells. -/
def hdC (l v m s p q rd rp a b c d rf og rc xm : Int) : Array Value :=
  #[.int .u8 l, .int .u8 v, .int .u8 m, .int .u8 s, .int .i8 p, .int .i8 q, .int .u32 rd, .int .u32 rp, .int .u8 a, .int .u8 b, .int .u8 c, .int .u8 d, .int .u64 rf, .int .u64 og, .int .u64 rc, .int .u64 xm]

/-- A time is ahead of another one. -/
def aheadB (a b : Int) : Bool := decide (9223372036854775808 ≤ (a - b) % 18446744073709551616)

theorem ahead_any (a b : Int) (w : World) : Calls Tryd.prog 23 #[.int .u64 a, .int .u64 b] w fun e w' => e = .returned (.bool (aheadB a b)) ∧ w = w' := by
  have HE := Lib.hid (show decide (wrap64 (IntKind.u64.wrap (a - b)) < 0) = aheadB a b by
    unfold aheadB
    rw [decide_eq_decide]
    simp [IntKind.wrap, IntKind.bits, IntKind.signed, wrap64]
    omega)
  go_enter Tryd.func23, Tryd.ntmps23
  go_wp2
  go_ret
  exact ⟨by rw [← HE.out]; rfl, rfl⟩

set_option maxRecDepth 100000 in
theorem rate_any (w : World) : Calls Tryd.prog 16 #[] w fun e w' => e = .returned (.agg (hdC 0 4 4 0 0 0 0 0 82 65 84 69 0 0 0 0)) ∧ Below w.heap.size w w' := by
  go_enter Tryd.func16, Tryd.ntmps16
  go_wp2
  have k := Blk.new w 27 #[.int .u8 0, .int .u8 4, .int .u8 4, .int .u8 0, .int .i8 0, .int .i8 0, .int .u32 0, .int .u32 0, .int .u8 82, .int .u8 65, .int .u8 84, .int .u8 69, .int .u64 0, .int .u64 0, .int .u64 0, .int .u64 0]
  have hb : Below w.heap.size w (w.alloc (.cells #[.int .u8 0, .int .u8 4, .int .u8 4, .int .u8 0, .int .i8 0, .int .i8 0, .int .u32 0, .int .u32 0, .int .u8 82, .int .u8 65, .int .u8 84, .int .u8 69, .int .u64 0, .int .u64 0, .int .u64 0, .int .u64 0] 27)) := (Below.refl _ w).alloc (Nat.le_refl _) _
  generalize w.alloc (.cells #[.int .u8 0, .int .u8 4, .int .u8 4, .int .u8 0, .int .i8 0, .int .i8 0, .int .u32 0, .int .u32 0, .int .u8 82, .int .u8 65, .int .u8 84, .int .u8 69, .int .u64 0, .int .u64 0, .int .u64 0, .int .u64 0] 27) = w1 at *
  have q0 := k.cell 0
  have q1 := k.cell 1
  have q2 := k.cell 2
  have q3 := k.cell 3
  have q4 := k.cell 4
  have q5 := k.cell 5
  have q6 := k.cell 6
  have q7 := k.cell 7
  have q8 := k.cell 8
  have q9 := k.cell 9
  have q10 := k.cell 10
  have q11 := k.cell 11
  have q12 := k.cell 12
  have q13 := k.cell 13
  have q14 := k.cell 14
  have q15 := k.cell 15
  simp at q0 q1 q2 q3 q4 q5 q6 q7 q8 q9 q10 q11 q12 q13 q14 q15
  refine bodyPost_ret (v := .agg #[.int .u8 0, .int .u8 4, .int .u8 4, .int .u8 0, .int .i8 0, .int .i8 0, .int .u32 0, .int .u32 0, .int .u8 82, .int .u8 65, .int .u8 84, .int .u8 69, .int .u64 0, .int .u64 0, .int .u64 0, .int .u64 0]) (by simp [results, Tryd.results16, go_sem, q0, q1, q2, q3, q4, q5, q6, q7, q8, q9, q10, q11, q12, q13, q14, q15]) rfl ⟨rfl, hb⟩

set_option maxRecDepth 100000 in
theorem sound_any (w : World) : Calls Tryd.prog 15 #[] w fun e w' => e = .returned (.agg (hdC 0 4 4 1 0 0 0 0 0 0 0 0 0 0 1 2)) ∧ Below w.heap.size w w' := by
  go_enter Tryd.func15, Tryd.ntmps15
  go_wp2
  have k := Blk.new w 27 #[.int .u8 0, .int .u8 4, .int .u8 4, .int .u8 1, .int .i8 0, .int .i8 0, .int .u32 0, .int .u32 0, .int .u8 0, .int .u8 0, .int .u8 0, .int .u8 0, .int .u64 0, .int .u64 0, .int .u64 1, .int .u64 2]
  have hb : Below w.heap.size w (w.alloc (.cells #[.int .u8 0, .int .u8 4, .int .u8 4, .int .u8 1, .int .i8 0, .int .i8 0, .int .u32 0, .int .u32 0, .int .u8 0, .int .u8 0, .int .u8 0, .int .u8 0, .int .u64 0, .int .u64 0, .int .u64 1, .int .u64 2] 27)) := (Below.refl _ w).alloc (Nat.le_refl _) _
  generalize w.alloc (.cells #[.int .u8 0, .int .u8 4, .int .u8 4, .int .u8 1, .int .i8 0, .int .i8 0, .int .u32 0, .int .u32 0, .int .u8 0, .int .u8 0, .int .u8 0, .int .u8 0, .int .u64 0, .int .u64 0, .int .u64 1, .int .u64 2] 27) = w1 at *
  have q0 := k.cell 0
  have q1 := k.cell 1
  have q2 := k.cell 2
  have q3 := k.cell 3
  have q4 := k.cell 4
  have q5 := k.cell 5
  have q6 := k.cell 6
  have q7 := k.cell 7
  have q8 := k.cell 8
  have q9 := k.cell 9
  have q10 := k.cell 10
  have q11 := k.cell 11
  have q12 := k.cell 12
  have q13 := k.cell 13
  have q14 := k.cell 14
  have q15 := k.cell 15
  simp at q0 q1 q2 q3 q4 q5 q6 q7 q8 q9 q10 q11 q12 q13 q14 q15
  refine bodyPost_ret (v := .agg #[.int .u8 0, .int .u8 4, .int .u8 4, .int .u8 1, .int .i8 0, .int .i8 0, .int .u32 0, .int .u32 0, .int .u8 0, .int .u8 0, .int .u8 0, .int .u8 0, .int .u64 0, .int .u64 0, .int .u64 1, .int .u64 2]) (by simp [results, Tryd.results15, go_sem, q0, q1, q2, q3, q4, q5, q6, q7, q8, q9, q10, q11, q12, q13, q14, q15]) rfl ⟨rfl, hb⟩

end Go.Proofs.YtajgnbhcgfgjjaaDoor
