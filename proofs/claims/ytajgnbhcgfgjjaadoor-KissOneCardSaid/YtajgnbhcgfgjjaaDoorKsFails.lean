/- What a header fails. -/
import Derived.Test.YtajgnbhcgfgjjaaDoorKsHead
import Derived.BigQuiet
import Derived.Deep.DeepCutAuto
namespace Go.Proofs.YtajgnbhcgfgjjaaDoor
open Go.RowKit Go.Shelf

/-- What a header fails, reason by reason. -/
def rootB (rd rp : Int) : Bool := decide (2097152 ≤ rd + 2 * rp)
def f0B (v : Int) : Bool := decide (v < 1) || decide (4 < v)
def f3B (s : Int) : Bool := (s == 0) || decide (15 < s)
def f5B (rc xm : Int) : Bool := (rc == 0) || (xm == 0)
def f7B (rf xm : Int) : Bool := (rf != 0) && aheadB xm rf

/-- The number that bools are the bits of. -/
def bitsN : List Bool → Nat → Int
  | [], _ => 0
  | b :: l, k => (if b then k else 0) + bitsN l (2 * k)

theorem bits_no0 : bitsN [false] 1 = bitsN [] 1 := by decide +kernel
theorem bits_yes0 : bits BinOp.or IntKind.u8 (bitsN [] 1) 1 = bitsN [true] 1 := by decide +kernel
theorem bits_no1 : ∀ b0 : Bool, bitsN [b0, false] 1 = bitsN [b0] 1 := by decide +kernel
theorem bits_yes1 : ∀ b0 : Bool, bits BinOp.or IntKind.u8 (bitsN [b0] 1) 2 = bitsN [b0, true] 1 := by decide +kernel
theorem bits_no2 : ∀ b0 b1 : Bool, bitsN [b0, b1, false] 1 = bitsN [b0, b1] 1 := by decide +kernel
theorem bits_yes2 : ∀ b0 b1 : Bool, bits BinOp.or IntKind.u8 (bitsN [b0, b1] 1) 4 = bitsN [b0, b1, true] 1 := by decide +kernel
theorem bits_no3 : ∀ b0 b1 b2 : Bool, bitsN [b0, b1, b2, false] 1 = bitsN [b0, b1, b2] 1 := by decide +kernel
theorem bits_yes3 : ∀ b0 b1 b2 : Bool, bits BinOp.or IntKind.u8 (bitsN [b0, b1, b2] 1) 8 = bitsN [b0, b1, b2, true] 1 := by decide +kernel
theorem bits_no4 : ∀ b0 b1 b2 b3 : Bool, bitsN [b0, b1, b2, b3, false] 1 = bitsN [b0, b1, b2, b3] 1 := by decide +kernel
theorem bits_yes4 : ∀ b0 b1 b2 b3 : Bool, bits BinOp.or IntKind.u8 (bitsN [b0, b1, b2, b3] 1) 16 = bitsN [b0, b1, b2, b3, true] 1 := by decide +kernel
theorem bits_no5 : ∀ b0 b1 b2 b3 b4 : Bool, bitsN [b0, b1, b2, b3, b4, false] 1 = bitsN [b0, b1, b2, b3, b4] 1 := by decide +kernel
theorem bits_yes5 : ∀ b0 b1 b2 b3 b4 : Bool, bits BinOp.or IntKind.u8 (bitsN [b0, b1, b2, b3, b4] 1) 32 = bitsN [b0, b1, b2, b3, b4, true] 1 := by decide +kernel
theorem bits_no6 : ∀ b0 b1 b2 b3 b4 b5 : Bool, bitsN [b0, b1, b2, b3, b4, b5, false] 1 = bitsN [b0, b1, b2, b3, b4, b5] 1 := by decide +kernel
theorem bits_yes6 : ∀ b0 b1 b2 b3 b4 b5 : Bool, bits BinOp.or IntKind.u8 (bitsN [b0, b1, b2, b3, b4, b5] 1) 64 = bitsN [b0, b1, b2, b3, b4, b5, true] 1 := by decide +kernel
theorem bits_no7 : ∀ b0 b1 b2 b3 b4 b5 b6 : Bool, bitsN [b0, b1, b2, b3, b4, b5, b6, false] 1 = bitsN [b0, b1, b2, b3, b4, b5, b6] 1 := by decide +kernel
theorem bits_yes7 : ∀ b0 b1 b2 b3 b4 b5 b6 : Bool, bits BinOp.or IntKind.u8 (bitsN [b0, b1, b2, b3, b4, b5, b6] 1) 128 = bitsN [b0, b1, b2, b3, b4, b5, b6, true] 1 := by decide +kernel

def BoolsAt (b0 b1 b2 b3 b4 b5 b6 b7 : Bool) (v : Value) : Prop := v = .agg #[.bool b0, .bool b1, .bool b2, .bool b3, .bool b4, .bool b5, .bool b6, .bool b7]

set_option maxRecDepth 100000 in
set_option maxHeartbeats 8000000 in
theorem fails_bools (l v m s p q rd rp a b c d rf og rc xm : Int) (w : World) (h1 : 0 ≤ rd) (h2 : rd < 4294967296) (h3 : 0 ≤ rp) (h4 : rp < 4294967296)
    (b0 b1 b2 b3 b4 b5 b6 b7 : Bool) (H0 : Hid (f0B v = b0)) (H1 : Hid ((m != 4) = b1)) (H2 : Hid ((l == 3) = b2)) (H3 : Hid (f3B s = b3)) (H4 : Hid (rootB rd rp = b4)) (H5 : Hid (f5B rc xm = b5)) (H6 : Hid (aheadB xm rc = b6)) (H7 : Hid (f7B rf xm = b7)) :
    Calls Tryd.prog 8 #[.agg (hdC l v m s p q rd rp a b c d rf og rc xm)] w fun e w' => e = .returned (.int .u8 (bitsN [b0, b1, b2, b3, b4, b5, b6, b7] 1)) ∧ Below w.heap.size w w' := by
  unfold hdC
  have k := Blk.new w 27 #[.int .u8 l, .int .u8 v, .int .u8 m, .int .u8 s, .int .i8 p, .int .i8 q, .int .u32 rd, .int .u32 rp, .int .u8 a, .int .u8 b, .int .u8 c, .int .u8 d, .int .u64 rf, .int .u64 og, .int .u64 rc, .int .u64 xm]
  have hb : Below w.heap.size w (w.alloc (.cells #[.int .u8 l, .int .u8 v, .int .u8 m, .int .u8 s, .int .i8 p, .int .i8 q, .int .u32 rd, .int .u32 rp, .int .u8 a, .int .u8 b, .int .u8 c, .int .u8 d, .int .u64 rf, .int .u64 og, .int .u64 rc, .int .u64 xm] 27)) := (Below.refl _ w).alloc (Nat.le_refl _) _
  have q1 := k.cell 1
  have q2 := k.cell 2
  have q0 := k.cell 0
  have q3 := k.cell 3
  have q6 := k.cell 6
  have q7 := k.cell 7
  have q12 := k.cell 12
  have q14 := k.cell 14
  have q15 := k.cell 15
  simp at q0 q1 q2 q3 q6 q7 q12 q14 q15
  clear k
  have w1 : IntKind.u64.wrap rd = rd := by simp [IntKind.wrap, IntKind.bits, IntKind.signed]; omega
  have w2 : IntKind.u64.wrap rp = rp := by simp [IntKind.wrap, IntKind.bits, IntKind.signed]; omega
  have w3 : IntKind.u64.wrap (2 * rp) = 2 * rp := by simp [IntKind.wrap, IntKind.bits, IntKind.signed]; omega
  have w4 : IntKind.u64.wrap (rd + 2 * rp) = rd + 2 * rp := by simp [IntKind.wrap, IntKind.bits, IntKind.signed]; omega
  have ha := ahead_any
  have HB := Lib.hid hb
  clear hb
  go_enter Tryd.func8, Tryd.ntmps8
  go_upto_region 2 with fail
  go_cut [3, 60, 61] (fun v3 v60 v61 wx => v3 = .int .u8 0 ∧ v61 = .int .i64 0 ∧ BoolsAt b0 b1 b2 b3 b4 b5 b6 b7 v60 ∧ Below w.heap.size w wx)
  case first =>
    refine wp_region_quiet_lit (by kernel_rfl) (by kernel_rfl) ?_
    repeat (go_big_quiet_step (exact (ha _ _ _).mono fun e w' ⟨h1, h2⟩ => ⟨h1, _, h2.symm⟩))
    all_goals (rcases Bool.eq_false_or_eq_true (decide (v < 1)) with g0 | g0)
    all_goals (rw [g0]; repeat (go_big_quiet_step (exact (ha _ _ _).mono fun e w' ⟨h1, h2⟩ => ⟨h1, _, h2.symm⟩)))
    all_goals (rcases Bool.eq_false_or_eq_true (s == 0) with g1 | g1)
    all_goals (rw [g1]; repeat (go_big_quiet_step (exact (ha _ _ _).mono fun e w' ⟨h1, h2⟩ => ⟨h1, _, h2.symm⟩)))
    all_goals (rcases Bool.eq_false_or_eq_true (rc == 0) with g2 | g2)
    all_goals (rw [g2]; repeat (go_big_quiet_step (exact (ha _ _ _).mono fun e w' ⟨h1, h2⟩ => ⟨h1, _, h2.symm⟩)))
    all_goals (rcases Bool.eq_false_or_eq_true (rf != 0) with g3 | g3)
    all_goals (rw [g3]; repeat (go_big_quiet_step (exact (ha _ _ _).mono fun e w' ⟨h1, h2⟩ => ⟨h1, _, h2.symm⟩)))
    all_goals (refine wpQuiet_nil ?_; intro _ hw'; obtain ⟨nq, hw''⟩ := hw'; subst hw'')
    all_goals go_wp2_with fail
    all_goals go_meet
    all_goals
      refine ⟨rfl, rfl, ?_, ⟨HB.out.os, HB.out.tape, HB.out.output, HB.out.size, HB.out.block⟩⟩
      unfold BoolsAt
      rw [← H0.out, ← H1.out, ← H2.out, ← H3.out, ← H4.out, ← H5.out, ← H6.out, ← H7.out]
      unfold f0B f3B f5B f7B rootB
      simp [*]
  case rest =>
    obtain ⟨rfl, rfl, hv, HBx⟩ := hcut
    unfold BoolsAt at hv
    subst hv
    have HBy := Lib.hid HBx
    clear HBx w1 w2 w3 w4 ha q0 q1 q2 q3 q6 q7 q12 q14 q15
    go_wp2_with fail
    have i0 : ∀ w, (Instr.index 49 (.agg #[.bool b0, .bool b1, .bool b2, .bool b3, .bool b4, .bool b5, .bool b6, .bool b7]) (.int .i64 0)).run Tryd.prog w = .ok (.bool b0) w := fun _ => by kernel_rfl
    have i1 : ∀ w, (Instr.index 49 (.agg #[.bool b0, .bool b1, .bool b2, .bool b3, .bool b4, .bool b5, .bool b6, .bool b7]) (.int .i64 1)).run Tryd.prog w = .ok (.bool b1) w := fun _ => by kernel_rfl
    have i2 : ∀ w, (Instr.index 49 (.agg #[.bool b0, .bool b1, .bool b2, .bool b3, .bool b4, .bool b5, .bool b6, .bool b7]) (.int .i64 2)).run Tryd.prog w = .ok (.bool b2) w := fun _ => by kernel_rfl
    have i3 : ∀ w, (Instr.index 49 (.agg #[.bool b0, .bool b1, .bool b2, .bool b3, .bool b4, .bool b5, .bool b6, .bool b7]) (.int .i64 3)).run Tryd.prog w = .ok (.bool b3) w := fun _ => by kernel_rfl
    have i4 : ∀ w, (Instr.index 49 (.agg #[.bool b0, .bool b1, .bool b2, .bool b3, .bool b4, .bool b5, .bool b6, .bool b7]) (.int .i64 4)).run Tryd.prog w = .ok (.bool b4) w := fun _ => by kernel_rfl
    have i5 : ∀ w, (Instr.index 49 (.agg #[.bool b0, .bool b1, .bool b2, .bool b3, .bool b4, .bool b5, .bool b6, .bool b7]) (.int .i64 5)).run Tryd.prog w = .ok (.bool b5) w := fun _ => by kernel_rfl
    have i6 : ∀ w, (Instr.index 49 (.agg #[.bool b0, .bool b1, .bool b2, .bool b3, .bool b4, .bool b5, .bool b6, .bool b7]) (.int .i64 6)).run Tryd.prog w = .ok (.bool b6) w := fun _ => by kernel_rfl
    have i7 : ∀ w, (Instr.index 49 (.agg #[.bool b0, .bool b1, .bool b2, .bool b3, .bool b4, .bool b5, .bool b6, .bool b7]) (.int .i64 7)).run Tryd.prog w = .ok (.bool b7) w := fun _ => by kernel_rfl
    go_loop [3, 61] (fun x i => ∃ (k : Nat) (n : Int), k ≤ 8 ∧ i = .int .i64 k ∧ x = .int .u8 n ∧ Hid (n = bitsN ([b0, b1, b2, b3, b4, b5, b6, b7].take k) 1)) (fun _ i => 8 - (intOf i).toNat)
    case atStart => exact ⟨0, 0, by omega, rfl, rfl, Lib.hid rfl⟩
    case round =>
      obtain ⟨k, n, hk, rfl, rfl, hn⟩ := hrel
      obtain rfl | rfl | rfl | rfl | rfl | rfl | rfl | rfl | rfl : k = 0 ∨ k = 1 ∨ k = 2 ∨ k = 3 ∨ k = 4 ∨ k = 5 ∨ k = 6 ∨ k = 7 ∨ k = 8 := by omega
      · cases b0
        · go_wp2_with fail
          go_round
          case rel => exact ⟨1, n, by omega, rfl, rfl, Lib.hid (hn.out.trans (by simp only [List.take_succ_cons, List.take_zero]; exact (bits_no0 ).symm))⟩
          case measure => simp [intOf]
        · go_wp2_with fail
          go_round
          case rel => exact ⟨1, _, by omega, rfl, rfl, Lib.hid (by rw [hn.out]; simp only [List.take_succ_cons, List.take_zero]; exact bits_yes0 )⟩
          case measure => simp [intOf]
      · cases b1
        · go_wp2_with fail
          go_round
          case rel => exact ⟨2, n, by omega, rfl, rfl, Lib.hid (hn.out.trans (by simp only [List.take_succ_cons, List.take_zero]; exact (bits_no1 b0).symm))⟩
          case measure => simp [intOf]
        · go_wp2_with fail
          go_round
          case rel => exact ⟨2, _, by omega, rfl, rfl, Lib.hid (by rw [hn.out]; simp only [List.take_succ_cons, List.take_zero]; exact bits_yes1 b0)⟩
          case measure => simp [intOf]
      · cases b2
        · go_wp2_with fail
          go_round
          case rel => exact ⟨3, n, by omega, rfl, rfl, Lib.hid (hn.out.trans (by simp only [List.take_succ_cons, List.take_zero]; exact (bits_no2 b0 b1).symm))⟩
          case measure => simp [intOf]
        · go_wp2_with fail
          go_round
          case rel => exact ⟨3, _, by omega, rfl, rfl, Lib.hid (by rw [hn.out]; simp only [List.take_succ_cons, List.take_zero]; exact bits_yes2 b0 b1)⟩
          case measure => simp [intOf]
      · cases b3
        · go_wp2_with fail
          go_round
          case rel => exact ⟨4, n, by omega, rfl, rfl, Lib.hid (hn.out.trans (by simp only [List.take_succ_cons, List.take_zero]; exact (bits_no3 b0 b1 b2).symm))⟩
          case measure => simp [intOf]
        · go_wp2_with fail
          go_round
          case rel => exact ⟨4, _, by omega, rfl, rfl, Lib.hid (by rw [hn.out]; simp only [List.take_succ_cons, List.take_zero]; exact bits_yes3 b0 b1 b2)⟩
          case measure => simp [intOf]
      · cases b4
        · go_wp2_with fail
          go_round
          case rel => exact ⟨5, n, by omega, rfl, rfl, Lib.hid (hn.out.trans (by simp only [List.take_succ_cons, List.take_zero]; exact (bits_no4 b0 b1 b2 b3).symm))⟩
          case measure => simp [intOf]
        · go_wp2_with fail
          go_round
          case rel => exact ⟨5, _, by omega, rfl, rfl, Lib.hid (by rw [hn.out]; simp only [List.take_succ_cons, List.take_zero]; exact bits_yes4 b0 b1 b2 b3)⟩
          case measure => simp [intOf]
      · cases b5
        · go_wp2_with fail
          go_round
          case rel => exact ⟨6, n, by omega, rfl, rfl, Lib.hid (hn.out.trans (by simp only [List.take_succ_cons, List.take_zero]; exact (bits_no5 b0 b1 b2 b3 b4).symm))⟩
          case measure => simp [intOf]
        · go_wp2_with fail
          go_round
          case rel => exact ⟨6, _, by omega, rfl, rfl, Lib.hid (by rw [hn.out]; simp only [List.take_succ_cons, List.take_zero]; exact bits_yes5 b0 b1 b2 b3 b4)⟩
          case measure => simp [intOf]
      · cases b6
        · go_wp2_with fail
          go_round
          case rel => exact ⟨7, n, by omega, rfl, rfl, Lib.hid (hn.out.trans (by simp only [List.take_succ_cons, List.take_zero]; exact (bits_no6 b0 b1 b2 b3 b4 b5).symm))⟩
          case measure => simp [intOf]
        · go_wp2_with fail
          go_round
          case rel => exact ⟨7, _, by omega, rfl, rfl, Lib.hid (by rw [hn.out]; simp only [List.take_succ_cons, List.take_zero]; exact bits_yes6 b0 b1 b2 b3 b4 b5)⟩
          case measure => simp [intOf]
      · cases b7
        · go_wp2_with fail
          go_round
          case rel => exact ⟨8, n, by omega, rfl, rfl, Lib.hid (hn.out.trans (by simp only [List.take_succ_cons, List.take_zero]; exact (bits_no7 b0 b1 b2 b3 b4 b5 b6).symm))⟩
          case measure => simp [intOf]
        · go_wp2_with fail
          go_round
          case rel => exact ⟨8, _, by omega, rfl, rfl, Lib.hid (by rw [hn.out]; simp only [List.take_succ_cons, List.take_zero]; exact bits_yes7 b0 b1 b2 b3 b4 b5 b6)⟩
          case measure => simp [intOf]
      · go_wp2_with fail
        go_ret
        exact ⟨by rw [hn.out]; rfl, HBy.out⟩

theorem fails_any (l v m s p q rd rp a b c d rf og rc xm : Int) (w : World) (h1 : 0 ≤ rd) (h2 : rd < 4294967296) (h3 : 0 ≤ rp) (h4 : rp < 4294967296) :
    Calls Tryd.prog 8 #[.agg (hdC l v m s p q rd rp a b c d rf og rc xm)] w fun e w' => e = .returned (.int .u8 (bitsN [f0B v, m != 4, l == 3, f3B s, rootB rd rp, f5B rc xm, aheadB xm rc, f7B rf xm] 1)) ∧ Below w.heap.size w w' :=
  fails_bools l v m s p q rd rp a b c d rf og rc xm w h1 h2 h3 h4 _ _ _ _ _ _ _ _ (Lib.hid rfl) (Lib.hid rfl) (Lib.hid rfl) (Lib.hid rfl) (Lib.hid rfl) (Lib.hid rfl) (Lib.hid rfl) (Lib.hid rfl)
end Go.Proofs.YtajgnbhcgfgjjaaDoor
