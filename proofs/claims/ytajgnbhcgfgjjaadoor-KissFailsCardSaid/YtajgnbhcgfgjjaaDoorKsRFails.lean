/- What a header fails, by the reference. -/
import Derived.Test.YtajgnbhcgfgjjaaDoorKsHead
namespace Go.Proofs.YtajgnbhcgfgjjaaDoor
open Go.RowKit Go.Shelf

set_option maxRecDepth 100000 in
set_option maxHeartbeats 1000000 in
theorem rfails_mode (l v m s p q rd rp a b c d rf og rc xm : Int) (w : World) : Calls Tryd.prog 9 #[.agg (hdC l v m s p q rd rp a b c d rf og rc xm), .int .i64 1] w fun e w' => e = .returned (.bool (m != 4)) ∧ Below w.heap.size w w' := by
  unfold hdC
  go_enter Tryd.func9, Tryd.ntmps9
  go_wp2_with fail
  go_ret
  exact ⟨rfl, (Below.refl _ w).alloc (Nat.le_refl _) _⟩

set_option maxRecDepth 100000 in
set_option maxHeartbeats 1000000 in
theorem rfails_leap (l v m s p q rd rp a b c d rf og rc xm : Int) (w : World) : Calls Tryd.prog 9 #[.agg (hdC l v m s p q rd rp a b c d rf og rc xm), .int .i64 2] w fun e w' => e = .returned (.bool (l == 3)) ∧ Below w.heap.size w w' := by
  unfold hdC
  go_enter Tryd.func9, Tryd.ntmps9
  go_wp2_with fail
  go_ret
  exact ⟨rfl, (Below.refl _ w).alloc (Nat.le_refl _) _⟩

set_option maxRecDepth 100000 in
set_option maxHeartbeats 1000000 in
theorem rfails_order (l v m s p q rd rp a b c d rf og rc xm : Int) (w : World) : Calls Tryd.prog 9 #[.agg (hdC l v m s p q rd rp a b c d rf og rc xm), .int .i64 6] w fun e w' => e = .returned (.bool (aheadB xm rc)) ∧ Below w.heap.size w w' := by
  have HE := Lib.hid (show decide (9223372036854775808 ≤ IntKind.u64.wrap (xm - rc)) = aheadB xm rc by
    unfold aheadB
    simp [IntKind.wrap, IntKind.bits, IntKind.signed])
  unfold hdC
  go_enter Tryd.func9, Tryd.ntmps9
  go_wp2_with fail
  go_ret
  exact ⟨by rw [← HE.out]; rfl, (Below.refl _ w).alloc (Nat.le_refl _) _⟩

set_option maxRecDepth 100000 in
set_option maxHeartbeats 1000000 in
theorem rfails_version (l v m s p q rd rp a b c d rf og rc xm : Int) (w : World) : Calls Tryd.prog 9 #[.agg (hdC l v m s p q rd rp a b c d rf og rc xm), .int .i64 0] w fun e w' => e = .returned (.bool (v == 0 || decide (v > 4))) ∧ Below w.heap.size w w' := by
  unfold hdC
  by_cases h : v = 0
  · subst h
    go_enter Tryd.func9, Tryd.ntmps9
    go_wp2_with fail
    go_ret
    exact ⟨rfl, (Below.refl _ w).alloc (Nat.le_refl _) _⟩
  · have hb : ((v) == 0) = false := by simpa using h
    go_enter Tryd.func9, Tryd.ntmps9
    go_wp2_with fail
    go_ret
    exact ⟨by rw [hb]; rfl, (Below.refl _ w).alloc (Nat.le_refl _) _⟩

set_option maxRecDepth 100000 in
set_option maxHeartbeats 1000000 in
theorem rfails_stratum (l v m s p q rd rp a b c d rf og rc xm : Int) (w : World) : Calls Tryd.prog 9 #[.agg (hdC l v m s p q rd rp a b c d rf og rc xm), .int .i64 3] w fun e w' => e = .returned (.bool (s == 0 || decide (s > 15))) ∧ Below w.heap.size w w' := by
  unfold hdC
  by_cases h : s = 0
  · subst h
    go_enter Tryd.func9, Tryd.ntmps9
    go_wp2_with fail
    go_ret
    exact ⟨rfl, (Below.refl _ w).alloc (Nat.le_refl _) _⟩
  · have hb : ((s) == 0) = false := by simpa using h
    go_enter Tryd.func9, Tryd.ntmps9
    go_wp2_with fail
    go_ret
    exact ⟨by rw [hb]; rfl, (Below.refl _ w).alloc (Nat.le_refl _) _⟩

set_option maxRecDepth 100000 in
set_option maxHeartbeats 1000000 in
theorem rfails_zero (l v m s p q rd rp a b c d rf og rc xm : Int) (w : World) : Calls Tryd.prog 9 #[.agg (hdC l v m s p q rd rp a b c d rf og rc xm), .int .i64 5] w fun e w' => e = .returned (.bool (rc == 0 || xm == 0)) ∧ Below w.heap.size w w' := by
  unfold hdC
  by_cases h : rc = 0
  · subst h
    go_enter Tryd.func9, Tryd.ntmps9
    go_wp2_with fail
    go_ret
    exact ⟨rfl, (Below.refl _ w).alloc (Nat.le_refl _) _⟩
  · have hb : ((rc) == 0) = false := by simpa using h
    go_enter Tryd.func9, Tryd.ntmps9
    go_wp2_with fail
    go_ret
    exact ⟨by rw [hb]; rfl, (Below.refl _ w).alloc (Nat.le_refl _) _⟩

set_option maxRecDepth 100000 in
set_option maxHeartbeats 1000000 in
theorem rfails_stale (l v m s p q rd rp a b c d rf og rc xm : Int) (w : World) : Calls Tryd.prog 9 #[.agg (hdC l v m s p q rd rp a b c d rf og rc xm), .int .i64 7] w fun e w' => e = .returned (.bool (rf != 0 && aheadB xm rf)) ∧ Below w.heap.size w w' := by
  have HE := Lib.hid (show decide (9223372036854775808 ≤ IntKind.u64.wrap (xm - rf)) = aheadB xm rf by
    unfold aheadB
    simp [IntKind.wrap, IntKind.bits, IntKind.signed])
  unfold hdC
  by_cases h : rf = 0
  · subst h
    go_enter Tryd.func9, Tryd.ntmps9
    go_wp2_with fail
    go_ret
    exact ⟨rfl, (Below.refl _ w).alloc (Nat.le_refl _) _⟩
  · have hb : (rf != 0) = true := by simpa using h
    go_enter Tryd.func9, Tryd.ntmps9
    go_wp2_with fail
    go_ret
    exact ⟨by rw [hb, ← HE.out]; rfl, (Below.refl _ w).alloc (Nat.le_refl _) _⟩

set_option maxRecDepth 100000 in
set_option maxHeartbeats 1000000 in
theorem rfails_root (l v m s p q rd rp a b c d rf og rc xm : Int) (w : World) (h1 : 0 ≤ rd) (h2 : rd < 4294967296) (h3 : 0 ≤ rp) (h4 : rp < 4294967296) : Calls Tryd.prog 9 #[.agg (hdC l v m s p q rd rp a b c d rf og rc xm), .int .i64 4] w fun e w' => e = .returned (.bool (decide (2097152 ≤ rd + 2 * rp))) ∧ Below w.heap.size w w' := by
  have w1 : IntKind.u64.wrap rd = rd := by simp [IntKind.wrap, IntKind.bits, IntKind.signed]; omega
  have w2 : IntKind.u64.wrap rp = rp := by simp [IntKind.wrap, IntKind.bits, IntKind.signed]; omega
  have w3 : IntKind.u64.wrap (rd + rp) = rd + rp := by simp [IntKind.wrap, IntKind.bits, IntKind.signed]; omega
  have w4 : IntKind.u64.wrap (rd + rp + rp) = rd + rp + rp := by simp [IntKind.wrap, IntKind.bits, IntKind.signed]; omega
  have HE := Lib.hid (show decide (2097152 ≤ rd + rp + rp) = decide (2097152 ≤ rd + 2 * rp) by rw [decide_eq_decide]; omega)
  unfold hdC
  go_enter Tryd.func9, Tryd.ntmps9
  go_wp2_with fail
  go_ret
  exact ⟨by rw [← HE.out]; rfl, (Below.refl _ w).alloc (Nat.le_refl _) _⟩
end Go.Proofs.YtajgnbhcgfgjjaaDoor
