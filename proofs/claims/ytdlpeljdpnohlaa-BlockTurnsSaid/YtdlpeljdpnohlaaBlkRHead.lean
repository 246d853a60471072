/- The walk of the reference's Head. -/
import Derived.Test.YtdlpeljdpnohlaaBlkHead
import Derived.Test.YtdlpeljdpnohlaaBlkSize
namespace Go.Proofs.Ytdlpeljdpnohlaa
open Go.RowKit

theorem rget_at (A : Option Addr) (n c : Nat) (L : Bool) (a m : Int) (l : List UInt8) (w : World) (x : Nat) (hr : Rd w A n c l) (hx : numAt L l a.toNat m.toNat = x) (h0 : 0 ≤ a) (h1 : 0 ≤ m) (h2 : a + m ≤ n) (h8 : m ≤ 8) :
    Calls Try.prog 25 #[.slice A n c, .bool L, .int .i64 a, .int .i64 m] w fun e w' =>
      e = .returned (.tuple #[.int .u64 x, .bool true]) ∧ w = w' := by
  have h := rget_yes A n c L a m l w hr h0 h1 h2 h8
  have : numAt L l a.toNat m.toNat = num L ((l.drop a.toNat).take m.toNat) := by
    have := hr.1
    unfold numAt; rw [if_pos (by omega)]
  rw [← hx, this]; exact h

theorem wrap64_eq (x : Int) : wrap64 x = IntKind.i64.wrap x := by rw [IntKind.wrap_i64]; unfold wrap64; omega
theorem rheadOwn {w w5 : World} {A : Option Addr} {m c : Nat} {l : List UInt8} (h : Own w5 (w.heap.size + 1) (.slice A m c) ([] ++ l)) (v0 v1 v2 v3 : Value) :
    Rd ((((w5.setCell ⟨w.heap.size, 0, none⟩ v0).setCell ⟨w.heap.size, 1, none⟩ v1).setCell ⟨w.heap.size, 2, none⟩ v2).setCell ⟨w.heap.size, 3, none⟩ v3) A m c l :=
  ((((h.setCell (by simp) v0).setCell (by simp) v1).setCell (by simp) v2).setCell (by simp) v3).rd

set_option maxHeartbeats 1000000 in
theorem rhead_kind (kind : Int) (A : Option Addr) (n c : Nat) (L : Bool) (w : World) (hk : kind ≠ 168627466) :
    Calls Try.prog 17 #[.int .u32 kind, .slice A n c, .bool L] w fun e w' =>
      SecSaid w (headBad 2) e w' := by
  have hk' : (kind == 168627466) = false := by simpa using hk
  go_enter Try.func17, Try.ntmps17
  go_wp2_with fail
  refine bodyPost_ret (v := .tuple #[.agg #[.int .u16 0, .int .u16 0, .int .i64 0, .slice none 0 0], .int .i64 2]) (by simp [results, Try.results17, go_sem]) rfl ?_
  exact ⟨none, 0, 0, rfl, (Below.refl w.heap.size w).alloc (Nat.le_refl _) _, Rd.nil _⟩

set_option maxHeartbeats 1000000 in
theorem rhead_short (A : Option Addr) (n c : Nat) (L : Bool) (w : World) (hn : n < 16) :
    Calls Try.prog 17 #[.int .u32 168627466, .slice A n c, .bool L] w fun e w' =>
      SecSaid w (headBad 123) e w' := by
  go_enter Try.func17, Try.ntmps17
  go_wp2_with fail
  refine bodyPost_ret (v := .tuple #[.agg #[.int .u16 0, .int .u16 0, .int .i64 0, .slice none 0 0], .int .i64 123]) (by simp [results, Try.results17, go_sem]) rfl ?_
  exact ⟨none, 0, 0, rfl, (Below.refl w.heap.size w).alloc (Nat.le_refl _) _, Rd.nil _⟩

set_option maxHeartbeats 1000000 in
theorem rhead_rest (A : Option Addr) (n c : Nat) (L : Bool) (l : List UInt8) (w : World) (hr : Rd w A n c l) (hn : 16 ≤ n) (hn2 : n ≤ 1048576) (x y z v : Nat)
    (hx : numAt L l 0 4 = x) (hy : numAt L l 4 2 = y) (hz : numAt L l 6 2 = z) (hv : numAt L l 8 8 = v) (H : HeadSaid)
    (hH : H = if x ≠ 439041101 then headBad 120 else if y ≠ 1 then headBad 125 else ⟨1, z, IntKind.i64.wrap v, l.drop 16, 0⟩) :
    Calls Try.prog 17 #[.int .u32 168627466, .slice A n c, .bool L] w fun e w' =>
      SecSaid w H e w' := by
  have c0 := fun w hr => rnumber_any A n c L 0 l w hr (by omega) (by omega)
  simp only [show (0 : Int).toNat = 0 from rfl, hx] at c0
  have C0 := Lib.hid c0
  have C4 := Lib.hid (fun w hr => rget_at A n c L 4 2 l w y hr hy (by omega) (by omega) (by omega) (by omega))
  have C6 := Lib.hid (fun w hr => rget_at A n c L 6 2 l w z hr hz (by omega) (by omega) (by omega) (by omega))
  have C8 := Lib.hid (fun w hr => rget_at A n c L 8 8 l w v hr hv (by omega) (by omega) (by omega) (by omega))
  have hzb := numAt_lt L l 6 2
  rw [hz] at hzb
  have HZ : Hid (IntKind.u16.wrap (z : Int) = (z : Int)) := by unfold Hid; rw [IntKind.wrap_u16]; omega
  obtain ⟨i0, hi0, hz0, hz1, hz2⟩ := info_parts info_u8
  have hnc := hr.2.1
  have hcm := hr.2.2.1
  obtain ⟨b, off, rfl, _, _⟩ := hr.at_ (by omega)
  have HR := Lib.hid hr
  have HH := Lib.hid hH
  have HO : Hid (Own ((w.alloc (.cells #[.int .u16 0, .int .u16 0, .int .i64 0, .slice none 0 0] 42)).alloc (.cells #[] 5)) (w.heap.size + 1) (.slice (some ⟨w.heap.size + 1, 0, none⟩) 0 0) []) := by
    have h := Own.lit (base := w.heap.size + 1) (w.alloc (.cells #[.int .u16 0, .int .u16 0, .int .i64 0, .slice none 0 0] 42)) [] #[] rfl (by simp) (by simp)
    unfold Hid
    simpa using h
  have HRC : Hid (c = 16 → ∀ W : World, Rd W (some ⟨b, off, none⟩) (n - 16) 0 (l.drop 16)) := by
    intro hc W
    have := hr.1
    exact ⟨by simp; omega, by omega, by omega, fun h => absurd h (by omega)⟩
  clear c0 hx hy hz hv hr hH hzb
  go_enter Try.func17, Try.ntmps17
  go_wp2_with fail
  refine (C0.out _ (HR.out.alloc _)).mono ?_
  rintro e w' ⟨rfl, rfl⟩
  by_cases hx : x = 439041101
  rotate_left
  · have hx' : ((x : Int) == 439041101) = false := by rw [beq_eq_false_iff_ne]; omega
    have HF : Hid (H = headBad 120) := by unfold Hid; rw [HH.out, if_pos hx]
    clear hx HH
    go_wp2_with fail
    refine bodyPost_ret (v := .tuple #[.agg #[.int .u16 0, .int .u16 0, .int .i64 0, .slice none 0 0], .int .i64 120]) (by simp [results, Try.results17, go_sem]) rfl ?_
    rw [HF.out]
    exact ⟨none, 0, 0, rfl, (Below.refl w.heap.size w).alloc (Nat.le_refl _) _, Rd.nil _⟩
  have hx' : ((x : Int) == 439041101) = true := by rw [hx]; rfl
  go_wp2_with fail
  refine (C4.out _ (HR.out.alloc _)).mono ?_
  rintro e w' ⟨rfl, rfl⟩
  go_wp2_with fail
  refine (C6.out _ (HR.out.alloc _)).mono ?_
  rintro e w' ⟨rfl, rfl⟩
  go_wp2_with fail
  refine (C8.out _ (HR.out.alloc _)).mono ?_
  rintro e w' ⟨rfl, rfl⟩
  by_cases hy : y = 1
  rotate_left
  · have hy' : ((y : Int) == 1) = false := by rw [beq_eq_false_iff_ne]; omega
    have HF : Hid (H = headBad 125) := by unfold Hid; rw [HH.out, if_neg (by omega), if_pos hy]
    clear hy HH
    go_wp2_with fail
    refine bodyPost_ret (v := .tuple #[.agg #[.int .u16 0, .int .u16 0, .int .i64 0, .slice none 0 0], .int .i64 125]) (by simp [results, Try.results17, go_sem]) rfl ?_
    rw [HF.out]
    exact ⟨none, 0, 0, rfl, (Below.refl w.heap.size w).alloc (Nat.le_refl _) _, Rd.nil _⟩
  have hy' : ((y : Int) == 1) = true := by rw [hy]; rfl
  have HF : Hid (H = ⟨1, z, IntKind.i64.wrap v, l.drop 16, 0⟩) := by unfold Hid; rw [HH.out, if_neg (by omega), if_neg (by omega)]
  clear HH
  by_cases hc : c = 16
  · go_wp2_with (at_builtin; refine wpList_append_rd _ rfl (.tmp 53) (.tmp 55) 22 rfl (w.heap.size + 1) i0 _ Try.underlying22 hi0 hz0 hz1 hz2 rfl _ [] rfl HO.out _ (n - 16) 0 (l.drop 16) rfl (HRC.out hc _) ?a3 ?a4 (n - 16) ?a5 ?_)
    case a3 => simp <;> omega
    case a4 => simp
    case a5 => simp
    intro A5 c5 w5 ho5 hb5 hg5 hat5
    have k5 := (Blk.new w 42 #[.int .u16 0, .int .u16 0, .int .i64 0, .slice none 0 0]).alloc (.cells #[] 5) |>.below hb5 (by omega)
    have B5 := Lib.hid ((((Below.refl w.heap.size w).alloc (Nat.le_refl _) (.cells #[.int .u16 0, .int .u16 0, .int .i64 0, .slice none 0 0] 42)).alloc (by simp) (.cells #[] 5)).trans (hb5.mono (by omega)))
    have q2 := k5.cell 0
    have q3 := k5.cell 1
    have q4 := k5.cell 2
    have q5 := k5.cell 3
    have z0 := k5.frozen 0
    have z1 := k5.frozen 1
    have z2 := k5.frozen 2
    have z3 := k5.frozen 3
    have hlt5 := k5.lt
    have HO5 := Lib.hid ho5
    simp at q2 q3 q4 q5
    clear k5 ho5 hb5 hg5 hat5
    go_wp2
    refine bodyPost_ret (v := .tuple #[.agg #[.int .u16 1, .int .u16 z, .int .i64 (IntKind.i64.wrap v), .slice A5 (n - 16) c5], .int .i64 0]) (by simp [results, Try.results17, go_sem, q2, q3, q4, q5, HZ.out, wrap64_eq]) rfl ?_
    rw [HF.out]
    exact ⟨A5, n - 16, c5, rfl, below_sec4 B5.out (Nat.le_refl _) _ _ _ _, rheadOwn HO5.out _ _ _ _⟩
  · go_wp2_with (at_builtin; refine wpList_append_rd _ rfl (.tmp 53) (.tmp 55) 22 rfl (w.heap.size + 1) i0 _ Try.underlying22 hi0 hz0 hz1 hz2 rfl _ [] rfl HO.out _ (n - 16) (c - 16) (l.drop 16) rfl (secCut ((HR.out.alloc _).alloc _) hn _ (by simp [hc])) ?b3 ?b4 (n - 16) ?b5 ?_)
    case b3 => simp <;> omega
    case b4 => simp
    case b5 => simp
    intro A5 c5 w5 ho5 hb5 hg5 hat5
    have k5 := (Blk.new w 42 #[.int .u16 0, .int .u16 0, .int .i64 0, .slice none 0 0]).alloc (.cells #[] 5) |>.below hb5 (by omega)
    have B5 := Lib.hid ((((Below.refl w.heap.size w).alloc (Nat.le_refl _) (.cells #[.int .u16 0, .int .u16 0, .int .i64 0, .slice none 0 0] 42)).alloc (by simp) (.cells #[] 5)).trans (hb5.mono (by omega)))
    have q2 := k5.cell 0
    have q3 := k5.cell 1
    have q4 := k5.cell 2
    have q5 := k5.cell 3
    have z0 := k5.frozen 0
    have z1 := k5.frozen 1
    have z2 := k5.frozen 2
    have z3 := k5.frozen 3
    have hlt5 := k5.lt
    have HO5 := Lib.hid ho5
    simp at q2 q3 q4 q5
    clear k5 ho5 hb5 hg5 hat5
    go_wp2
    refine bodyPost_ret (v := .tuple #[.agg #[.int .u16 1, .int .u16 z, .int .i64 (IntKind.i64.wrap v), .slice A5 (n - 16) c5], .int .i64 0]) (by simp [results, Try.results17, go_sem, q2, q3, q4, q5, HZ.out, wrap64_eq]) rfl ?_
    rw [HF.out]
    exact ⟨A5, n - 16, c5, rfl, below_sec4 B5.out (Nat.le_refl _) _ _ _ _, rheadOwn HO5.out _ _ _ _⟩

theorem rhead_any (kind : Int) (A : Option Addr) (n c : Nat) (L : Bool) (l : List UInt8) (w : World) (hr : Rd w A n c l) (hn2 : n ≤ 1048576) :
    Calls Try.prog 17 #[.int .u32 kind, .slice A n c, .bool L] w (SecSaid w (headOf L kind l)) := by
  have hl := hr.1
  unfold headOf
  by_cases hk : kind ≠ 168627466
  · rw [if_pos hk]; exact rhead_kind kind A n c L w hk
  · rw [if_neg hk]
    obtain rfl : kind = 168627466 := Classical.not_not.1 hk
    by_cases h16 : l.length < 16
    · rw [if_pos h16]; exact rhead_short A n c L w (by omega)
    · rw [if_neg h16]
      exact rhead_rest A n c L l w hr (by omega) hn2 _ _ _ _ rfl rfl rfl rfl _ rfl
end Go.Proofs.Ytdlpeljdpnohlaa
