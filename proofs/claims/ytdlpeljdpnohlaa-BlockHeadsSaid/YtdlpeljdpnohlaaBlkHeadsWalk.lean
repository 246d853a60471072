/- The walk of BlockHeads. -/
import Derived.Test.YtdlpeljdpnohlaaBlkHeadsPlain
import Derived.Outline
namespace Go.Proofs.Ytdlpeljdpnohlaa
open Go.RowKit

theorem h16_bd {n : Int} (h : (Lit.int .u16 n).wf = true) : 0 ≤ n ∧ n ≤ 65535 := by
  simp [Lit.wf, IntKind.min, IntKind.max, IntKind.signed, IntKind.bits] at h
  omega
theorem h64_bd {n : Int} (h : (Lit.int .i64 n).wf = true) : -9223372036854775808 ≤ n ∧ n ≤ 9223372036854775807 := by
  simp [Lit.wf, IntKind.min, IntKind.max, IntKind.signed, IntKind.bits] at h
  omega

theorem len_zeros {l : List UInt8} {n m k : Nat} (h1 : (l ++ List.replicate m 0).length = k) (h2 : l.length = n) : k = n + m := by
  rw [List.length_append, List.length_replicate, h2] at h1
  exact h1.symm

set_option maxRecDepth 100000 in
set_option maxHeartbeats 3200000 in
theorem heads_walk (ma mi ln : Int) (A : Option Addr) (n c : Nat) (L : Bool) (l : List UInt8) (w : World)
    (ha : (Lit.int .u16 ma).wf = true) (hi : (Lit.int .u16 mi).wf = true) (hl : (Lit.int .i64 ln).wf = true) (hr : Rd w A n c l) :
    Calls Try.prog 6 #[.agg #[.int .u16 ma, .int .u16 mi, .int .i64 ln, .slice A n c], .bool L] w fun e w' => e = .returned (.bool true) ∧ Below w.heap.size w w' := by
  have HA := Lib.hid (h16_bd ha)
  have HI := Lib.hid (h16_bd hi)
  have HL := Lib.hid (h64_bd hl)
  have HR := Lib.hid hr
  have hnc := hr.2.1
  have hcm := hr.2.2.1
  clear ha hi hl hr
  go_enter Try.func6, Try.ntmps6
  go_wp2_with fail
  refine (known_any _).mono ?_
  rintro e w1 ⟨rfl, hb1⟩
  have k1 := (Blk.new w 35 #[.int .u16 ma, .int .u16 mi, .int .i64 ln, .slice A n c]).keep hb1
  have B1 := Lib.hid (below_box hb1)
  have q0 := k1.cell 0
  have q1 := k1.cell 1
  have q2 := k1.cell 2
  have q3 := k1.cell 3
  have K1 := Lib.hid k1
  simp at q0 q1 q2 q3
  clear k1 hb1
  by_cases hn : 300 < n
  · go_wp2
    go_ret
    exact ⟨rfl, B1.out⟩
  go_wp2_with fail
  refine (sec_block A n c L ma mi ln l _ (HR.out.below B1.out) (by omega) HA.out HI.out).mono ?_
  rintro e w2 ⟨A2, c2, rfl, hb2, ho2⟩
  have hl2 := HR.out.1
  have hpd : padOf n ≤ 3 := by unfold padOf; omega
  have hmod : (16 + n + padOf n) % 4 = 0 := by unfold padOf; omega
  obtain ⟨N, hN⟩ : ∃ N, N = 16 + n + padOf n := ⟨_, rfl⟩
  obtain ⟨bd, hbd⟩ : ∃ bd, bd = bodyOf L ma.toNat mi.toNat (IntKind.u64.wrap ln).toNat l := ⟨_, rfl⟩
  have hT : turnOf (frameOf L 168627466 bd) = (L, 0) := by rw [hbd]; exact turn_frame _ _ _ _ _
  have HT := Lib.hid hT
  rw [← hN, ← hbd] at ho2
  rw [← hN] at hmod ⊢
  have HN := Lib.hid hN
  have HBD := Lib.hid hbd
  have HR2 := Lib.hid ho2.rd
  have HPD := Lib.hid hpd
  have k2 := K1.out.keep hb2
  have B2 := Lib.hid (B1.out.trans (hb2.mono B1.out.size))
  have r0 := k2.cell 0
  have r1 := k2.cell 1
  have r2 := k2.cell 2
  have r3 := k2.cell 3
  have hlt := k2.lt
  have K2 := Lib.hid k2
  simp at r0 r1 r2 r3
  have hN2 : N ≤ 400 := by omega
  clear k2 hb2 ho2 K1 B1 q0 q1 q2 q3 hT hN hbd hpd hl2
  go_wp2_with fail
  refine (bytes_yes A2 N c2 L 168627466 bd _ (HR2.out.alloc _) (by omega) (by omega) (by omega) hmod).mono ?_
  rintro e w3 ⟨A3, c3, rfl, hb3, ho3⟩
  simp only [show (168627466 : Int).toNat = 168627466 from rfl] at ho3
  have kk := (Blk.new w2 32 #[.int .u32 168627466, .slice A2 N c2]).keep hb3
  have k3 := (K2.out.alloc (.cells #[.int .u32 168627466, .slice A2 N c2] 32)).keep hb3
  have B3 := Lib.hid ((B2.out.alloc B2.out.size (.cells #[.int .u32 168627466, .slice A2 N c2] 32)).trans (hb3.mono (by have := B2.out.size; simp; omega)))
  have HR3 := Lib.hid ((HR2.out.alloc (.cells #[.int .u32 168627466, .slice A2 N c2] 32)).below hb3)
  have HF3 := Lib.hid ho3.rd
  generalize w2.heap.size = gb at *
  have q0 := kk.cell 0
  have q1 := kk.cell 1
  have p0 := k3.cell 0
  have p1 := k3.cell 1
  have p2 := k3.cell 2
  have p3 := k3.cell 3
  have hltk := kk.lt
  have hlt3 := k3.lt
  have KK := Lib.hid kk
  have K3 := Lib.hid k3
  simp at q0 q1 p0 p1 p2 p3
  clear kk k3 hb3 ho3 K2 B2 HR2 r0 r1 r2 r3 hlt
  go_wp2_with fail
  refine (turn_any A3 (N + 12) c3 _ _ HF3.out).mono ?_
  rintro e w4 ⟨rfl, hb4⟩
  rw [HT.out]
  have kk := KK.out.keep hb4
  have k4 := K3.out.keep hb4
  have B4 := Lib.hid (B3.out.trans (hb4.mono B3.out.size))
  have HR4 := Lib.hid (HR3.out.below hb4)
  have q0 := kk.cell 0
  have q1 := kk.cell 1
  have p0 := k4.cell 0
  have p1 := k4.cell 1
  have p2 := k4.cell 2
  have p3 := k4.cell 3
  have hltk := kk.lt
  have hlt4 := k4.lt
  have KK4 := Lib.hid kk
  have K4 := Lib.hid k4
  simp at q0 q1 p0 p1 p2 p3
  clear kk k4 hb4 K3 KK B3 HR3 HF3 HT hlt3
  go_wp2_with fail
  refine (show Calls Try.prog 16 #[.agg #[.int .u32 168627466, .slice A2 N c2], .bool (!L)] w4 (SecSaid w4 (headBad 120)) from by rw [← head_wrong L ma.toNat mi.toNat (IntKind.u64.wrap ln).toNat l, ← HBD.out]; exact sec_any 168627466 A2 N c2 (!L) bd w4 HR4.out (by omega)).mono ?_
  rintro e w5 ⟨A5, n5, c5, rfl, hb5, hr5⟩
  simp only [headBad]
  have kk := KK4.out.keep hb5
  have k5 := K4.out.keep hb5
  have B5 := Lib.hid (B4.out.trans (hb5.mono B4.out.size))
  have HR5 := Lib.hid (HR4.out.below hb5)
  have q0 := kk.cell 0
  have q1 := kk.cell 1
  have p0 := k5.cell 0
  have p1 := k5.cell 1
  have p2 := k5.cell 2
  have p3 := k5.cell 3
  have hltk := kk.lt
  have hlt5 := k5.lt
  have KK5 := Lib.hid kk
  have K5 := Lib.hid k5
  simp at q0 q1 p0 p1 p2 p3
  clear kk k5 hb5 hr5 K4 KK4 B4 HR4 hlt4
  go_wp2_with fail
  have k5 := K5.out.alloc (.cells #[.int .u16 0, .int .u16 0, .int .i64 0, .slice A5 n5 c5] 35)
  have B6 := Lib.hid (B5.out.alloc B5.out.size (.cells #[.int .u16 0, .int .u16 0, .int .i64 0, .slice A5 n5 c5] 35))
  have HR6 := Lib.hid (HR5.out.alloc (.cells #[.int .u16 0, .int .u16 0, .int .i64 0, .slice A5 n5 c5] 35))
  generalize w5.heap.size = gc at *
  generalize w5.alloc (.cells #[.int .u16 0, .int .u16 0, .int .i64 0, .slice A5 n5 c5] 35) = w6 at *
  have K6 := Lib.hid k5
  clear k5 K5 KK5 B5 HR5 q0 q1 p0 p1 p2 p3 hltk hlt5
  by_cases h1 : ma = 1
  rotate_left
  · have hma : (ma == 1) = false := by rw [beq_eq_false_iff_ne]; exact h1
    refine (show Calls Try.prog 16 #[.agg #[.int .u32 168627466, .slice A2 N c2], .bool L] w6 (SecSaid w6 (headBad 125)) from by rw [← head_other L ma.toNat mi.toNat (IntKind.u64.wrap ln).toNat l (by have := HA.out; omega) (by have := HA.out; omega), ← HBD.out]; exact sec_any 168627466 A2 N c2 L bd w6 HR6.out (by omega)).mono ?_
    rintro e w7 ⟨A7, n7, c7, rfl, hb7, hr7⟩
    simp only [headBad]
    have k7 := K6.out.keep hb7
    have B7 := Lib.hid (B6.out.trans (hb7.mono B6.out.size))
    have p0 := k7.cell 0
    have hlt7 := k7.lt
    simp at p0
    clear k7 hb7 hr7 K6 B6 HR6
    go_wp2
    go_ret
    exact ⟨rfl, B7.out.alloc B7.out.size _⟩
  refine (show Calls Try.prog 16 #[.agg #[.int .u32 168627466, .slice A2 N c2], .bool L] w6 (SecSaid w6 ⟨1, mi, ln, l ++ List.replicate (padOf n) 0, 0⟩) from by
    have h := head_right L mi.toNat ln l (by have := HI.out; omega) HL.out.1 HL.out.2
    rw [HR.out.1, Int.toNat_of_nonneg HI.out.1] at h
    rw [← h, show bodyOf L 1 mi.toNat (IntKind.u64.wrap ln).toNat l = bd by rw [HBD.out, h1]; rfl]
    exact sec_any 168627466 A2 N c2 L bd w6 HR6.out (by omega)).mono ?_
  rintro e w7 ⟨A7, n7, c7, rfl, hb7, hr7⟩
  have hn7 : n7 = n + padOf n := len_zeros hr7.1 HR.out.1
  have hn7a : n ≤ n7 := by omega
  have hn7b : n7 ≤ 303 := by have := HPD.out; omega
  have hlo : ¬ ((n7 : Int) < n) := by omega
  have hhi : ¬ ((n : Int) + 4 ≤ n7) := by have := HPD.out; omega
  have HN7 := Lib.hid hn7
  have hwr : wrap64 ((n : Int) + 4) = (n : Int) + 4 := by unfold wrap64; omega
  clear hn7
  have k7 := K6.out.keep hb7
  have B7 := Lib.hid (B6.out.trans (hb7.mono B6.out.size))
  have p0 := k7.cell 0
  have p1 := k7.cell 1
  have p2 := k7.cell 2
  have p3 := k7.cell 3
  have hlt7 := k7.lt
  have K7 := Lib.hid k7
  have HR7 := Lib.hid hr7
  have HR0 := Lib.hid (HR.out.below B7.out)
  simp at p0 p1 p2 p3
  clear k7 hb7 hr7 K6 B6 HR6 HBD
  subst h1
  go_wp2_with fail
  have kt := Blk.new w7 35 #[.int .u16 1, .int .u16 mi, .int .i64 ln, .slice A7 n7 c7]
  have k8 := K7.out.alloc (.cells #[.int .u16 1, .int .u16 mi, .int .i64 ln, .slice A7 n7 c7] 35)
  have B8 := Lib.hid (B7.out.alloc B7.out.size (.cells #[.int .u16 1, .int .u16 mi, .int .i64 ln, .slice A7 n7 c7] 35))
  have HR8 := Lib.hid (HR7.out.alloc (.cells #[.int .u16 1, .int .u16 mi, .int .i64 ln, .slice A7 n7 c7] 35))
  have HR9 := Lib.hid (HR0.out.alloc (.cells #[.int .u16 1, .int .u16 mi, .int .i64 ln, .slice A7 n7 c7] 35))
  generalize w7.heap.size = gt at *
  generalize w7.alloc (.cells #[.int .u16 1, .int .u16 mi, .int .i64 ln, .slice A7 n7 c7] 35) = w8 at *
  have p3 := k8.cell 3
  have t3 := kt.cell 3
  simp at p3 t3
  clear hwr hlo hhi
  clear kt k8 K7 B7 HR7 HR0 p0 p1 p2 hlt7
  have hc7 : n7 ≤ c7 := HR8.out.2.1
  have hc7m : c7 ≤ 9223372036854775807 := HR8.out.2.2.1
  go_loopw [14] (fun i wr => ∃ k : Nat, n ≤ k ∧ k ≤ n7 ∧ i = .int .i64 k ∧ wr = w8) (fun i _ => n7 - (intOf i).toNat)
  case atStart => exact ⟨n, Nat.le_refl _, by omega, rfl, rfl⟩
  case round =>
    obtain ⟨k, hk1, hk2, rfl, hw8⟩ := hrel
    subst hw8
    by_cases hk : k < n7
    · obtain ⟨b, off, rfl, hb, hcell⟩ := HR8.out.at_ (by omega)
      have hz : wr.cell? ⟨b, off + k, none⟩ = some (.int .u8 0) := by
        rw [hcell k hk]
        have hl0 := HR.out.1
        have hl1 := HN7.out
        have : (l ++ List.replicate (padOf n) (0 : UInt8))[k]? = some 0 := by
          rw [List.getElem?_append_right (by omega), List.getElem?_replicate, if_pos (by omega)]
        simp [this]
      clear hcell
      go_wp2
      go_roundw
      case rel => exact ⟨k + 1, by omega, by omega, by simp, trivial⟩
      case measure => simp [intOf]; omega
    · obtain rfl : k = n7 := by omega
      have hrt : Rd wr A7 n c7 l := by
        have h := HR8.out.cut (lo := 0) (hi := n) (c' := c7) (A' := A7) (Nat.zero_le _) hn7a (by omega) (Nat.le_refl _) (by intro _; cases A7 <;> simp [Addr.add])
        have e : (((l ++ List.replicate (padOf n) (0 : UInt8)).drop 0).take (n - 0)) = l := by
          rw [List.drop_zero, Nat.sub_zero, List.take_left' HR.out.1]
        rw [e] at h
        exact h
      have HRT := Lib.hid hrt
      clear hrt
      have hvt := fun m : Nat => conv_str (P := Try.prog) (HRT.out.drewN m) 22 9 Try.underlying22 Try.underlying5 Try.underlying9
      have hvs := fun m : Nat => conv_str (P := Try.prog) (HR9.out.drewN m) 22 9 Try.underlying22 Try.underlying5 Try.underlying9
      go_wp2_with fail
      have hi0 : (0 : Int) ≤ (n : Int) := by omega
      have hi1 : (n : Int) ≤ (c7 : Int) := by omega
      go_quiet (fail)
      go_wp2
      go_ret
      exact ⟨rfl, (⟨B8.out.os, B8.out.tape, B8.out.output, B8.out.size, B8.out.block⟩ : Below w.heap.size w (wr.drewN nq))⟩
end Go.Proofs.Ytdlpeljdpnohlaa
