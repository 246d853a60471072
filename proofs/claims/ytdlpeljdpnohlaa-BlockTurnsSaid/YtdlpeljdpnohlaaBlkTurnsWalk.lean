/- The walk of BlockTurns. -/
import Derived.Test.YtdlpeljdpnohlaaBlkKnown
import Derived.Test.YtdlpeljdpnohlaaBlkRTurn
import Derived.Test.YtdlpeljdpnohlaaBlkRHead
import Derived.Outline
namespace Go.Proofs.Ytdlpeljdpnohlaa
open Go.RowKit

set_option maxRecDepth 100000 in
set_option maxHeartbeats 3200000 in
theorem turns_walk (A : Option Addr) (n c : Nat) (kind : Int) (B : Option Addr) (m d : Nat) (L : Bool) (l o : List UInt8) (w : World)
    (hr : Rd w A n c l) (_hk : (Lit.int .u32 kind).wf = true) (hs : Rd w B m d o) :
    Calls Try.prog 5 #[.slice A n c, .agg #[.int .u32 kind, .slice B m d], .bool L] w fun e w' => e = .returned (.bool true) ∧ Below w.heap.size w w' := by
  have hnc := hr.2.1
  have hcm := hr.2.2.1
  have HR := Lib.hid hr
  have HS := Lib.hid hs
  clear hr hs
  go_enter Try.func5, Try.ntmps5
  go_wp2_with fail
  refine (known_any _).mono ?_
  rintro e w1 ⟨rfl, hb1⟩
  have k1 := (Blk.new w 32 #[.int .u32 kind, .slice B m d]).keep hb1
  have B1 := Lib.hid (below_box hb1)
  have q0 := k1.cell 0
  have q1 := k1.cell 1
  have K1 := Lib.hid k1
  simp at q0 q1
  clear k1 hb1
  by_cases hn : 300 < n
  · go_wp2
    go_ret
    exact ⟨rfl, B1.out⟩
  by_cases hm : 300 < m
  · go_wp2
    go_ret
    exact ⟨rfl, B1.out⟩
  go_wp2_with fail
  refine (turn_any A n c l _ (HR.out.below B1.out)).mono ?_
  rintro e w2 ⟨rfl, hb2⟩
  have k2 := K1.out.keep hb2
  have B2 := Lib.hid (B1.out.trans (hb2.mono B1.out.size))
  have r0 := k2.cell 0
  have r1 := k2.cell 1
  have K2 := Lib.hid k2
  simp at r0 r1
  clear k2 hb2 K1 B1 q0 q1
  go_wp2_with fail
  refine (rturn_any A n c l _ (HR.out.below B2.out)).mono ?_
  rintro e w3 ⟨rfl, hb3⟩
  have k3 := K2.out.keep hb3
  have B3 := Lib.hid (B2.out.trans (hb3.mono B2.out.size))
  have q0 := k3.cell 0
  have q1 := k3.cell 1
  have K3 := Lib.hid k3
  simp at q0 q1
  clear k3 hb3 K2 B2 r0 r1
  go_wp2_with fail
  obtain ⟨H, hH⟩ : ∃ H, H = headOf L kind o := ⟨_, rfl⟩
  have HH := Lib.hid hH
  clear hH
  refine (show Calls Try.prog 16 #[.agg #[.int .u32 kind, .slice B m d], .bool L] w3 (SecSaid w3 H) from HH.out ▸ sec_any kind B m d L o w3 (HS.out.below B3.out) (by omega)).mono ?_
  rintro e w4 ⟨A4, n4, c4, rfl, hb4, hr4⟩
  have k4 := K3.out.keep hb4
  have B4 := Lib.hid (B3.out.trans (hb4.mono B3.out.size))
  have HR4 := Lib.hid hr4
  have q0 := k4.cell 0
  have q1 := k4.cell 1
  have K4 := Lib.hid k4
  simp at q0 q1
  have hlt4 := K4.out.lt
  clear k4 hb4 hr4 K3 B3
  go_wp2_with fail
  refine (show Calls Try.prog 17 #[.int .u32 kind, .slice B m d, .bool L] (w4.alloc (.cells #[.int .u16 H.major, .int .u16 H.minor, .int .i64 H.len, .slice A4 n4 c4] 35)) (SecSaid (w4.alloc (.cells #[.int .u16 H.major, .int .u16 H.minor, .int .i64 H.len, .slice A4 n4 c4] 35)) H) from HH.out ▸ rhead_any kind B m d L o _ ((HS.out.below B4.out).alloc _) (by omega)).mono ?_
  rintro e w5 ⟨A5, n5, c5, rfl, hb5, hr5⟩
  have k5 := (Blk.new w4 35 #[.int .u16 H.major, .int .u16 H.minor, .int .i64 H.len, .slice A4 n4 c4]).keep hb5
  have B5 := Lib.hid ((B4.out.alloc B4.out.size (.cells #[.int .u16 H.major, .int .u16 H.minor, .int .i64 H.len, .slice A4 n4 c4] 35)).trans (hb5.mono (by have := B4.out.size; simp; omega)))
  have HR5 := Lib.hid hr5
  have HR4' := Lib.hid ((HR4.out.alloc (.cells #[.int .u16 H.major, .int .u16 H.minor, .int .i64 H.len, .slice A4 n4 c4] 35)).below hb5)
  have q0 := k5.cell 0
  have q1 := k5.cell 1
  have q2 := k5.cell 2
  have q3 := k5.cell 3
  have K5 := Lib.hid k5
  have hlt5 := k5.lt
  simp at q0 q1 q2 q3
  clear k5 hb5 hr5 K4 B4 HR4 hlt4
  have hv4 := conv_str (P := Try.prog) (HR4'.out.alloc (.cells #[.int .u16 H.major, .int .u16 H.minor, .int .i64 H.len, .slice A5 n5 c5] 42)) 22 9 Try.underlying22 Try.underlying5 Try.underlying9
  have hv5 := conv_str (P := Try.prog) (HR5.out.alloc (.cells #[.int .u16 H.major, .int .u16 H.minor, .int .i64 H.len, .slice A5 n5 c5] 42)) 22 9 Try.underlying22 Try.underlying5 Try.underlying9
  go_wp2
  go_ret
  exact ⟨rfl, B5.out.alloc B5.out.size _⟩
end Go.Proofs.Ytdlpeljdpnohlaa
