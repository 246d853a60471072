/- The walk of BlockSizes. -/
import Derived.Test.YtdlpeljdpnohlaaBlkKnown
namespace Go.Proofs.Ytdlpeljdpnohlaa
open Go.RowKit

set_option maxHeartbeats 1000000 in
theorem sizes_walk (A : Option Addr) (n c : Nat) (L : Bool) (most : Int) (l : List UInt8) (w : World) (hr : Rd w A n c l) (_hw : (Lit.int .i64 most).wf = true) :
    Calls Try.prog 3 #[.slice A n c, .bool L, .int .i64 most] w fun e w' => e = .returned (.bool true) ∧ Below w.heap.size w w' := by
  have HR := Lib.hid hr
  have hnc := hr.2.1
  have hcm := hr.2.2.1
  clear hr
  go_enter Try.func3, Try.ntmps3
  go_wp2_with fail
  refine (known_any w).mono ?_
  rintro e w1 ⟨rfl, hb1⟩
  have B1 := Lib.hid hb1
  have HR1 := Lib.hid (HR.out.below hb1)
  clear hb1 HR
  by_cases h300 : 300 < n
  · go_wp2
    go_ret
    exact ⟨rfl, B1.out⟩
  · go_wp2_with fail
    refine (size_any A n c L most l _ HR1.out).mono ?_
    rintro e w2 ⟨rfl, hb2⟩
    have B2 := Lib.hid (B1.out.trans (hb2.mono B1.out.size))
    have HR2 := Lib.hid (HR1.out.below hb2)
    clear hb2 HR1 B1
    go_wp2_with fail
    refine (rsize_any A n c L most l _ HR2.out).mono ?_
    rintro e w3 ⟨rfl, rfl⟩
    go_wp2
    go_ret
    refine ⟨?_, B2.out⟩
    simp
end Go.Proofs.Ytdlpeljdpnohlaa
