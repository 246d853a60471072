/- The walks of package octet: U16, U32, U64. -/
import Derived.Test.YtdlpeljdpnohlaaDoorOct
namespace Go.Proofs.YtdlpeljdpnohlaaDoor
open Go.RowKit

set_option maxHeartbeats 400000 in
theorem u32_any (A : Option Addr) (n c : Nat) (L : Bool) (at_ : Int) (l : List UInt8) (w : World) (hr : Rd w A n c l) (h0 : 0 ≤ at_) :
    Calls Tryd.prog 12 #[.agg #[.slice A n c, .bool L], .int .i64 at_] w fun e w' =>
      e = .returned (.int .u32 (numAt L l at_.toNat 4)) ∧ Below w.heap.size w w' := by
  have hl := hr.1
  have hlt := numAt_lt L l at_.toNat 4
  have HE : Hid ((numAt L l at_.toNat 4 : Int) % 4294967296 = (numAt L l at_.toNat 4 : Int)) := by unfold Hid; omega
  by_cases h : at_ + 4 ≤ n
  · have HN : Hid (numAt L l at_.toNat 4 = num L ((l.drop at_.toNat).take 4)) := by unfold Hid numAt; rw [if_pos (by omega)]
    clear hl hlt
    go_enter Tryd.func12, Tryd.ntmps12
    go_wp2_with fail
    refine (get_yes A n c L at_ 4 l _ (hr.alloc _) h0 (by omega) h (by omega)).mono ?_
    rintro e w1 ⟨rfl, hb⟩
    have Hb := Lib.hid (below_box hb)
    clear hb
    rw [show ((4 : Int).toNat) = 4 from rfl, ← HN.out]
    go_wp2
    go_ret
    exact ⟨congrArg (fun z => Ending.returned (.int .u32 z)) HE.out, Hb.out⟩
  · have HN : Hid (numAt L l at_.toNat 4 = 0) := by unfold Hid numAt; rw [if_neg (by omega)]
    clear hl hlt
    have h1 := hr.2.1
    have h2 := hr.2.2.1
    have h3 : ¬ (0 ≤ at_ ∧ (0 : Int) ≤ 4 ∧ at_ + 4 ≤ n) := by omega
    have H3 := Lib.hid h3
    clear h3
    go_enter Tryd.func12, Tryd.ntmps12
    go_wp2_with fail
    refine (get_no A n c L at_ 4 _ h1 h2 H3.out).mono ?_
    rintro e w1 ⟨rfl, hb⟩
    have Hb := Lib.hid (below_box hb)
    clear hb
    go_wp2
    go_ret
    exact ⟨by rw [HN.out]; rfl, Hb.out⟩

end Go.Proofs.YtdlpeljdpnohlaaDoor
