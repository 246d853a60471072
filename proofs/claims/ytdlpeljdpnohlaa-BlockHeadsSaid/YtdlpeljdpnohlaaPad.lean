/- The walk of package octet: Pad. -/
import Derived.Test.YtdlpeljdpnohlaaNum
namespace Go.Proofs.Ytdlpeljdpnohlaa
open Go.RowKit

set_option maxHeartbeats 400000 in
theorem pad_any (n : Int) (w : World) (h0 : 0 ≤ n) (h1 : n ≤ 9223372036854775807) :
    Calls Try.prog 22 #[.int .i64 n] w fun e w' => e = .returned (.int .i64 ((-n) % 4)) ∧ w = w' := by
  have h4 : n % 4 = 0 ∨ n % 4 = 1 ∨ n % 4 = 2 ∨ n % 4 = 3 := by omega
  go_enter Try.func22, Try.ntmps22
  go_wp2
  all_goals
    go_ret
    refine ⟨congrArg (fun z => Ending.returned (.int .i64 z)) ?_, rfl⟩
    simp only [beq_iff_eq, beq_eq_false_iff_ne] at *
    omega
end Go.Proofs.Ytdlpeljdpnohlaa
