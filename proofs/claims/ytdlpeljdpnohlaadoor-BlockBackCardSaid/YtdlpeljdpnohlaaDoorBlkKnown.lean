/- The walk of the statements' own examples: they hold. -/
import Derived.Test.YtdlpeljdpnohlaaDoorBlkTurn
import Derived.Test.YtdlpeljdpnohlaaDoorBlkBytes
import Derived.Test.YtdlpeljdpnohlaaDoorBlkSize
import Derived.Lib.SlBytesConst
import Derived.Outline
namespace Go.Proofs.YtdlpeljdpnohlaaDoor
open Go.RowKit

set_option maxRecDepth 100000 in
set_option maxHeartbeats 2000000 in
theorem known_any (w : World) :
    Calls Tryd.prog 4 #[] w fun e w' => e = .returned (.bool true) ∧ Below w.heap.size w w' := by
  go_enter Tryd.func4, Tryd.ntmps4
  go_wp2_with fail
  refine (bytes_yes _ 4 4 false 1 [1, 2, 3, 4] _ (lit_rd w [1, 2, 3, 4] _ 4 rfl rfl (by omega)) (by omega) (by omega) (by omega) (by omega)).mono ?_
  rintro e w1 ⟨A1, c1, rfl, hb1, ho1⟩
  have B1 := Lib.hid (below_box hb1)
  have hf : frameOf false (Int.toNat 1) [1, 2, 3, 4] = [0, 0, 0, 1, 0, 0, 0, 16, 1, 2, 3, 4, 0, 0, 0, 16] := by decide
  rw [hf] at ho1
  have hv1 := conv_str (P := Tryd.prog) ho1.rd 23 9 Tryd.underlying23 Tryd.underlying5 Tryd.underlying9
  clear hb1 ho1 hf
  have kc := fun (w : World) (C : Array Value) (n c : Nat) => Lib.run_convert_bytes_const (P := Tryd.prog) w 23 5 C n c Tryd.underlying23 Tryd.underlying5
  go_wp2_with fail
  clear hv1
  refine (size_any _ 8 8 true 64 [6, 0, 0, 0, 16, 0, 0, 0] _ (lit_rd_mark w1 _ _ _ 8 rfl rfl (by omega))).mono ?_
  rintro e w2 ⟨rfl, hb2⟩
  rw [show sizeOfs [6, 0, 0, 0, 16, 0, 0, 0] true 64 = (16, 0) by decide]
  have B2 := Lib.hid (B1.out.trans (below_box hb2 |>.mono B1.out.size))
  clear hb2 B1
  go_wp2_with fail
  refine (size_any _ 8 8 true 15 [6, 0, 0, 0, 16, 0, 0, 0] _ (lit_rd_mark w2 _ _ _ 8 rfl rfl (by omega))).mono ?_
  rintro e w3 ⟨rfl, hb3⟩
  rw [show sizeOfs [6, 0, 0, 0, 16, 0, 0, 0] true 15 = (0, 122) by decide]
  have B3 := Lib.hid (B2.out.trans (below_box hb3 |>.mono B2.out.size))
  clear hb3 B2
  go_wp2_with fail
  refine (turn_any _ 12 12 [10, 13, 13, 10, 0, 0, 0, 28, 26, 43, 60, 77] _ (lit_rd_mark w3 _ _ _ 12 rfl rfl (by omega))).mono ?_
  rintro e w4 ⟨rfl, hb4⟩
  rw [show turnOf [10, 13, 13, 10, 0, 0, 0, 28, 26, 43, 60, 77] = (false, 0) by decide]
  have B4 := Lib.hid (B3.out.trans (below_box hb4 |>.mono B3.out.size))
  clear hb4 B3
  go_wp2_with fail
  refine (turn_any _ 2 2 [10, 13] _ (lit_rd_mark w4 _ _ _ 2 rfl rfl (by omega))).mono ?_
  rintro e w5 ⟨rfl, hb5⟩
  rw [show turnOf [10, 13] = (false, 121) by decide]
  have B5 := Lib.hid (B4.out.trans (below_box hb5 |>.mono B4.out.size))
  clear hb5 B4
  go_wp2_with fail
  refine (turn_any _ 2 2 [10, 14] _ (lit_rd_mark w5 _ _ _ 2 rfl rfl (by omega))).mono ?_
  rintro e w6 ⟨rfl, hb6⟩
  rw [show turnOf [10, 14] = (false, 120) by decide]
  have B6 := Lib.hid (B5.out.trans (below_box hb6 |>.mono B5.out.size))
  clear hb6 B5
  go_wp2
  go_ret
  exact ⟨rfl, B6.out⟩
end Go.Proofs.YtdlpeljdpnohlaaDoor
