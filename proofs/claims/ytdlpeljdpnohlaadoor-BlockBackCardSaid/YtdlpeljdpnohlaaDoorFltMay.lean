/- The words of an error's notes: a word of letters may be one. -/
import Derived.Test.YtdlpeljdpnohlaaDoorBase
import Derived.Test.YtdlpeljdpnohlaaDoorShelf
import Derived.Outline
namespace Go.Proofs.YtdlpeljdpnohlaaDoor
open Go.RowKit Go.Shelf

/-- The letters that a word may have. -/
def letters : List UInt8 := [97, 98, 99, 100, 101, 102, 103, 104, 105, 106, 107, 108, 109, 110, 111, 112, 113, 114, 115, 116, 117, 118, 119, 120, 121, 122, 48, 49, 50, 51, 52, 53, 54, 55, 56, 57, 45]

theorem trim_any (s : ByteArray) (w : World) (h2 : s.size ≤ 32) (ht : Lib.trimS s.data.toList letters = []) :
    Calls Tryd.prog 31 #[.string s, .string ⟨#[97, 98, 99, 100, 101, 102, 103, 104, 105, 106, 107, 108, 109, 110, 111, 112, 113, 114, 115, 116, 117, 118, 119, 120, 121, 122, 48, 49, 50, 51, 52, 53, 54, 55, 56, 57, 45]⟩] w fun e w' =>
      e = .returned (.string ⟨#[]⟩) ∧ Below w.heap.size w w' := by
  refine (Any.strings_Trim_laid lays160 (by kernel_rfl) s ⟨letters.toArray⟩ w (by omega) (by decide) (ascii_of_all (by decide))).mono ?_
  rintro e w' ⟨rfl, hb⟩
  exact ⟨by rw [show (⟨letters.toArray⟩ : ByteArray).data.toList = letters from rfl, ht], hb⟩

set_option maxRecDepth 100000 in
set_option maxHeartbeats 1000000 in
theorem may_yes (s : ByteArray) (w : World) (h0 : s.toList.isEmpty = false) (h2 : s.size ≤ 32) (ht : Lib.trimS s.data.toList letters = []) :
    Calls Tryd.prog 22 #[.string s] w fun e w' => e = .returned (.bool true) ∧ Below w.heap.size w w' := by
  have C := Lib.hid (trim_any s)
  have HT := Lib.hid ht
  have h3 : (s.size : Int) ≤ 32 := by omega
  clear ht
  go_enter Tryd.func22, Tryd.ntmps22
  go_wp2_with fail
  refine (C.out _ h2 HT.out).mono ?_
  rintro e w1 ⟨rfl, hb⟩
  go_wp2
  go_ret
  exact ⟨rfl, hb⟩
end Go.Proofs.YtdlpeljdpnohlaaDoor
