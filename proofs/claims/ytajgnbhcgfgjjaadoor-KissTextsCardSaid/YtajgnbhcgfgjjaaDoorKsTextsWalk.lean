/- KissTexts, the walk. -/
import Derived.Test.YtajgnbhcgfgjjaaDoorKsWorks
import Derived.Test.YtajgnbhcgfgjjaaDoorKsRParse
namespace Go.Proofs.YtajgnbhcgfgjjaaDoor
open Go.RowKit Go.Shelf

theorem parsed_txt (r : Nat) (hr : r < 256) : parsed ⟨(txt r).toArray⟩ = .tuple #[.int .u8 r, .int .i64 0] := by
  rw [parsed, out_txt r hr, if_pos rfl]
theorem txt_size (r : Nat) : (⟨(txt r).toArray⟩ : ByteArray).size ≤ 9223372036854775807 := by
  have h : (⟨(txt r).toArray⟩ : ByteArray).size = (txt r).length := rfl
  have := join_len r 8
  rw [h, txt]
  omega

set_option maxRecDepth 100000 in
set_option maxHeartbeats 4000000 in
theorem kissTexts_walk (r : Nat) (hr : r < 256) (s : ByteArray) (hs : s.size ≤ 9223372036854775807) (w : World) :
    Calls Tryd.prog 4 #[.int .u8 r, .string s] w fun e w' => e = .returned (.bool true) ∧ Below w.heap.size w w' := by
  have HP := Lib.hid (fun W => parse_any ⟨(txt r).toArray⟩ (txt_size r) W)
  have HQ := Lib.hid (fun W => parse_any s hs W)
  have HT := Lib.hid (fun W => text_any r hr W)
  have HRT := Lib.hid (fun W => rtext_any r hr W)
  have HRP := Lib.hid (fun W => rparse_any s W)
  rw [parsed_txt r hr] at HP
  have B0 := Lib.hid (Below.refl w.heap.size w)
  by_cases hl : 200 < (s.size : Int)
  · go_enter Tryd.func4, Tryd.ntmps4
    go_wp2_with fail
    refine (works_any _).mono ?_
    rintro e w1 ⟨rfl, b⟩
    have B1 := Lib.hid (B0.out.trans (b.mono B0.out.size))
    clear b B0
    go_wp2_with fail
    go_ret
    exact ⟨rfl, B1.out⟩
  generalize (⟨(txt r).toArray⟩ : ByteArray) = t at *
  by_cases hit : (⟨(txt (outOf s)).toArray⟩ : ByteArray) = s
  · have hp : parsed s = .tuple #[.int .u8 (outOf s), .int .i64 0] := by rw [parsed, if_pos hit]
    have hq : rparsed s = outOf s := by rw [rparsed, if_pos hit]
    have ho : outOf s < 256 := outL_lt _
    rw [hp] at HQ
    rw [hq] at HRP
    clear hit hp hq
    generalize outOf s = n at *
    go_enter Tryd.func4, Tryd.ntmps4
    go_wp2_with fail
    refine (HT.out _).mono ?_
    rintro e w1 ⟨rfl, b⟩
    have B1 := Lib.hid (B0.out.trans (b.mono B0.out.size))
    clear b B0
    go_wp2_with fail
    refine (HP.out _).mono ?_
    rintro e w2 ⟨rfl, b⟩
    have B2 := Lib.hid (B1.out.trans (b.mono B1.out.size))
    clear b B1
    go_wp2_with fail
    refine (HQ.out _).mono ?_
    rintro e w3 ⟨rfl, b⟩
    have B3 := Lib.hid (B2.out.trans (b.mono B2.out.size))
    clear b B2
    go_wp2_with fail
    refine (HRP.out _).mono ?_
    rintro e w4 ⟨rfl, b⟩
    have B4 := Lib.hid (B3.out.trans (b.mono B3.out.size))
    clear b B3
    go_wp2_with fail
    refine (HRT.out _).mono ?_
    rintro e w5 ⟨rfl, b⟩
    have B5 := Lib.hid (B4.out.trans (b.mono B4.out.size))
    clear b B4
    go_wp2_with fail
    refine (works_any _).mono ?_
    rintro e w6 ⟨rfl, b⟩
    have B6 := Lib.hid (B5.out.trans (b.mono B5.out.size))
    clear b B5
    go_wp2_with fail
    go_ret
    exact ⟨rfl, B6.out⟩
  · have hp : parsed s = .tuple #[.int .u8 0, .int .i64 9] := by rw [parsed, if_neg hit]
    have hq : rparsed s = -1 := by rw [rparsed, if_neg hit]
    rw [hp] at HQ
    rw [hq] at HRP
    clear hit hp hq
    go_enter Tryd.func4, Tryd.ntmps4
    go_wp2_with fail
    refine (HT.out _).mono ?_
    rintro e w1 ⟨rfl, b⟩
    have B1 := Lib.hid (B0.out.trans (b.mono B0.out.size))
    clear b B0
    go_wp2_with fail
    refine (HP.out _).mono ?_
    rintro e w2 ⟨rfl, b⟩
    have B2 := Lib.hid (B1.out.trans (b.mono B1.out.size))
    clear b B1
    go_wp2_with fail
    refine (HQ.out _).mono ?_
    rintro e w3 ⟨rfl, b⟩
    have B3 := Lib.hid (B2.out.trans (b.mono B2.out.size))
    clear b B2
    go_wp2_with fail
    refine (HRP.out _).mono ?_
    rintro e w4 ⟨rfl, b⟩
    have B4 := Lib.hid (B3.out.trans (b.mono B3.out.size))
    clear b B3
    go_wp2_with fail
    refine (HRT.out _).mono ?_
    rintro e w5 ⟨rfl, b⟩
    have B5 := Lib.hid (B4.out.trans (b.mono B4.out.size))
    clear b B4
    go_wp2_with fail
    refine (works_any _).mono ?_
    rintro e w6 ⟨rfl, b⟩
    have B6 := Lib.hid (B5.out.trans (b.mono B5.out.size))
    clear b B5
    go_wp2_with fail
    go_ret
    exact ⟨rfl, B6.out⟩
end Go.Proofs.YtajgnbhcgfgjjaaDoor
