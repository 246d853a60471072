/- The reference's reading of a text: all reasons are tried. -/
import Derived.Test.YtajgnbhcgfgjjaaDoorKsRText
import Derived.Test.YtajgnbhcgfgjjaaDoorKsParse
namespace Go.Proofs.YtajgnbhcgfgjjaaDoor
open Go.RowKit Go.Shelf

theorem out_txt : ∀ n : Nat, n < 256 → outOf ⟨(txt n).toArray⟩ = n := by decide +kernel

/-- What the reference says of a text. -/
def rparsed (s : ByteArray) : Int := if (⟨(txt (outOf s)).toArray⟩ : ByteArray) = s then (outOf s : Int) else -1
def NoneTo (s : ByteArray) (k : Nat) : Prop := ∀ j, j < k → ¬ (⟨(txt j).toArray⟩ : ByteArray) = s
theorem rparsed_hit {s : ByteArray} {k : Nat} (hk : k < 256) (h : (⟨(txt k).toArray⟩ : ByteArray) = s) : rparsed s = k := by
  subst h
  rw [rparsed, out_txt k hk, if_pos rfl]
theorem rparsed_none {s : ByteArray} (h : NoneTo s 256) : rparsed s = -1 := by
  rw [rparsed, if_neg (h _ (show outOf s < 256 from outL_lt _))]

set_option maxRecDepth 100000 in
set_option maxHeartbeats 2000000 in
theorem rparse_any (s : ByteArray) (w : World) :
    Calls Tryd.prog 13 #[.string s] w fun e w' => e = .returned (.int .i64 (rparsed s)) ∧ Below w.heap.size w w' := by
  go_enter Tryd.func13, Tryd.ntmps13
  go_wp2_with fail
  go_loopw [3] (fun i wr => ∃ (k : Nat), k ≤ 256 ∧ i = .int .i64 k ∧ Hid (NoneTo s k) ∧ Hid (Below w.heap.size w wr)) (fun i _ => 256 - (intOf i).toNat)
  case atStart => exact ⟨0, by omega, rfl, Lib.hid (fun _ h => absurd h (by omega)), Lib.hid (Below.refl _ _)⟩
  case round =>
    obtain ⟨k, hk, rfl, hn, hb⟩ := hrel
    by_cases hlt : k < 256
    · go_wp2_with fail
      refine (rtext_any k hlt _).mono ?_
      rintro e w1 ⟨rfl, b⟩
      have HB := Lib.hid (hb.out.trans (b.mono hb.out.size))
      clear b hb
      by_cases ht : (⟨(txt k).toArray⟩ : ByteArray) = s
      · have HR := Lib.hid (rparsed_hit hlt ht)
        rw [ht]
        clear ht
        go_wp2_with fail
        go_ret
        exact ⟨by rw [HR.out]; rfl, HB.out⟩
      · have hne := bytes_ne ht
        have HN := Lib.hid (show NoneTo s (k + 1) from fun j hj => by
          by_cases e : j = k
          · rw [e]; exact ht
          · exact hn.out j (by omega))
        clear ht
        generalize (⟨(txt k).toArray⟩ : ByteArray) = t at *
        go_wp2_with fail
        go_roundw
        case rel => exact ⟨k + 1, by omega, by go_num, HN, HB⟩
        case measure => simp [intOf]; omega
    · obtain rfl : k = 256 := by omega
      have HR := Lib.hid (rparsed_none hn.out)
      go_wp2_with fail
      go_ret
      exact ⟨by rw [HR.out]; rfl, hb.out⟩
end Go.Proofs.YtajgnbhcgfgjjaaDoor
