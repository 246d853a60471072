/- The walks of block.Size and of its reference. -/
import Derived.Test.YtdlpeljdpnohlaaDoorOctU
namespace Go.Proofs.YtdlpeljdpnohlaaDoor
open Go.RowKit

/-- What Size answers: the length, and the error's number. -/
def sizeOfs (l : List UInt8) (L : Bool) (most : Int) : Int × Int :=
  if l.length < 8 then (0, 121)
  else if numAt L l 4 4 < 12 ∨ numAt L l 4 4 % 4 ≠ 0 then (0, 123)
  else if most < numAt L l 4 4 then (0, 122)
  else (numAt L l 4 4, 0)

theorem ret_pair {k k' : IntKind} {a b c d : Int} (h : (a, b) = (c, d)) : Ending.returned (.tuple #[.int k a, .int k' b]) = .returned (.tuple #[.int k c, .int k' d]) := by
  injection h with h1 h2; rw [h1, h2]

set_option maxHeartbeats 800000 in
theorem size_any (A : Option Addr) (n c : Nat) (L : Bool) (most : Int) (l : List UInt8) (w : World) (hr : Rd w A n c l) :
    Calls Tryd.prog 8 #[.slice A n c, .bool L, .int .i64 most] w fun e w' =>
      e = .returned (.tuple #[.int .i64 (sizeOfs l L most).1, .int .i64 (sizeOfs l L most).2]) ∧ Below w.heap.size w w' := by
  have hl := hr.1
  by_cases h8 : n < 8
  · have HF : Hid (sizeOfs l L most = (0, 121)) := by unfold Hid sizeOfs; rw [if_pos (by omega)]
    clear hl hr
    go_enter Tryd.func8, Tryd.ntmps8
    go_wp2_with fail
    go_ret2
    exact ⟨by rw [HF.out]; rfl, Below.refl _ _⟩
  · have hx := numAt_lt L l 4 4
    have c1 := u32_any A n c L 4 l
    simp only [show (4 : Int).toNat = 4 from rfl] at c1
    have HS : Hid (sizeOfs l L most = if numAt L l 4 4 < 12 ∨ numAt L l 4 4 % 4 ≠ 0 then (0, 123) else if most < numAt L l 4 4 then (0, 122) else ((numAt L l 4 4 : Int), 0)) := by
      unfold Hid sizeOfs; rw [if_neg (by omega)]
    clear hl
    have C1 := Lib.hid c1
    clear c1
    generalize numAt L l 4 4 = x at *
    have hxn : x ≤ 4294967295 := by omega
    clear hx
    by_cases h12 : x < 12
    · have HF : Hid (sizeOfs l L most = (0, 123)) := by unfold Hid; rw [HS.out, if_pos (.inl h12)]
      clear HS
      go_enter Tryd.func8, Tryd.ntmps8
      go_wp2_with fail
      refine (C1.out _ hr (by omega)).mono ?_
      rintro e w1 ⟨rfl, hb⟩
      have Hb := Lib.hid hb
      clear hb hr
      go_wp2
      go_ret2
      exact ⟨by rw [HF.out]; rfl, Hb.out⟩
    · by_cases h4 : x % 4 = 0
      · have h4b : ((x : Int) % 4 == 0) = true := by rw [beq_iff_eq]; omega
        have h4c : ((x : Int) % 4 != 0) = false := by rw [bne_eq_false_iff_eq]; omega
        have H4 := Lib.hid h4
        clear h4
        by_cases hm : most < x
        · have HF : Hid (sizeOfs l L most = (0, 122)) := by unfold Hid; rw [HS.out, if_neg (by have := H4.out; omega), if_pos hm]
          clear HS H4
          go_enter Tryd.func8, Tryd.ntmps8
          go_wp2_with fail
          refine (C1.out _ hr (by omega)).mono ?_
          rintro e w1 ⟨rfl, hb⟩
          have Hb := Lib.hid hb
          clear hb hr
          go_wp2
          go_ret2
          exact ⟨by rw [HF.out]; rfl, Hb.out⟩
        · have HF : Hid (sizeOfs l L most = ((x : Int), 0)) := by unfold Hid; rw [HS.out, if_neg (by have := H4.out; omega), if_neg hm]
          clear HS H4
          go_enter Tryd.func8, Tryd.ntmps8
          go_wp2_with fail
          refine (C1.out _ hr (by omega)).mono ?_
          rintro e w1 ⟨rfl, hb⟩
          have Hb := Lib.hid hb
          clear hb hr
          go_wp2
          go_ret2
          exact ⟨by rw [HF.out]; rfl, Hb.out⟩
      · have HF : Hid (sizeOfs l L most = (0, 123)) := by unfold Hid; rw [HS.out, if_pos (.inr h4)]
        have h4b : ((x : Int) % 4 == 0) = false := by rw [beq_eq_false_iff_ne]; omega
        have h4c : ((x : Int) % 4 != 0) = true := by rw [bne_iff_ne]; omega
        clear HS h4
        go_enter Tryd.func8, Tryd.ntmps8
        go_wp2_with fail
        refine (C1.out _ hr (by omega)).mono ?_
        rintro e w1 ⟨rfl, hb⟩
        have Hb := Lib.hid hb
        clear hb hr
        go_wp2
        go_ret2
        exact ⟨by rw [HF.out]; rfl, Hb.out⟩

end Go.Proofs.YtdlpeljdpnohlaaDoor
