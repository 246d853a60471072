/- The walks of package octet: Cut, Get, U16, U32, U64, Put, Pad. -/
import Derived.Test.YtdlpeljdpnohlaaDoorNum
namespace Go.Proofs.YtdlpeljdpnohlaaDoor
open Go.RowKit

set_option maxHeartbeats 400000 in
theorem cut_yes (A : Option Addr) (n c : Nat) (L : Bool) (at_ many : Int) (l : List UInt8) (w : World) (hr : Rd w A n c l) (h0 : 0 ≤ at_) (h1 : 0 ≤ many) (h2 : at_ + many ≤ n) :
    Calls Tryd.prog 23 #[.agg #[.slice A n c, .bool L], .int .i64 at_, .int .i64 many] w fun e w' =>
      ∃ A', e = .returned (.tuple #[.slice A' many.toNat many.toNat, .bool true]) ∧ Below w.heap.size w w' ∧ Rd w' A' many.toNat many.toNat ((l.drop at_.toNat).take many.toNat) := by
  have H := Lib.hid hr
  have hn := hr.2.1
  have hc := hr.2.2.1
  clear hr
  have h3 : at_ ≤ n := by omega
  have h4 : many ≤ n - at_ := by omega
  go_enter Tryd.func23, Tryd.ntmps23
  go_wp2
  · have e : many.toNat = 0 := by omega
    go_ret2
    refine ⟨A, by rw [e]; rfl, (Below.refl _ _).alloc (Nat.le_refl _) _, ?_⟩
    rw [e]
    exact ⟨by simp, Nat.le_refl _, by omega, fun h => absurd h (by omega)⟩
  · have e : (at_ + many).toNat - at_.toNat = many.toNat := by omega
    rw [e]
    go_ret2
    refine ⟨_, rfl, (Below.refl _ _).alloc (Nat.le_refl _) _, ?_⟩
    have k := (Rd.cut H.out (lo := at_.toNat) (hi := (at_ + many).toNat) (c' := many.toNat) (by omega) (by omega) (by omega) (by omega) _ (fun _ => rfl)).alloc (.cells #[.slice A n c, .bool L] 43)
    rw [e] at k
    exact k

set_option maxHeartbeats 400000 in
theorem cut_no (A : Option Addr) (n c : Nat) (L : Bool) (at_ many : Int) (w : World) (hn : n ≤ c) (hc : c ≤ 9223372036854775807) (h0 : ¬ (0 ≤ at_ ∧ 0 ≤ many ∧ at_ + many ≤ n)) :
    Calls Tryd.prog 23 #[.agg #[.slice A n c, .bool L], .int .i64 at_, .int .i64 many] w fun e w' =>
      e = .returned (.tuple #[.slice none 0 0, .bool false]) ∧ Below w.heap.size w w' := by
  have hb : (at_ < 0 ∨ many < 0 ∨ n < at_) ∨ (0 ≤ at_ ∧ 0 ≤ many ∧ at_ ≤ n ∧ n - at_ < many) := by omega
  clear h0
  rcases hb with hb | ⟨h1, h2, h3, h4⟩
  · by_cases h1 : at_ < 0
    · go_enter Tryd.func23, Tryd.ntmps23
      go_wp2
      go_ret2
      exact ⟨rfl, (Below.refl _ _).alloc (Nat.le_refl _) _⟩
    · by_cases h2 : many < 0
      · go_enter Tryd.func23, Tryd.ntmps23
        go_wp2
        go_ret2
        exact ⟨rfl, (Below.refl _ _).alloc (Nat.le_refl _) _⟩
      · have h3 : n < at_ := by omega
        clear hb
        go_enter Tryd.func23, Tryd.ntmps23
        go_wp2
        go_ret2
        exact ⟨rfl, (Below.refl _ _).alloc (Nat.le_refl _) _⟩
  · go_enter Tryd.func23, Tryd.ntmps23
    go_wp2
    go_ret2
    exact ⟨rfl, (Below.refl _ _).alloc (Nat.le_refl _) _⟩

/-- Below, behind a block of the call's own. -/
theorem below_box {w w1 : World} {o : Obj} (hb : Below (w.alloc o).heap.size (w.alloc o) w1) : Below w.heap.size w w1 :=
  ((Below.refl _ _).alloc (Nat.le_refl _) o).trans (hb.mono (by simp))

set_option maxHeartbeats 800000 in
theorem get_core (A : Option Addr) (n c : Nat) (L : Bool) (at_ many : Int) (l l1 : List UInt8) (w : World) (hl : (l.drop at_.toNat).take many.toNat = l1) (hr : Rd w A n c l) (h0 : 0 ≤ at_) (h1 : 0 ≤ many) (h2 : at_ + many ≤ n) (h8 : many ≤ 8) :
    Calls Tryd.prog 18 #[.agg #[.slice A n c, .bool L], .int .i64 at_, .int .i64 many] w fun e w' =>
      e = .returned (.tuple #[.int .u64 (num L l1), .bool true]) ∧ Below w.heap.size w w' := by
  have HL := Lib.hid hl
  clear hl
  go_enter Tryd.func18, Tryd.ntmps18
  go_wp2_with fail
  refine (cut_yes A n c L at_ many l _ (hr.alloc _) h0 h1 h2).mono ?_
  rintro e w1 ⟨A1, rfl, hb, hr1⟩
  rw [HL.out] at hr1
  obtain ⟨m, rfl⟩ := Int.eq_ofNat_of_zero_le h1
  simp only [Int.toNat_natCast] at *
  have h8' : m ≤ 8 := by omega
  have hcell : w1.cell? ⟨w.heap.size, 1, none⟩ = some (.bool L) := cell_later hb (by simp [World.cell?_alloc_new])
  have Hb := Lib.hid (below_box hb)
  clear hr hb HL
  have Hl1 := Lib.hid hr1.1
  cases L
  · go_wp2_with fail
    go_loop [10, 28] (fun n i => ∃ k : Nat, k ≤ m ∧ i = .int .i64 k ∧ n = .int .u64 (be (l1.take k))) (fun _ i => m - (intOf i).toNat)
    case atStart => exact ⟨0, Nat.zero_le _, rfl, rfl⟩
    case round =>
      obtain ⟨k, hk, rfl, rfl⟩ := hrel
      by_cases hlt : k < m
      · obtain ⟨b, off, rfl, hblt, hcs⟩ := hr1.at_ (by omega)
        have hck := hcs k hlt
        clear hcs hr1
        go_wp2
        go_round
        case rel => exact ⟨k + 1, by omega, by go_num, by rw [be_round l1 k (by rw [Hl1.out]; exact hlt) (by rw [Hl1.out]; exact h8')]⟩
        case measure => simp [intOf]; omega
      · obtain rfl : k = m := by omega
        clear hr1
        go_wp2
        go_ret2
        refine ⟨?_, Hb.out⟩
        rw [List.take_of_length_le (by rw [Hl1.out]; exact Nat.le_refl _)]
        rfl
  · go_wp2_with fail
    go_loop [10, 28] (fun n i => ∃ k : Nat, k ≤ m ∧ i = .int .i64 k ∧ n = .int .u64 (le (l1.take k))) (fun _ i => m - (intOf i).toNat)
    case atStart => exact ⟨0, Nat.zero_le _, rfl, rfl⟩
    case round =>
      obtain ⟨k, hk, rfl, rfl⟩ := hrel
      by_cases hlt : k < m
      · obtain ⟨b, off, rfl, hblt, hcs⟩ := hr1.at_ (by omega)
        have hck := hcs k hlt
        clear hcs hr1
        go_wp2
        go_round
        case rel => exact ⟨k + 1, by omega, by go_num, by rw [le_shift _ k (by omega), le_round l1 k (by rw [Hl1.out]; exact hlt) (by rw [Hl1.out]; exact h8')]⟩
        case measure => simp [intOf]; omega
      · obtain rfl : k = m := by omega
        clear hr1
        go_wp2
        go_ret2
        refine ⟨?_, Hb.out⟩
        rw [List.take_of_length_le (by rw [Hl1.out]; exact Nat.le_refl _)]
        rfl

theorem get_yes (A : Option Addr) (n c : Nat) (L : Bool) (at_ many : Int) (l : List UInt8) (w : World) (hr : Rd w A n c l) (h0 : 0 ≤ at_) (h1 : 0 ≤ many) (h2 : at_ + many ≤ n) (h8 : many ≤ 8) :
    Calls Tryd.prog 18 #[.agg #[.slice A n c, .bool L], .int .i64 at_, .int .i64 many] w fun e w' =>
      e = .returned (.tuple #[.int .u64 (num L ((l.drop at_.toNat).take many.toNat)), .bool true]) ∧ Below w.heap.size w w' :=
  get_core A n c L at_ many l _ w rfl hr h0 h1 h2 h8

set_option maxHeartbeats 400000 in
theorem get_no (A : Option Addr) (n c : Nat) (L : Bool) (at_ many : Int) (w : World) (hn : n ≤ c) (hc : c ≤ 9223372036854775807) (h0 : ¬ (0 ≤ at_ ∧ 0 ≤ many ∧ at_ + many ≤ n)) :
    Calls Tryd.prog 18 #[.agg #[.slice A n c, .bool L], .int .i64 at_, .int .i64 many] w fun e w' =>
      e = .returned (.tuple #[.int .u64 0, .bool false]) ∧ Below w.heap.size w w' := by
  go_enter Tryd.func18, Tryd.ntmps18
  go_wp2_with fail
  refine (cut_no A n c L at_ many _ hn hc h0).mono ?_
  rintro e w1 ⟨rfl, hb⟩
  have Hb := Lib.hid (below_box hb)
  clear hb h0
  go_wp2
  go_ret2
  exact ⟨rfl, Hb.out⟩

/-- What stands at a place, many bytes wide; 0 where it does not stand. -/
def numAt (L : Bool) (l : List UInt8) (at_ many : Nat) : Nat := if at_ + many ≤ l.length then num L ((l.drop at_).take many) else 0
theorem numAt_lt (L : Bool) (l : List UInt8) (at_ many : Nat) : numAt L l at_ many < 256 ^ many := by
  unfold numAt
  split
  · have h := num_lt L ((l.drop at_).take many)
    rw [show ((l.drop at_).take many).length = many by simp; omega] at h
    exact h
  · exact Nat.pow_pos (by omega)

end Go.Proofs.YtdlpeljdpnohlaaDoor
