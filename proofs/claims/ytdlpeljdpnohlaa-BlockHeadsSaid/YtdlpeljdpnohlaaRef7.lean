/- The walks of the reference of layer 7: Get, Put. -/
import Derived.Test.YtdlpeljdpnohlaaApp
import Derived.Test.YtdlpeljdpnohlaaOct
namespace Go.Proofs.Ytdlpeljdpnohlaa
open Go.RowKit

set_option maxHeartbeats 800000 in
theorem rget_core (A : Option Addr) (n c : Nat) (L : Bool) (a m : Nat) (l l1 : List UInt8) (w : World) (hl : (l.drop a).take m = l1) (hr : Rd w A n c l) (h2 : a + m ≤ n) (h8 : m ≤ 8) :
    Calls Try.prog 25 #[.slice A n c, .bool L, .int .i64 a, .int .i64 m] w fun e w' =>
      e = .returned (.tuple #[.int .u64 (num L l1), .bool true]) ∧ w = w' := by
  have hn := hr.1
  have hc := hr.2.1
  have hc' := hr.2.2.1
  have hl1 : l1.length = m := by rw [← hl]; simp; omega
  have HL := Lib.hid hl
  have HN := Lib.hid hn
  have HL1 := Lib.hid hl1
  clear hn hl hl1
  go_enter Try.func25, Try.ntmps25
  go_wp2_with fail
  go_loop [10, 11, 12] (fun n u i => ∃ (k : Nat) (x : Int), k ≤ m ∧ i = .int .i64 k ∧ n = .int .u64 (acc L l1 k) ∧ u = .int .u64 x ∧ 0 ≤ x ∧ (k < 8 → x = ((256 ^ k : Nat) : Int))) (fun _ _ i => m - (intOf i).toNat)
  case atStart => exact ⟨0, 1, Nat.zero_le _, rfl, by rw [acc_zero]; rfl, rfl, by omega, fun _ => rfl⟩
  case round =>
    obtain ⟨k, x, hk, rfl, rfl, rfl, hx0, hx⟩ := hrel
    have HX := Lib.hid hx
    clear hx
    by_cases hlt : k < m
    · obtain ⟨b, off, rfl, hblt, hcs⟩ := hr.at_ (by omega)
      obtain ⟨j, hj⟩ : ∃ j : Nat, j = if L then a + k else a + m - 1 - k := ⟨_, rfl⟩
      have hjn : j < n := by subst hj; split <;> omega
      have hck := hcs j hjn
      have hx := HX.out (by omega)
      have HR : Hid (l[j]?.getD 0 = l1[if L then k else l1.length - 1 - k]?.getD 0) := by
        unfold Hid
        rw [hj, HL1.out, ← HL.out, List.getElem?_take, List.getElem?_drop]
        have h5 : (if L = true then k else m - 1 - k) < m := by split <;> omega
        rw [if_pos h5]
        congr 2
        split <;> omega
      generalize l[j]?.getD 0 = u at *
      have HA := Lib.hid (acc_round L l1 k (by rw [HL1.out]; exact hlt) (by rw [HL1.out]; exact h8) u HR.out)
      rw [← hx] at HA
      have HY : Hid (k + 1 < 8 → IntKind.u64.wrap (256 * x) = ((256 ^ (k + 1) : Nat) : Int)) := fun h => by
        have hp := pow_lt7 (k := k + 1) h
        rw [Nat.pow_succ, Nat.pow_succ] at hp
        rw [hx, IntKind.wrap_u64, Nat.pow_succ]
        omega
      have HY0 : Hid (0 ≤ IntKind.u64.wrap (256 * x)) := by unfold Hid; rw [IntKind.wrap_u64]; omega
      clear hcs hr hx
      cases L
      · simp only [Bool.false_eq_true, if_false] at hj
        have hj2 : (a : Int) + (m : Int) - 1 - (k : Int) = (j : Int) := by omega
        clear hj
        go_wp2
        go_round
        case rel => exact ⟨k + 1, _, by omega, by go_num, by rw [HA.out], rfl, HY0.out, HY.out⟩
        case measure => simp [intOf]; omega
      · simp only [if_true] at hj
        have hj2 : (a : Int) + (k : Int) = (j : Int) := by omega
        clear hj
        go_wp2
        go_round
        case rel => exact ⟨k + 1, _, by omega, by go_num, by rw [HA.out], rfl, HY0.out, HY.out⟩
        case measure => simp [intOf]; omega
    · obtain rfl : k = m := by omega
      have HF : Hid (acc L l1 k = num L l1) := by
        unfold Hid
        rw [← HL1.out]
        exact acc_all L l1
      clear hr
      go_wp2
      go_ret2
      exact ⟨by rw [← HF.out]; rfl, rfl⟩
theorem rget_yes (A : Option Addr) (n c : Nat) (L : Bool) (a m : Int) (l : List UInt8) (w : World) (hr : Rd w A n c l) (h0 : 0 ≤ a) (h1 : 0 ≤ m) (h2 : a + m ≤ n) (h8 : m ≤ 8) :
    Calls Try.prog 25 #[.slice A n c, .bool L, .int .i64 a, .int .i64 m] w fun e w' =>
      e = .returned (.tuple #[.int .u64 (num L ((l.drop a.toNat).take m.toNat)), .bool true]) ∧ w = w' := by
  obtain ⟨a', rfl⟩ := Int.eq_ofNat_of_zero_le h0
  obtain ⟨m', rfl⟩ := Int.eq_ofNat_of_zero_le h1
  simp only [Int.toNat_natCast]
  exact rget_core A n c L a' m' l _ w rfl hr (by omega) (by omega)

set_option maxHeartbeats 800000 in
theorem rput_core (L : Bool) (x m : Nat) (w : World) (h8 : m ≤ 8) (hx64 : x ≤ 18446744073709551615) :
    Calls Try.prog 21 #[.int .u64 x, .bool L, .int .i64 m] w fun e w' =>
      ∃ A' c', e = .returned (.slice A' m c') ∧ Below w.heap.size w w' ∧ Own w' w.heap.size (.slice A' m c') (bytesOf L m x) := by
  obtain ⟨i0, hi0, hz0, hz1, hz2⟩ := info_parts info_u8
  go_enter Try.func21, Try.ntmps21
  go_wp2_with (at_make; refine wpList_make_bytes _ rfl _ _ 22 rfl i0 Try.underlying22 hi0 hz0 hz1 hz2 _ _ _ _ m rfl rfl rfl rfl (by omega) ?_; intro w1 hown1 hb1 hz1')
  rw [← putRow_zero L m x] at hown1
  go_loopw [0, 8] (fun n i wr => ∃ (k : Nat) (q : Nat), k ≤ m ∧ i = .int .i64 k ∧ n = .int .u64 q ∧ q = x / 256 ^ k ∧ Own wr w.heap.size (.slice (some ⟨w.heap.size, 0, none⟩) m m) (putRow L m x k) ∧ Below w.heap.size w wr) (fun _ i _ => m - (intOf i).toNat)
  case atStart => exact ⟨0, x, Nat.zero_le _, rfl, rfl, by simp, hown1, hb1⟩
  case round =>
    obtain ⟨k, q, hk, rfl, rfl, hq, hown, hb⟩ := hrel
    clear hown1 hb1 hz1'
    by_cases hlt : k < m
    · obtain ⟨j, hj⟩ : ∃ j : Nat, j = if L then k else m - 1 - k := ⟨_, rfl⟩
      have hjm : j < m := by subst hj; split <;> omega
      have c1 := hown.cellAt j hjm
      have c2 := hown.frozenAt j
      have hu := u8_mod q
      have hqle : q ≤ x := by rw [hq]; exact Nat.div_le_self _ _
      have hwq : IntKind.u64.wrap ((q : Int) / 256) = (q : Int) / 256 := by rw [IntKind.wrap_u64]; omega
      clear hqle
      have HQ : Hid (q / 256 = x / 256 ^ (k + 1)) := by unfold Hid; rw [hq, Nat.div_div_eq_div_mul, Nat.pow_succ]
      have HO := Lib.hid (hown.stored j (UInt8.ofNat q))
      rw [hq, hj, putRow_step L m x k hlt, ← hj, ← hq] at HO
      have Hb := Lib.hid (hb.setCell (p := ⟨w.heap.size, j, none⟩) (Nat.le_refl _) (.int .u8 ((UInt8.ofNat q).toNat : Int)))
      generalize UInt8.ofNat q = u at *
      clear hown hb hq
      cases L
      · simp only [Bool.false_eq_true, if_false] at hj
        have hj2 : (m : Int) - 1 - (k : Int) = (j : Int) := by omega
        clear hj
        go_wp2
        go_roundw
        case rel => exact ⟨k + 1, q / 256, by omega, by go_num, by go_num, HQ.out, HO.out, Hb.out⟩
        case measure => simp [intOf]; omega
      · simp only [if_true] at hj
        subst hj
        go_wp2
        go_roundw
        case rel => exact ⟨j + 1, q / 256, by omega, by go_num, by go_num, HQ.out, HO.out, Hb.out⟩
        case measure => simp [intOf]; omega
    · obtain rfl : k = m := by omega
      rw [putRow_all] at hown
      have HO := Lib.hid hown
      have Hb := Lib.hid hb
      clear hown hb hq
      go_wp2
      go_ret
      exact ⟨_, _, rfl, Hb.out, HO.out⟩
theorem rput_any (L : Bool) (x m : Int) (N : Nat) (w : World) (hx : 0 ≤ x) (hx64 : x ≤ 18446744073709551615) (h0 : 0 ≤ m) (h8 : m ≤ 8) (hN : (N : Int) = m) :
    Calls Try.prog 21 #[.int .u64 x, .bool L, .int .i64 m] w fun e w' =>
      ∃ A' c', e = .returned (.slice A' N c') ∧ Below w.heap.size w w' ∧ Own w' w.heap.size (.slice A' N c') (bytesOf L m.toNat x.toNat) := by
  obtain ⟨x', rfl⟩ := Int.eq_ofNat_of_zero_le hx
  obtain ⟨m', rfl⟩ := Int.eq_ofNat_of_zero_le h0
  obtain rfl : N = m' := by omega
  simp only [Int.toNat_natCast]
  exact rput_core L x' N w (by omega) (by omega)
end Go.Proofs.Ytdlpeljdpnohlaa
