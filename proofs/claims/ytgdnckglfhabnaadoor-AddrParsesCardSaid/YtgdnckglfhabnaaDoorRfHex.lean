/- The reference's hex, walked. -/
import Derived.Test.YtgdnckglfhabnaaDoorAdEnds
namespace Go.Proofs.YtgdnckglfhabnaaDoor
open Go.RowKit Go.Shelf

/-- What a row of hexadecimal digits spells, behind what the digits before spell. -/
def hexN : Nat → List UInt8 → Nat
  | acc, [] => acc
  | acc, c :: r => hexN (acc * 16 + hxn c) r
theorem hexN_nil (acc : Nat) : hexN acc [] = acc := by unfold hexN; rfl
theorem hexN_cons (acc : Nat) (c : UInt8) (r : List UInt8) : hexN acc (c :: r) = hexN (acc * 16 + hxn c) r := by conv => lhs; unfold hexN
theorem hexN_snoc (c : UInt8) : ∀ (l : List UInt8) (acc : Nat), hexN acc (l ++ [c]) = hexN acc l * 16 + hxn c
  | [], _ => by rw [List.nil_append, hexN_cons, hexN_nil, hexN_nil]
  | a :: r, acc => by rw [List.cons_append, hexN_cons, hexN_snoc c r, hexN_cons]
theorem phex_hexN : ∀ (l : List UInt8) (j acc : Nat), acc < 16 ^ j → j + l.length ≤ 4 → l.all isHx = true → phex acc l = some (hexN acc l) ∧ hexN acc l < 65536
  | [], j, acc, h1, h2, _ => by
    have : 16 ^ j ≤ 16 ^ 4 := Nat.pow_le_pow_right (by omega) (by simpa using h2)
    rw [hexN_nil]
    exact ⟨rfl, by omega⟩
  | c :: r, j, acc, h1, h2, ha => by
    rw [List.all_cons, Bool.and_eq_true] at ha
    have hc := hxn_lt ha.1
    rw [List.length_cons] at h2
    have hp : 16 ^ (j + 1) ≤ 16 ^ 4 := Nat.pow_le_pow_right (by omega) (by omega)
    rw [Nat.pow_succ] at hp
    have ih := phex_hexN r (j + 1) (acc * 16 + hxn c) (by rw [Nat.pow_succ]; omega) (by omega) ha.2
    rw [hexN_cons, phex, if_neg (by omega)]
    exact ih

theorem hx_num {c : UInt8} (h1 : 48 ≤ c.toNat) (h2 : c.toNat ≤ 57) : isHx c = true ∧ hxn c = c.toNat - 48 := by
  constructor
  · simp [isHx, h1, h2]
  · rw [hxn, if_pos h2]
theorem hx_low {c : UInt8} (h1 : 97 ≤ c.toNat) (h2 : c.toNat ≤ 102) : isHx c = true ∧ hxn c = c.toNat - 87 := by
  constructor
  · simp [isHx, h1, h2]
  · rw [hxn, if_neg (by omega), if_pos h1]
theorem hx_up {c : UInt8} (h1 : 65 ≤ c.toNat) (h2 : c.toNat ≤ 70) : isHx c = true ∧ hxn c = c.toNat - 55 := by
  constructor
  · simp [isHx, h1, h2]
  · rw [hxn, if_neg (by omega), if_neg (by omega)]
theorem hx_none {c : UInt8} (h : ¬ (48 ≤ c.toNat ∧ c.toNat ≤ 57)) (h2 : ¬ (97 ≤ c.toNat ∧ c.toNat ≤ 102)) (h3 : ¬ (65 ≤ c.toNat ∧ c.toNat ≤ 70)) : isHx c = false := by
  simp only [isHx, Bool.or_eq_false_iff, decide_eq_false_iff_not]
  exact ⟨⟨h, h2⟩, h3⟩
def hexV (s : ByteArray) : Value := .int .i64 (if grpB s then (grpN s : Int) else -1)

set_option maxRecDepth 100000 in
set_option maxHeartbeats 8000000 in
theorem hex_any (s : ByteArray) (hs : s.size < 4294967281) (w : World) :
    Calls Tryd.prog 33 #[.string s] w fun e w' => e = .returned (hexV s) ∧ w' = w := by
  have HL := Lib.hid (show s.data.toList.length = s.size from rfl)
  go_enter Tryd.func33, Tryd.ntmps33
  go_wp2_with fail
  go_loop [3, 4] (fun n i => ∃ (k : Nat) (z : Int), k ≤ s.size ∧ i = .int .i64 k ∧ n = .int .i64 z ∧ Hid (k ≤ 4 → z = (hexN 0 (s.data.toList.take k) : Int)) ∧ Hid ((s.data.toList.take k).all isHx = true)) (fun _ i => s.size - (intOf i).toNat)
  case atStart => exact ⟨0, 0, by omega, rfl, rfl, Lib.hid (fun _ => by rw [List.take_zero, hexN_nil]; rfl), Lib.hid rfl⟩
  case round =>
    obtain ⟨k, z, hk, rfl, rfl, HZ, H⟩ := hrel
    by_cases hlt : k < s.size
    · have HT := Lib.hid (show s.data.toList.take (k + 1) = s.data.toList.take k ++ [s[k]] by
        rw [List.take_succ_eq_append_getElem (by rw [HL.out]; exact hlt)]; rfl)
      have HM := Lib.hid (show s[k] ∈ s.data.toList from by
        have : s[k] = s.data.toList[k]'(by rw [HL.out]; exact hlt) := rfl
        rw [this]
        exact List.getElem_mem _)
      have hc256 : s[k].toNat < 256 := s[k].toNat_lt
      have hcw : IntKind.i64.wrap (s[k].toNat : Int) = (s[k].toNat : Int) := by rw [IntKind.wrap_i64]; omega
      have hcl : (s[k].toNat < 48) ∨ (48 ≤ s[k].toNat ∧ s[k].toNat ≤ 57) ∨ (58 ≤ s[k].toNat ∧ s[k].toNat < 65) ∨ (65 ≤ s[k].toNat ∧ s[k].toNat ≤ 70) ∨ (71 ≤ s[k].toNat ∧ s[k].toNat < 97) ∨ (97 ≤ s[k].toNat ∧ s[k].toNat ≤ 102) ∨ (102 < s[k].toNat) := by omega
      rcases hcl with d0 | d1 | d2 | d3 | d4 | d5 | d6
      · have HF := Lib.hid (show hexV s = .int .i64 (-1) by
          rw [hexV, grp_bad HM.out (hx_none (by omega) (by omega) (by omega))]; rfl)
        have f0 : (s[k].toNat : Int) < 48 := by omega
        have f1 : ¬ (48 : Int) ≤ (s[k].toNat : Int) := by omega
        have f2 : ¬ (97 : Int) ≤ (s[k].toNat : Int) := by omega
        have f3 : ¬ (65 : Int) ≤ (s[k].toNat : Int) := by omega
        clear d0 HM HT H HZ
        go_wp2_with fail
        go_ret
        exact ⟨by rw [HF.out]; rfl, rfl⟩
      · obtain ⟨hx1, hx2⟩ := hx_num (c := s[k]) (by omega) (by omega)
        have HA := Lib.hid (show (s.data.toList.take (k + 1)).all isHx = true by rw [HT.out, List.all_append, H.out]; simp [hx1])
        have HS := Lib.hid (show hexN 0 (s.data.toList.take (k + 1)) = hexN 0 (s.data.toList.take k) * 16 + (s[k].toNat - 48) by rw [HT.out, hexN_snoc, hx2])
        have f0 : (48 : Int) ≤ (s[k].toNat : Int) := by omega
        have f1 : (s[k].toNat : Int) ≤ 57 := by omega
        have f2 : ¬ (97 : Int) ≤ (s[k].toNat : Int) := by omega
        have f3 : ¬ (65 : Int) ≤ (s[k].toNat : Int) := by omega
        by_cases h4 : k < 4
        · have hb := (phex_hexN (s.data.toList.take k) 0 0 (by decide) (by rw [List.length_take]; omega) H.out).2
          obtain rfl := HZ.out (by omega)
          generalize hexN 0 (s.data.toList.take k) = n at *
          clear hx1 hx2 d1 HM HT H HZ
          go_wp2_with fail
          go_round
          case rel => exact ⟨k + 1, _, by omega, by go_num, rfl, Lib.hid (fun _ => by rw [HS.out]; omega), HA⟩
          case measure => simp [intOf]; omega
        · clear hx1 hx2 d1 HM HT H HZ HS
          go_wp2_with fail
          go_round
          case rel => exact ⟨k + 1, _, by omega, by go_num, rfl, Lib.hid (fun h => by omega), HA⟩
          case measure => simp [intOf]; omega
      · have HF := Lib.hid (show hexV s = .int .i64 (-1) by
          rw [hexV, grp_bad HM.out (hx_none (by omega) (by omega) (by omega))]; rfl)
        have f0 : (48 : Int) ≤ (s[k].toNat : Int) := by omega
        have f1 : ¬ (s[k].toNat : Int) ≤ 57 := by omega
        have f2 : ¬ (97 : Int) ≤ (s[k].toNat : Int) := by omega
        have f3 : ¬ (65 : Int) ≤ (s[k].toNat : Int) := by omega
        clear d2 HM HT H HZ
        go_wp2_with fail
        go_ret
        exact ⟨by rw [HF.out]; rfl, rfl⟩
      · obtain ⟨hx1, hx2⟩ := hx_up (c := s[k]) (by omega) (by omega)
        have HA := Lib.hid (show (s.data.toList.take (k + 1)).all isHx = true by rw [HT.out, List.all_append, H.out]; simp [hx1])
        have HS := Lib.hid (show hexN 0 (s.data.toList.take (k + 1)) = hexN 0 (s.data.toList.take k) * 16 + (s[k].toNat - 55) by rw [HT.out, hexN_snoc, hx2])
        have f0 : (48 : Int) ≤ (s[k].toNat : Int) := by omega
        have f1 : ¬ (s[k].toNat : Int) ≤ 57 := by omega
        have f2 : ¬ (97 : Int) ≤ (s[k].toNat : Int) := by omega
        have f3 : (65 : Int) ≤ (s[k].toNat : Int) := by omega
        have f4 : (s[k].toNat : Int) ≤ 70 := by omega
        by_cases h4 : k < 4
        · have hb := (phex_hexN (s.data.toList.take k) 0 0 (by decide) (by rw [List.length_take]; omega) H.out).2
          obtain rfl := HZ.out (by omega)
          generalize hexN 0 (s.data.toList.take k) = n at *
          clear hx1 hx2 d3 HM HT H HZ
          go_wp2_with fail
          go_round
          case rel => exact ⟨k + 1, _, by omega, by go_num, rfl, Lib.hid (fun _ => by rw [HS.out]; omega), HA⟩
          case measure => simp [intOf]; omega
        · clear hx1 hx2 d3 HM HT H HZ HS
          go_wp2_with fail
          go_round
          case rel => exact ⟨k + 1, _, by omega, by go_num, rfl, Lib.hid (fun h => by omega), HA⟩
          case measure => simp [intOf]; omega
      · have HF := Lib.hid (show hexV s = .int .i64 (-1) by
          rw [hexV, grp_bad HM.out (hx_none (by omega) (by omega) (by omega))]; rfl)
        have f0 : (48 : Int) ≤ (s[k].toNat : Int) := by omega
        have f1 : ¬ (s[k].toNat : Int) ≤ 57 := by omega
        have f2 : ¬ (97 : Int) ≤ (s[k].toNat : Int) := by omega
        have f3 : (65 : Int) ≤ (s[k].toNat : Int) := by omega
        have f4 : ¬ (s[k].toNat : Int) ≤ 70 := by omega
        clear d4 HM HT H HZ
        go_wp2_with fail
        go_ret
        exact ⟨by rw [HF.out]; rfl, rfl⟩
      · obtain ⟨hx1, hx2⟩ := hx_low (c := s[k]) (by omega) (by omega)
        have HA := Lib.hid (show (s.data.toList.take (k + 1)).all isHx = true by rw [HT.out, List.all_append, H.out]; simp [hx1])
        have HS := Lib.hid (show hexN 0 (s.data.toList.take (k + 1)) = hexN 0 (s.data.toList.take k) * 16 + (s[k].toNat - 87) by rw [HT.out, hexN_snoc, hx2])
        have f0 : (48 : Int) ≤ (s[k].toNat : Int) := by omega
        have f1 : ¬ (s[k].toNat : Int) ≤ 57 := by omega
        have f2 : (97 : Int) ≤ (s[k].toNat : Int) := by omega
        have f3 : (s[k].toNat : Int) ≤ 102 := by omega
        have f4 : (65 : Int) ≤ (s[k].toNat : Int) := by omega
        have f5 : ¬ (s[k].toNat : Int) ≤ 70 := by omega
        by_cases h4 : k < 4
        · have hb := (phex_hexN (s.data.toList.take k) 0 0 (by decide) (by rw [List.length_take]; omega) H.out).2
          obtain rfl := HZ.out (by omega)
          generalize hexN 0 (s.data.toList.take k) = n at *
          clear hx1 hx2 d5 HM HT H HZ
          go_wp2_with fail
          go_round
          case rel => exact ⟨k + 1, _, by omega, by go_num, rfl, Lib.hid (fun _ => by rw [HS.out]; omega), HA⟩
          case measure => simp [intOf]; omega
        · clear hx1 hx2 d5 HM HT H HZ HS
          go_wp2_with fail
          go_round
          case rel => exact ⟨k + 1, _, by omega, by go_num, rfl, Lib.hid (fun h => by omega), HA⟩
          case measure => simp [intOf]; omega
      · have HF := Lib.hid (show hexV s = .int .i64 (-1) by
          rw [hexV, grp_bad HM.out (hx_none (by omega) (by omega) (by omega))]; rfl)
        have f0 : (48 : Int) ≤ (s[k].toNat : Int) := by omega
        have f1 : ¬ (s[k].toNat : Int) ≤ 57 := by omega
        have f2 : (97 : Int) ≤ (s[k].toNat : Int) := by omega
        have f3 : ¬ (s[k].toNat : Int) ≤ 102 := by omega
        have f4 : (65 : Int) ≤ (s[k].toNat : Int) := by omega
        have f5 : ¬ (s[k].toNat : Int) ≤ 70 := by omega
        clear d6 HM HT H HZ
        go_wp2_with fail
        go_ret
        exact ⟨by rw [HF.out]; rfl, rfl⟩
    · obtain rfl : k = s.size := by omega
      have HT : s.data.toList.take s.size = s.data.toList := List.take_of_length_le (by rw [HL.out]; exact Nat.le_refl _)
      rw [HT] at H HZ
      by_cases h1 : s.size < 1
      · have HF := Lib.hid (show hexV s = .int .i64 (-1) by
          rw [hexV, show grpB s = false by rw [grpB, decide_eq_false (by omega : ¬ 1 ≤ s.size)]; simp]; rfl)
        have h1' : (s.size : Int) < 1 := by omega
        go_wp2_with fail
        go_ret
        exact ⟨by rw [HF.out]; rfl, rfl⟩
      · have h1' : ¬ (s.size : Int) < 1 := by omega
        by_cases h4 : 4 < s.size
        · have HF := Lib.hid (show hexV s = .int .i64 (-1) by
            rw [hexV, show grpB s = false by rw [grpB, decide_eq_false (by omega : ¬ s.size ≤ 4)]; simp]; rfl)
          have h4' : (4 : Int) < (s.size : Int) := by omega
          go_wp2_with fail
          go_ret
          exact ⟨by rw [HF.out]; rfl, rfl⟩
        · have hp := phex_hexN s.data.toList 0 0 (by decide) (by rw [HL.out]; omega) H.out
          have hz := HZ.out (by omega)
          have HF := Lib.hid (show hexV s = .int .i64 z by
            rw [hexV, show grpB s = true by rw [grpB, H.out, decide_eq_true (by omega : 1 ≤ s.size), decide_eq_true (by omega : s.size ≤ 4)]; rfl, if_pos rfl, grpN, hp.1, hz]
            rfl)
          have h4' : ¬ (4 : Int) < (s.size : Int) := by omega
          clear hp hz HZ H
          go_wp2_with fail
          go_ret
          exact ⟨by rw [HF.out]; rfl, rfl⟩
end Go.Proofs.YtgdnckglfhabnaaDoor
