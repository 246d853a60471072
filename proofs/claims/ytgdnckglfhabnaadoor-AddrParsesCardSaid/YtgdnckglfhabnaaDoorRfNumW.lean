/- The reference's number, walked. -/
import Derived.Test.YtgdnckglfhabnaaDoorRfNumber
namespace Go.Proofs.YtgdnckglfhabnaaDoor
open Go.RowKit Go.Shelf

theorem numL_no {l : List UInt8} {most : Nat} (h : l.length < 1 ∨ 5 < l.length ∨ (l.head? = some 48 ∧ 1 < l.length) ∨ ¬ (l.all isDg = true) ∨ most < decN 0 l) : numV (numL l most) = .int .i64 (-1) := by
  rw [numL, if_pos h]
  rfl
theorem numL_yes {l : List UInt8} {most : Nat} (h : ¬ (l.length < 1 ∨ 5 < l.length ∨ (l.head? = some 48 ∧ 1 < l.length) ∨ ¬ (l.all isDg = true) ∨ most < decN 0 l)) : numV (numL l most) = .int .i64 (decN 0 l : Int) := by
  rw [numL, if_neg h]
  rfl

set_option maxRecDepth 100000 in
set_option maxHeartbeats 4000000 in
theorem number_any (s : ByteArray) (most : Nat) (hmo : most < 65536) (hs : s.size < 4294967281) (w : World) :
    Calls Tryd.prog 38 #[.string s, .int .i64 most] w fun e w' => e = .returned (numV (numL s.data.toList most)) ∧ w' = w := by
  have HL := Lib.hid (show s.data.toList.length = s.size from rfl)
  by_cases h0 : s.size < 1
  · have h0' : (s.size : Int) < 1 := by omega
    have HN := Lib.hid (numL_no (most := most) (.inl (by rw [HL.out]; exact h0)))
    go_enter Tryd.func38, Tryd.ntmps38
    go_wp2_with fail
    go_ret
    exact ⟨by rw [HN.out]; rfl, rfl⟩
  have h0' : ¬ (s.size : Int) < 1 := by omega
  by_cases h5 : 5 < s.size
  · have h5' : (5 : Int) < (s.size : Int) := by omega
    have HN := Lib.hid (numL_no (most := most) (.inr (.inl (by rw [HL.out]; exact h5))))
    go_enter Tryd.func38, Tryd.ntmps38
    go_wp2_with fail
    go_ret
    exact ⟨by rw [HN.out]; rfl, rfl⟩
  have h5' : ¬ (5 : Int) < (s.size : Int) := by omega
  have hz : 0 < s.size := by omega
  have e0 : s.data.toList.head? = some s[0] := by
    rw [List.head?_eq_getElem?]
    exact (List.getElem?_eq_getElem (by rw [HL.out]; exact hz)).trans rfl
  by_cases h48 : s[0].toNat = 48 ∧ 1 < s.size
  · have c1 : ((s[0].toNat : Int) == 48) = true := by rw [h48.1]; rfl
    have c2 : (1 : Int) < (s.size : Int) := by omega
    have HN := Lib.hid (numL_no (l := s.data.toList) (most := most) (.inr (.inr (.inl ⟨by rw [e0, show s[0] = 48 from UInt8.toNat_inj.1 h48.1], by rw [HL.out]; exact h48.2⟩))))
    have h48a := h48.1
    clear h48 e0
    go_enter Tryd.func38, Tryd.ntmps38
    go_wp2_with fail
    go_ret
    exact ⟨by rw [HN.out]; rfl, rfl⟩
  have HH := Lib.hid (show ¬ (s.data.toList.head? = some 48 ∧ 1 < s.data.toList.length) by
    rintro ⟨h1, h2⟩
    rw [e0] at h1
    injection h1 with h1
    exact h48 ⟨by rw [h1]; rfl, by rw [← HL.out]; exact h2⟩)
  have h48' : s[0].toNat ≠ 48 ∨ (s[0].toNat = 48 ∧ s.size = 1) := by omega
  clear h48 e0
  go_enter Tryd.func38, Tryd.ntmps38
  rcases h48' with ha | ⟨ha, hb⟩
  · have c1 : ((s[0].toNat : Int) == 48) = false := by rw [beq_eq_false_iff_ne]; omega
    go_wp2_with fail
    go_loop [5, 6] (fun n i => ∃ k : Nat, k ≤ s.size ∧ i = .int .i64 k ∧ n = .int .i64 (decN 0 (s.data.toList.take k)) ∧ Hid ((s.data.toList.take k).all isDg = true)) (fun _ i => s.size - (intOf i).toNat)
    case atStart => exact ⟨0, by omega, rfl, by rw [List.take_zero, decN_nil]; rfl, Lib.hid rfl⟩
    case round =>
      obtain ⟨k, hk, rfl, rfl, H⟩ := hrel
      by_cases hlt : k < s.size
      · have HT := Lib.hid (show s.data.toList.take (k + 1) = s.data.toList.take k ++ [s[k]] by
          rw [List.take_succ_eq_append_getElem (by rw [HL.out]; exact hlt)]; rfl)
        have hc256 : s[k].toNat < 256 := s[k].toNat_lt
        by_cases hd : 48 ≤ s[k].toNat ∧ s[k].toNat ≤ 57
        · have HN := Lib.hid (show (decN 0 (s.data.toList.take (k + 1)) : Nat) = decN 0 (s.data.toList.take k) * 10 + (s[k].toNat - 48) by rw [HT.out, decN_snoc])
          have hb := decN_lt (s.data.toList.take k) 0 0 (by decide) H.out
          have hlen : (s.data.toList.take k).length ≤ 4 := by rw [List.length_take]; omega
          have hb2 : decN 0 (s.data.toList.take k) < 10 ^ 4 := Nat.lt_of_lt_of_le hb (Nat.pow_le_pow_right (by omega) (by omega))
          have HA := Lib.hid (show (s.data.toList.take (k + 1)).all isDg = true by
            rw [HT.out, List.all_append, H.out]
            simp only [List.all_cons, List.all_nil, isDg, decide_eq_true hd, Bool.and_self])
          obtain ⟨d0, d1⟩ := hd
          clear hb hlen H HT
          generalize decN 0 (s.data.toList.take k) = n at *
          go_wp2_with fail
          go_round
          case rel => exact ⟨k + 1, by omega, by go_num, by rw [HN.out]; simp; omega, HA⟩
          case measure => simp [intOf]; omega
        · have HN := Lib.hid (numL_no (l := s.data.toList) (most := most) (.inr (.inr (.inr (.inl (fun h => by
            rw [List.all_eq_true] at h
            have := h s[k] (by
              have e : s[k] = s.data.toList[k]'(by rw [HL.out]; exact hlt) := rfl
              rw [e]
              exact List.getElem_mem _)
            simp only [isDg, decide_eq_true_eq] at this
            exact hd this))))))
          have hd' : s[k].toNat < 48 ∨ (48 ≤ s[k].toNat ∧ 57 < s[k].toNat) := by omega
          clear hd HT H
          rcases hd' with d0 | ⟨d0, d1⟩
          · go_wp2_with fail
            go_ret
            exact ⟨by rw [HN.out]; rfl, rfl⟩
          · go_wp2_with fail
            go_ret
            exact ⟨by rw [HN.out]; rfl, rfl⟩
      · obtain rfl : k = s.size := by omega
        have HT : s.data.toList.take s.size = s.data.toList := List.take_of_length_le (by rw [HL.out]; exact Nat.le_refl _)
        rw [HT] at H ⊢
        by_cases hm : most < decN 0 s.data.toList
        · have HN := Lib.hid (numL_no (l := s.data.toList) (most := most) (.inr (.inr (.inr (.inr hm)))))
          generalize decN 0 s.data.toList = n at *
          have hm' : (most : Int) < (n : Int) := by omega
          go_wp2_with fail
          go_ret
          exact ⟨by rw [HN.out]; rfl, rfl⟩
        · have HN := Lib.hid (numL_yes (l := s.data.toList) (most := most) (by
            rintro (h | h | h | h | h)
            · rw [HL.out] at h; omega
            · rw [HL.out] at h; omega
            · exact HH.out h
            · exact h H.out
            · exact hm h))
          generalize decN 0 s.data.toList = n at *
          have hm' : ¬ (most : Int) < (n : Int) := by omega
          go_wp2_with fail
          go_ret
          exact ⟨by rw [HN.out]; rfl, rfl⟩
  · have c1 : ((s[0].toNat : Int) == 48) = true := by rw [ha]; rfl
    have c2 : ¬ (1 : Int) < (s.size : Int) := by omega
    go_wp2_with fail
    go_loop [5, 6] (fun n i => ∃ k : Nat, k ≤ s.size ∧ i = .int .i64 k ∧ n = .int .i64 (decN 0 (s.data.toList.take k)) ∧ Hid ((s.data.toList.take k).all isDg = true)) (fun _ i => s.size - (intOf i).toNat)
    case atStart => exact ⟨0, by omega, rfl, by rw [List.take_zero, decN_nil]; rfl, Lib.hid rfl⟩
    case round =>
      obtain ⟨k, hk, rfl, rfl, H⟩ := hrel
      by_cases hlt : k < s.size
      · have HT := Lib.hid (show s.data.toList.take (k + 1) = s.data.toList.take k ++ [s[k]] by
          rw [List.take_succ_eq_append_getElem (by rw [HL.out]; exact hlt)]; rfl)
        have hc256 : s[k].toNat < 256 := s[k].toNat_lt
        by_cases hd : 48 ≤ s[k].toNat ∧ s[k].toNat ≤ 57
        · have HN := Lib.hid (show (decN 0 (s.data.toList.take (k + 1)) : Nat) = decN 0 (s.data.toList.take k) * 10 + (s[k].toNat - 48) by rw [HT.out, decN_snoc])
          have hb := decN_lt (s.data.toList.take k) 0 0 (by decide) H.out
          have hlen : (s.data.toList.take k).length ≤ 4 := by rw [List.length_take]; omega
          have hb2 : decN 0 (s.data.toList.take k) < 10 ^ 4 := Nat.lt_of_lt_of_le hb (Nat.pow_le_pow_right (by omega) (by omega))
          have HA := Lib.hid (show (s.data.toList.take (k + 1)).all isDg = true by
            rw [HT.out, List.all_append, H.out]
            simp only [List.all_cons, List.all_nil, isDg, decide_eq_true hd, Bool.and_self])
          obtain ⟨d0, d1⟩ := hd
          clear hb hlen H HT
          generalize decN 0 (s.data.toList.take k) = n at *
          go_wp2_with fail
          go_round
          case rel => exact ⟨k + 1, by omega, by go_num, by rw [HN.out]; simp; omega, HA⟩
          case measure => simp [intOf]; omega
        · have HN := Lib.hid (numL_no (l := s.data.toList) (most := most) (.inr (.inr (.inr (.inl (fun h => by
            rw [List.all_eq_true] at h
            have := h s[k] (by
              have e : s[k] = s.data.toList[k]'(by rw [HL.out]; exact hlt) := rfl
              rw [e]
              exact List.getElem_mem _)
            simp only [isDg, decide_eq_true_eq] at this
            exact hd this))))))
          have hd' : s[k].toNat < 48 ∨ (48 ≤ s[k].toNat ∧ 57 < s[k].toNat) := by omega
          clear hd HT H
          rcases hd' with d0 | ⟨d0, d1⟩
          · go_wp2_with fail
            go_ret
            exact ⟨by rw [HN.out]; rfl, rfl⟩
          · go_wp2_with fail
            go_ret
            exact ⟨by rw [HN.out]; rfl, rfl⟩
      · obtain rfl : k = s.size := by omega
        have HT : s.data.toList.take s.size = s.data.toList := List.take_of_length_le (by rw [HL.out]; exact Nat.le_refl _)
        rw [HT] at H ⊢
        by_cases hm : most < decN 0 s.data.toList
        · have HN := Lib.hid (numL_no (l := s.data.toList) (most := most) (.inr (.inr (.inr (.inr hm)))))
          generalize decN 0 s.data.toList = n at *
          have hm' : (most : Int) < (n : Int) := by omega
          go_wp2_with fail
          go_ret
          exact ⟨by rw [HN.out]; rfl, rfl⟩
        · have HN := Lib.hid (numL_yes (l := s.data.toList) (most := most) (by
            rintro (h | h | h | h | h)
            · rw [HL.out] at h; omega
            · rw [HL.out] at h; omega
            · exact HH.out h
            · exact h H.out
            · exact hm h))
          generalize decN 0 s.data.toList = n at *
          have hm' : ¬ (most : Int) < (n : Int) := by omega
          go_wp2_with fail
          go_ret
          exact ⟨by rw [HN.out]; rfl, rfl⟩
end Go.Proofs.YtgdnckglfhabnaaDoor
