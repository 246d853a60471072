/- Laws and walks that the claim's last text leans on, joined: each part says above itself what it proves. -/
import Derived.Test.YtonafonhadocgaaGreatDoorQI
import Derived.Deep.LoopGhost

/- The reference's number, walked. -/
namespace Go.Proofs.YtonafonhadocgaaGreatDoor
open Go.RowKit Go.Shelf

theorem numL_no {l : List UInt8} {most : Nat} (h : l.length < 1 ∨ 5 < l.length ∨ (l.head? = some 48 ∧ 1 < l.length) ∨ ¬ (l.all isDg = true) ∨ most < decN 0 l) : numV (numL l most) = .int .i64 (-1) := by
  rw [numL, if_pos h]
  rfl
theorem numL_yes {l : List UInt8} {most : Nat} (h : ¬ (l.length < 1 ∨ 5 < l.length ∨ (l.head? = some 48 ∧ 1 < l.length) ∨ ¬ (l.all isDg = true) ∨ most < decN 0 l)) : numV (numL l most) = .int .i64 (decN 0 l : Int) := by
  rw [numL, if_neg h]
  rfl

set_option maxRecDepth 100000 in
set_option maxHeartbeats 4000000 in
theorem number_any (s : ByteArray) (most : Nat) (_hmo : most < 65536) (hs : s.size < 4294967281) (w : World) :
    Calls Tryz.prog 43 #[.string s, .int .i64 most] w fun e w' => e = .returned (numV (numL s.data.toList most)) ∧ w' = w := by
  have HL := Lib.hid (show s.data.toList.length = s.size from rfl)
  by_cases h0 : s.size < 1
  · have h0' : (s.size : Int) < 1 := by omega
    have HN := Lib.hid (numL_no (most := most) (.inl (by rw [HL.out]; exact h0)))
    go_enter Tryz.func43, Tryz.ntmps43
    go_wp2_with fail
    go_ret
    exact ⟨by rw [HN.out]; rfl, rfl⟩
  have h0' : ¬ (s.size : Int) < 1 := by omega
  by_cases h5 : 5 < s.size
  · have h5' : (5 : Int) < (s.size : Int) := by omega
    have HN := Lib.hid (numL_no (most := most) (.inr (.inl (by rw [HL.out]; exact h5))))
    go_enter Tryz.func43, Tryz.ntmps43
    go_wp2_with fail
    go_ret
    exact ⟨by rw [HN.out]; rfl, rfl⟩
  have h5' : ¬ (5 : Int) < (s.size : Int) := by omega
  have hz : 0 < s.size := by omega
  have e0 : s.data.toList.head? = some s[0] := by
    rw [List.head?_eq_getElem?]
    exact (List.getElem?_eq_getElem (by rw [HL.out]; exact hz)).trans rfl
  by_cases h48 : s[0].toNat = 48 ∧ 1 < s.size
  · have c1 : ((s[0].toNat : Int) == 48) = true := by rw [h48.1]; rfl
    have c2 : (1 : Int) < (s.size : Int) := by omega
    have HN := Lib.hid (numL_no (l := s.data.toList) (most := most) (.inr (.inr (.inl ⟨by rw [e0, show s[0] = 48 from UInt8.toNat_inj.1 h48.1], by rw [HL.out]; exact h48.2⟩))))
    have h48a := h48.1
    clear h48 e0
    go_enter Tryz.func43, Tryz.ntmps43
    go_wp2_with fail
    go_ret
    exact ⟨by rw [HN.out]; rfl, rfl⟩
  have HH := Lib.hid (show ¬ (s.data.toList.head? = some 48 ∧ 1 < s.data.toList.length) by
    rintro ⟨h1, h2⟩
    rw [e0] at h1
    injection h1 with h1
    exact h48 ⟨by rw [h1]; rfl, by rw [← HL.out]; exact h2⟩)
  have h48' : s[0].toNat ≠ 48 ∨ (s[0].toNat = 48 ∧ s.size = 1) := by omega
  clear h48 e0
  go_enter Tryz.func43, Tryz.ntmps43
  rcases h48' with ha | ⟨ha, hb⟩
  · have c1 : ((s[0].toNat : Int) == 48) = false := by rw [beq_eq_false_iff_ne]; omega
    go_wp2_with fail
    go_loop [5, 6] (fun n i => ∃ k : Nat, k ≤ s.size ∧ i = .int .i64 k ∧ n = .int .i64 (decN 0 (s.data.toList.take k)) ∧ Hid ((s.data.toList.take k).all isDg = true)) (fun _ i => s.size - (intOf i).toNat)
    case atStart => exact ⟨0, by omega, rfl, by rw [List.take_zero, decN_nil]; rfl, Lib.hid rfl⟩
    case round =>
      obtain ⟨k, hk, rfl, rfl, H⟩ := hrel
      by_cases hlt : k < s.size
      · have HT := Lib.hid (show s.data.toList.take (k + 1) = s.data.toList.take k ++ [s[k]] by
          rw [List.take_succ_eq_append_getElem (by rw [HL.out]; exact hlt)]; rfl)
        have hc256 : s[k].toNat < 256 := s[k].toNat_lt
        by_cases hd : 48 ≤ s[k].toNat ∧ s[k].toNat ≤ 57
        · have HN := Lib.hid (show (decN 0 (s.data.toList.take (k + 1)) : Nat) = decN 0 (s.data.toList.take k) * 10 + (s[k].toNat - 48) by rw [HT.out, decN_snoc])
          have hb := decN_lt (s.data.toList.take k) 0 0 (by decide) H.out
          have hlen : (s.data.toList.take k).length ≤ 4 := by rw [List.length_take]; omega
          have hb2 : decN 0 (s.data.toList.take k) < 10 ^ 4 := Nat.lt_of_lt_of_le hb (Nat.pow_le_pow_right (by omega) (by omega))
          have HA := Lib.hid (show (s.data.toList.take (k + 1)).all isDg = true by
            rw [HT.out, List.all_append, H.out]
            simp only [List.all_cons, List.all_nil, isDg, decide_eq_true hd, Bool.and_self])
          obtain ⟨d0, d1⟩ := hd
          clear hb hlen H HT
          generalize decN 0 (s.data.toList.take k) = n at *
          go_wp2_with fail
          go_round
          case rel => exact ⟨k + 1, by omega, by go_num, by rw [HN.out]; simp; omega, HA⟩
          case measure => simp [intOf]; omega
        · have HN := Lib.hid (numL_no (l := s.data.toList) (most := most) (.inr (.inr (.inr (.inl (fun h => by
            rw [List.all_eq_true] at h
            have := h s[k] (by
              have e : s[k] = s.data.toList[k]'(by rw [HL.out]; exact hlt) := rfl
              rw [e]
              exact List.getElem_mem _)
            simp only [isDg, decide_eq_true_eq] at this
            exact hd this))))))
          have hd' : s[k].toNat < 48 ∨ (48 ≤ s[k].toNat ∧ 57 < s[k].toNat) := by omega
          clear hd HT H
          rcases hd' with d0 | ⟨d0, d1⟩
          · go_wp2_with fail
            go_ret
            exact ⟨by rw [HN.out]; rfl, rfl⟩
          · go_wp2_with fail
            go_ret
            exact ⟨by rw [HN.out]; rfl, rfl⟩
      · obtain rfl : k = s.size := by omega
        have HT : s.data.toList.take s.size = s.data.toList := List.take_of_length_le (by rw [HL.out]; exact Nat.le_refl _)
        rw [HT] at H ⊢
        by_cases hm : most < decN 0 s.data.toList
        · have HN := Lib.hid (numL_no (l := s.data.toList) (most := most) (.inr (.inr (.inr (.inr hm)))))
          generalize decN 0 s.data.toList = n at *
          have hm' : (most : Int) < (n : Int) := by omega
          go_wp2_with fail
          go_ret
          exact ⟨by rw [HN.out]; rfl, rfl⟩
        · have HN := Lib.hid (numL_yes (l := s.data.toList) (most := most) (by
            rintro (h | h | h | h | h)
            · rw [HL.out] at h; omega
            · rw [HL.out] at h; omega
            · exact HH.out h
            · exact h H.out
            · exact hm h))
          generalize decN 0 s.data.toList = n at *
          have hm' : ¬ (most : Int) < (n : Int) := by omega
          go_wp2_with fail
          go_ret
          exact ⟨by rw [HN.out]; rfl, rfl⟩
  · have c1 : ((s[0].toNat : Int) == 48) = true := by rw [ha]; rfl
    have c2 : ¬ (1 : Int) < (s.size : Int) := by omega
    go_wp2_with fail
    go_loop [5, 6] (fun n i => ∃ k : Nat, k ≤ s.size ∧ i = .int .i64 k ∧ n = .int .i64 (decN 0 (s.data.toList.take k)) ∧ Hid ((s.data.toList.take k).all isDg = true)) (fun _ i => s.size - (intOf i).toNat)
    case atStart => exact ⟨0, by omega, rfl, by rw [List.take_zero, decN_nil]; rfl, Lib.hid rfl⟩
    case round =>
      obtain ⟨k, hk, rfl, rfl, H⟩ := hrel
      by_cases hlt : k < s.size
      · have HT := Lib.hid (show s.data.toList.take (k + 1) = s.data.toList.take k ++ [s[k]] by
          rw [List.take_succ_eq_append_getElem (by rw [HL.out]; exact hlt)]; rfl)
        have hc256 : s[k].toNat < 256 := s[k].toNat_lt
        by_cases hd : 48 ≤ s[k].toNat ∧ s[k].toNat ≤ 57
        · have HN := Lib.hid (show (decN 0 (s.data.toList.take (k + 1)) : Nat) = decN 0 (s.data.toList.take k) * 10 + (s[k].toNat - 48) by rw [HT.out, decN_snoc])
          have hb := decN_lt (s.data.toList.take k) 0 0 (by decide) H.out
          have hlen : (s.data.toList.take k).length ≤ 4 := by rw [List.length_take]; omega
          have hb2 : decN 0 (s.data.toList.take k) < 10 ^ 4 := Nat.lt_of_lt_of_le hb (Nat.pow_le_pow_right (by omega) (by omega))
          have HA := Lib.hid (show (s.data.toList.take (k + 1)).all isDg = true by
            rw [HT.out, List.all_append, H.out]
            simp only [List.all_cons, List.all_nil, isDg, decide_eq_true hd, Bool.and_self])
          obtain ⟨d0, d1⟩ := hd
          clear hb hlen H HT
          generalize decN 0 (s.data.toList.take k) = n at *
          go_wp2_with fail
          go_round
          case rel => exact ⟨k + 1, by omega, by go_num, by rw [HN.out]; simp; omega, HA⟩
          case measure => simp [intOf]; omega
        · have HN := Lib.hid (numL_no (l := s.data.toList) (most := most) (.inr (.inr (.inr (.inl (fun h => by
            rw [List.all_eq_true] at h
            have := h s[k] (by
              have e : s[k] = s.data.toList[k]'(by rw [HL.out]; exact hlt) := rfl
              rw [e]
              exact List.getElem_mem _)
            simp only [isDg, decide_eq_true_eq] at this
            exact hd this))))))
          have hd' : s[k].toNat < 48 ∨ (48 ≤ s[k].toNat ∧ 57 < s[k].toNat) := by omega
          clear hd HT H
          rcases hd' with d0 | ⟨d0, d1⟩
          · go_wp2_with fail
            go_ret
            exact ⟨by rw [HN.out]; rfl, rfl⟩
          · go_wp2_with fail
            go_ret
            exact ⟨by rw [HN.out]; rfl, rfl⟩
      · obtain rfl : k = s.size := by omega
        have HT : s.data.toList.take s.size = s.data.toList := List.take_of_length_le (by rw [HL.out]; exact Nat.le_refl _)
        rw [HT] at H ⊢
        by_cases hm : most < decN 0 s.data.toList
        · have HN := Lib.hid (numL_no (l := s.data.toList) (most := most) (.inr (.inr (.inr (.inr hm)))))
          generalize decN 0 s.data.toList = n at *
          have hm' : (most : Int) < (n : Int) := by omega
          go_wp2_with fail
          go_ret
          exact ⟨by rw [HN.out]; rfl, rfl⟩
        · have HN := Lib.hid (numL_yes (l := s.data.toList) (most := most) (by
            rintro (h | h | h | h | h)
            · rw [HL.out] at h; omega
            · rw [HL.out] at h; omega
            · exact HH.out h
            · exact h H.out
            · exact hm h))
          generalize decN 0 s.data.toList = n at *
          have hm' : ¬ (most : Int) < (n : Int) := by omega
          go_wp2_with fail
          go_ret
          exact ⟨by rw [HN.out]; rfl, rfl⟩
end Go.Proofs.YtonafonhadocgaaGreatDoor

/- The reference's Split, walked. -/
namespace Go.Proofs.YtonafonhadocgaaGreatDoor
open Go.RowKit Go.Shelf

theorem extract_mkB (s : ByteArray) (f k : Nat) : s.extract f k = mkB ((s.data.toList.drop f).take (k - f)) := by
  apply ByteArray.ext
  apply Array.toList_inj.1
  rw [Lib.extract_data]
  rfl
theorem strs_one (l : List ByteArray) : ∀ u ∈ l.map Value.string, u.oneCell' = true := by
  intro u hu
  obtain ⟨_, _, rfl⟩ := List.mem_map.1 hu
  rfl
/-- What is left to be split, from f on; k: up to where none was found. -/
def SpI (b : UInt8) (s : ByteArray) (f k : Nat) (done : List ByteArray) : Prop :=
  f ≤ k ∧ done.length ≤ f ∧ partsB b s = done ++ (spl b (s.data.toList.drop f)).map mkB ∧ b ∉ (s.data.toList.drop f).take (k - f)
theorem SpI.next {b : UInt8} {s : ByteArray} {f k : Nat} {done : List ByteArray} (h : SpI b s f k done) (hk : k < s.size) (hc : s[k] ≠ b) : SpI b s f (k + 1) done := by
  obtain ⟨h1, h2, h3, h4⟩ := h
  refine ⟨by omega, h2, h3, ?_⟩
  have hl : s.data.toList.length = s.size := rfl
  have e : (s.data.toList.drop f).take (k + 1 - f) = (s.data.toList.drop f).take (k - f) ++ [s[k]] := by
    rw [show k + 1 - f = (k - f) + 1 by omega, List.take_succ_eq_append_getElem (by rw [List.length_drop, hl]; omega), List.getElem_drop]
    congr 2
    have : s[k] = s.data.toList[k]'(by rw [hl]; exact hk) := rfl
    rw [this]
    congr 1
    omega
  rw [e, List.mem_append, List.mem_singleton]
  rintro (h | h)
  · exact h4 h
  · exact hc h.symm
theorem SpI.cut {b : UInt8} {s : ByteArray} {f k : Nat} {done : List ByteArray} (h : SpI b s f k done) (hk : k < s.size) (hc : s[k] = b) : SpI b s (k + 1) (k + 1) (done ++ [s.extract f k]) := by
  obtain ⟨h1, h2, h3, h4⟩ := h
  have hl : s.data.toList.length = s.size := rfl
  refine ⟨Nat.le_refl _, by simp; omega, ?_, by simp⟩
  have e : s.data.toList.drop f = (s.data.toList.drop f).take (k - f) ++ b :: s.data.toList.drop (k + 1) := by
    have e1 : s.data.toList.drop k = b :: s.data.toList.drop (k + 1) := by
      rw [List.drop_eq_getElem_cons (by rw [hl]; exact hk)]
      congr 1
    rw [← e1]
    have e2 := (List.take_append_drop (k - f) (s.data.toList.drop f)).symm
    rw [List.drop_drop, show f + (k - f) = k by omega] at e2
    exact e2
  rw [e, spl_at b _ _ h4] at h3
  rw [h3, extract_mkB]
  simp
theorem SpI.end_ {b : UInt8} {s : ByteArray} {f : Nat} {done : List ByteArray} (h : SpI b s f s.size done) : partsB b s = done ++ [s.extract f s.size] := by
  obtain ⟨h1, h2, h3, h4⟩ := h
  have hl : s.data.toList.length = s.size := rfl
  have e : (s.data.toList.drop f).take (s.size - f) = s.data.toList.drop f := List.take_of_length_le (by rw [List.length_drop, hl]; omega)
  rw [e] at h4
  rw [h3, spl_no b _ h4, extract_mkB, e]
  rfl

set_option maxRecDepth 100000 in
set_option maxHeartbeats 8000000 in
theorem rsplit_any (b : UInt8) (s : ByteArray) (hs : s.size < 4294967281) (w : World) :
    Calls Tryz.prog 62 #[.string s, .int .u8 (b.toNat : Int)] w fun e w' => ∃ v, e = .returned v ∧ OwnV 9 w' w.heap.size v ((partsB b s).map Value.string) ∧ Below w.heap.size w w' := by
  obtain ⟨i0, hi0, hz0, hz1, hz2⟩ := info_parts info_str
  have Hi0 := Lib.hid hi0
  have Hz0 := Lib.hid hz0
  have Hz1 := Lib.hid hz1
  have Hz2 := Lib.hid hz2
  clear hi0 hz0 hz1 hz2
  go_enter Tryz.func62, Tryz.ntmps62
  go_wp2_with fail
  obtain ⟨wr0, hw0⟩ : ∃ wr0, wr0 = w := ⟨_, rfl⟩
  go_loopw [5, 6, 7] (fun v f i wr => ∃ (k fr : Nat) (done : List ByteArray), k ≤ s.size + 1 ∧ i = .int .i64 k ∧ f = .int .i64 fr ∧ Hid (done.length ≤ k) ∧ Hid ((k ≤ s.size ∧ SpI b s fr k done) ∨ (k = s.size + 1 ∧ partsB b s = done)) ∧ Hid (Below w.heap.size w wr ∧ OwnV 9 wr w.heap.size v (done.map Value.string))) (fun _ _ i _ => s.size + 1 - (intOf i).toNat)
  case atStart => exact ⟨0, 0, [], by omega, rfl, rfl, Lib.hid (by simp), Lib.hid (.inl ⟨by omega, by omega, by simp, by simp [partsB], by simp⟩), Lib.hid ⟨Below.refl _ _, OwnV.nil _ _⟩⟩
  case round =>
    obtain ⟨k, fr, done, hk, rfl, rfl, HD, HS, I⟩ := hrel
    by_cases hle : k ≤ s.size
    · have hsp : SpI b s fr k done := by
        rcases HS.out with h | h
        · exact h.2
        · omega
      have hfr : fr ≤ k := hsp.1
      have hle' : (k : Int) ≤ (s.size : Int) := by omega
      have hdl := HD.out
      by_cases hlt : k < s.size
      · have c1 : ((k : Int) == (s.size : Int)) = false := by rw [beq_eq_false_iff_ne]; omega
        by_cases hc : s[k] = b
        · have c2 : ((s[k].toNat : Int) == (b.toNat : Int)) = true := by rw [hc]; exact beq_self_eq_true _
          have HN := Lib.hid (hsp.cut hlt hc)
          clear hsp HS hc
          go_wp2_with (at_builtin; refine wpList_append_lit wr (by rfl) (.tmp 25) (.tmp 30) 117 9 (by rfl) w.heap.size i0 _ 16 Tryz.underlying117 Hi0.out Hz0.out Hz1.out Hz2.out rfl _ (done.map Value.string) (by rfl) I.out.2 [Value.string (s.extract fr k)] 1 rfl (by rfl) (strs_one [s.extract fr k]) _ (by rfl) (by rw [List.length_map]; omega) (by omega) I.out.1.size ?_; intro v' w5 ho hb5 hg5; have I5 := Lib.hid (And.intro (I.out.1.trans (((Below.refl _ wr).alloc I.out.1.size _).trans hb5)) ho); clear ho hb5 hg5)
          go_roundw
          case rel => exact ⟨k + 1, k + 1, done ++ [s.extract fr k], by omega, by go_num, by go_num, Lib.hid (by simp; omega), Lib.hid (.inl ⟨by omega, HN.out⟩), Lib.hid ⟨I5.out.1, by rw [List.map_append]; exact I5.out.2⟩⟩
          case measure => simp [intOf]; omega
        · have c2 : ((s[k].toNat : Int) == (b.toNat : Int)) = false := by
            rw [beq_eq_false_iff_ne]
            intro e
            exact hc (UInt8.toNat_inj.1 (by omega))
          have HN := Lib.hid (hsp.next hlt hc)
          clear hsp HS hc
          go_wp2_with fail
          go_roundw
          case rel => exact ⟨k + 1, fr, done, by omega, by go_num, rfl, Lib.hid (by omega), Lib.hid (.inl ⟨by omega, HN.out⟩), I⟩
          case measure => simp [intOf]; omega
      · obtain rfl : k = s.size := by omega
        have HN := Lib.hid (hsp.end_)
        clear hsp HS
        go_wp2_with (at_builtin; refine wpList_append_lit wr (by rfl) (.tmp 25) (.tmp 30) 117 9 (by rfl) w.heap.size i0 _ 16 Tryz.underlying117 Hi0.out Hz0.out Hz1.out Hz2.out rfl _ (done.map Value.string) (by rfl) I.out.2 [Value.string (s.extract fr s.size)] 1 rfl (by rfl) (strs_one [s.extract fr s.size]) _ (by rfl) (by rw [List.length_map]; omega) (by omega) I.out.1.size ?_; intro v' w5 ho hb5 hg5; have I5 := Lib.hid (And.intro (I.out.1.trans (((Below.refl _ wr).alloc I.out.1.size _).trans hb5)) ho); clear ho hb5 hg5)
        go_roundw
        case rel => exact ⟨s.size + 1, s.size + 1, done ++ [s.extract fr s.size], by omega, by go_num, by go_num, Lib.hid (by simp; omega), Lib.hid (.inr ⟨rfl, HN.out⟩), Lib.hid ⟨I5.out.1, by rw [List.map_append]; exact I5.out.2⟩⟩
        case measure => simp [intOf]
    · obtain rfl : k = s.size + 1 := by omega
      have HP := Lib.hid (show partsB b s = done by
        rcases HS.out with h | h
        · omega
        · exact h.2)
      clear HS
      go_wp2_with fail
      go_ret
      exact ⟨_, rfl, by rw [HP.out]; exact I.out.2, I.out.1⟩

/-! ### four -/
theorem byteOf_num (x : ByteArray) : byteOf x = match numL x.data.toList 255 with | some n => some (UInt8.ofNat n) | none => none := by
  rw [num_unum _ 255 (by omega), mkB_of, byteOf]
  cases unum x with
  | none => rfl
  | some n =>
    by_cases h : n ≤ 255
    · simp [h]
    · simp [h]
theorem f4L_all {ps : List ByteArray} {done : List UInt8} (h4 : ps.length = 4) (h : ps.map byteOf = done.map some) : f4L ps = some done := by
  obtain ⟨x0, x1, x2, x3, rfl⟩ := len4 h4
  match done, h with
  | [b0, b1, b2, b3], h =>
    simp only [List.map_cons, List.map_nil, List.cons.injEq] at h
    simp only [f4L, h.1, h.2.1, h.2.2.1, h.2.2.2.1]
  | [], h => simp at h
  | [_], h => simp at h
  | [_, _], h => simp at h
  | [_, _, _], h => simp at h
  | _ :: _ :: _ :: _ :: _ :: _, h => simp at h
theorem f4L_bad {ps : List ByteArray} {k : Nat} (h4 : ps.length = 4) (hk : k < ps.length) (h : byteOf ps[k] = none) : f4L ps = none := by
  obtain ⟨x0, x1, x2, x3, rfl⟩ := len4 h4
  match k, hk, h with
  | 0, _, h => simp only [List.getElem_cons_zero] at h; simp only [f4L, h]
  | 1, _, h => simp only [List.getElem_cons_succ, List.getElem_cons_zero] at h; simp only [f4L, h]; cases byteOf x0 <;> rfl
  | 2, _, h => simp only [List.getElem_cons_succ, List.getElem_cons_zero] at h; simp only [f4L, h]; cases byteOf x0 <;> cases byteOf x1 <;> rfl
  | 3, _, h => simp only [List.getElem_cons_succ, List.getElem_cons_zero] at h; simp only [f4L, h]; cases byteOf x0 <;> cases byteOf x1 <;> cases byteOf x2 <;> rfl
  | k + 4, hk, _ => simp at hk; omega

theorem info_u8p : (Tryz.prog.info? 5).map (fun i => (i.zero, i.size, i.bytes)) = some (some (.int .u8 0), 1, 1) := by kernel_rfl
/-- What the reference's four returns. -/
def RFour (s : ByteArray) (base : Nat) (e : Ending) (w' : World) : Prop := ∃ v, e = .returned v ∧ OwnV 5 w' base v (bv ((f4 s).getD [])) ∧ (f4 s = none → v = .slice none 0 0)

set_option maxRecDepth 100000 in
set_option maxHeartbeats 8000000 in
theorem rfour_any (s : ByteArray) (hs : s.size < 4294967281) (w : World) :
    Calls Tryz.prog 61 #[.string s] w fun e w' => RFour s w.heap.size e w' ∧ Below w.heap.size w w' := by
  obtain ⟨i0, hi0, hz0, hz1, hz2⟩ := info_parts info_u8p
  have Hi0 := Lib.hid hi0
  have Hz0 := Lib.hid hz0
  have Hz1 := Lib.hid hz1
  have Hz2 := Lib.hid hz2
  clear hi0 hz0 hz1 hz2
  have HSp := Lib.hid (fun W => rsplit_any 46 s hs W)
  have HF := Lib.hid (show f4 s = f4L (partsB 46 s) from rfl)
  have HPs := Lib.hid (show ∀ x ∈ partsB 46 s, x.size < 4294967281 from fun x hx => by
    have := parts_size 46 s x hx
    omega)
  have hpl := parts_len 46 s
  have hpc := parts_count 46 s
  go_enter Tryz.func61, Tryz.ntmps61
  go_wp2_with fail
  refine (HSp.out _).mono ?_
  rintro e w2 ⟨v, rfl, ho, b⟩
  obtain ⟨g, c, rfl, hgb⟩ := own_at ho (n := (partsB 46 s).length) (by simp) (by omega)
  have HC := Lib.hid (fun (k : Nat) (hk : k < (partsB 46 s).length) => ho.cellAt k hk)
  have hcc : (partsB 46 s).length ≤ c ∧ c ≤ 9223372036854775807 := ⟨ho.rdv.2.1, ho.rdv.2.2.1⟩
  have B2 := Lib.hid b
  clear b ho HSp
  have hp1 : 1 ≤ (partsB 46 s).length := by omega
  generalize partsB 46 s = ps at *
  clear hpc
  by_cases h4 : ps.length = 4
  · have HN4 := Lib.hid h4
    rw [h4]
    clear h4 hpl hcc hp1
    go_wp2_with fail
    go_loopw [4, 5] (fun v i wr => ∃ (k : Nat) (done : List UInt8), k ≤ 4 ∧ i = .int .i64 k ∧ Hid ((ps.take k).map byteOf = done.map some) ∧ Hid (Below w2.heap.size w2 wr ∧ OwnV 5 wr w2.heap.size v (bv done))) (fun _ i _ => 4 - (intOf i).toNat)
    case atStart => exact ⟨0, [], by omega, rfl, Lib.hid rfl, Lib.hid ⟨Below.refl _ _, OwnV.nil _ _⟩⟩
    case round =>
      obtain ⟨k, done, hk, rfl, H, I⟩ := hrel
      have hdl : done.length = k := by
        have := congrArg List.length H.out
        have h4 := HN4.out
        rw [List.length_map, List.length_map, List.length_take] at this
        omega
      by_cases hlt : k < 4
      · have hltp : k < ps.length := by have h4 := HN4.out; omega
        have q : wr.cell? ⟨g, k, none⟩ = some (.string ps[k]) := by
          have e := HC.out k hltp
          rw [List.getElem?_map, List.getElem?_eq_getElem hltp] at e
          exact cell_later I.out.1 e
        have HNu := Lib.hid (fun W => number_any ps[k] 255 (by omega) (HPs.out _ (List.getElem_mem _)) W)
        have HBy := Lib.hid (byteOf_num ps[k])
        have HNext := Lib.hid (fun (c : UInt8) (h : byteOf ps[k] = some c) => show (ps.take (k + 1)).map byteOf = (done ++ [c]).map some by
          rw [List.take_add_one, List.getElem?_eq_getElem hltp, List.map_append, H.out]
          simp [h])
        have HBad := Lib.hid (fun (h : byteOf ps[k] = none) => f4L_bad HN4.out hltp h)
        generalize ps[k] = x at *
        go_wp2_with fail
        refine (HNu.out _).mono ?_
        rintro e w3 ⟨rfl, hw3⟩
        obtain rfl := hw3.symm
        clear HNu
        cases hn : numL x.data.toList 255 with
        | none =>
          have hby : byteOf x = none := by rw [HBy.out, hn]
          have HR := Lib.hid (show f4 s = none by rw [HF.out]; exact HBad.out hby)
          rw [show numV none = .int .i64 (-1) from rfl]
          clear hn hby HBy HNext HBad
          go_wp2_with fail
          go_ret
          exact ⟨⟨_, rfl, by rw [HR.out]; exact OwnV.nil _ _, fun _ => rfl⟩, B2.out.trans (I.out.1.mono B2.out.size)⟩
        | some n =>
          have hnl : n ≤ 255 := by
            have h1 := hn
            rw [num_unum _ 255 (by omega)] at h1
            split at h1
            · split at h1
              · injection h1 with h1; omega
              · cases h1
            · cases h1
          have hby : byteOf x = some (UInt8.ofNat n) := by rw [HBy.out, hn]
          have HN := Lib.hid (HNext.out _ hby)
          rw [show numV (some n) = .int .i64 (n : Int) from rfl]
          clear hn hby HBy HNext HBad
          have hw : IntKind.u8.wrap (n : Int) = ((UInt8.ofNat n).toNat : Int) := by
            rw [UInt8.toNat_ofNat']
            simp [IntKind.wrap, IntKind.bits, IntKind.signed]
          generalize UInt8.ofNat n = cb at *
          go_wp2_with (at_builtin; refine wpList_append_lit wr (by rfl) (.tmp 27) (.tmp 30) 63 5 (by rfl) w2.heap.size i0 _ 1 Tryz.underlying63 Hi0.out Hz0.out Hz1.out Hz2.out rfl _ (bv done) (by rfl) I.out.2 (bv [cb]) 1 rfl (by rfl) (bv_one _) _ (by rfl) (by rw [bv_length]; omega) (by omega) I.out.1.size ?_; intro v' w5 ho hb5 hg5; have I5 := Lib.hid (And.intro (I.out.1.trans (((Below.refl _ wr).alloc I.out.1.size _).trans hb5)) ho); clear ho hb5 hg5)
          go_roundw
          case rel => exact ⟨k + 1, done ++ [cb], by omega, by go_num, HN, Lib.hid ⟨I5.out.1, by rw [bv_append]; exact I5.out.2⟩⟩
          case measure => simp [intOf]; omega
      · obtain rfl : k = 4 := by omega
        have HR := Lib.hid (show f4 s = some done by
          rw [HF.out]
          have := H.out
          rw [List.take_of_length_le (by rw [HN4.out]; exact Nat.le_refl _)] at this
          exact f4L_all HN4.out this)
        go_wp2_with fail
        go_ret
        exact ⟨⟨_, rfl, by rw [HR.out]; exact I.out.2.mono B2.out.size, fun h => by rw [HR.out] at h; cases h⟩, B2.out.trans (I.out.1.mono B2.out.size)⟩

  · have HN4 := Lib.hid h4
    clear h4
    obtain ⟨N, hN⟩ : ∃ N, N = ps.length := ⟨_, rfl⟩
    rw [← hN] at hp1 hpl hcc ⊢
    have HNN := Lib.hid hN
    rw [← hN] at HN4
    have HN4' := Lib.hid (show ps.length ≠ 4 by rw [← hN]; exact HN4.out)
    clear hN
    have HR := Lib.hid (show f4 s = none by rw [HF.out]; exact f4L_no HN4'.out)
    have c4 : ((N : Int) == 4) = false := by rw [beq_eq_false_iff_ne]; have h4 := HN4.out; omega
    have c5 : ((N : Int) != 4) = true := by rw [bne, c4]; rfl
    have c6 : decide ((N : Int) = 4) = false := by rw [decide_eq_false_iff_not]; have h4 := HN4.out; omega
    have c7 : ¬ N = 4 := HN4.out
    go_wp2_with fail
    go_loopw [4, 5] (fun v i wr => i = .int .i64 0 ∧ wr = w2) (fun _ i _ => N - (intOf i).toNat)
    case atStart => exact ⟨rfl, rfl⟩
    case round =>
      obtain ⟨rfl, rfl⟩ := hrel
      have hltp : 0 < ps.length := by have := HNN.out; omega
      have q : wr.cell? ⟨g, 0, none⟩ = some (.string ps[0]) := by
        have e := HC.out 0 hltp
        rw [List.getElem?_map, List.getElem?_eq_getElem hltp] at e
        exact e
      have hN0 : (0 : Int) < (N : Int) := by omega
      have HNu := Lib.hid (fun W => number_any ps[0] 255 (by omega) (HPs.out _ (List.getElem_mem _)) W)
      generalize ps[0] = x at *
      go_wp2_with fail
      refine (HNu.out _).mono ?_
      rintro e w3 ⟨rfl, hw3⟩
      obtain rfl := hw3.symm
      clear HNu
      cases hn : numL x.data.toList 255 with
      | none =>
        rw [show numV none = .int .i64 (-1) from rfl]
        clear hn
        go_wp2_with fail
        go_ret
        exact ⟨⟨_, rfl, by rw [HR.out]; exact OwnV.nil _ _, fun _ => rfl⟩, B2.out⟩
      | some n =>
        rw [show numV (some n) = .int .i64 (n : Int) from rfl]
        clear hn
        go_wp2_with fail
        go_ret
        exact ⟨⟨_, rfl, by rw [HR.out]; exact OwnV.nil _ _, fun _ => rfl⟩, B2.out⟩

end Go.Proofs.YtonafonhadocgaaGreatDoor

/- The reference's hex, walked. -/
namespace Go.Proofs.YtonafonhadocgaaGreatDoor
open Go.RowKit Go.Shelf

/-- What a row of hexadecimal digits spells, behind what the digits before spell. -/
def hexN : Nat → List UInt8 → Nat
  | acc, [] => acc
  | acc, c :: r => hexN (acc * 16 + hxn c) r
theorem hexN_nil (acc : Nat) : hexN acc [] = acc := by unfold hexN; rfl
theorem hexN_cons (acc : Nat) (c : UInt8) (r : List UInt8) : hexN acc (c :: r) = hexN (acc * 16 + hxn c) r := by conv => lhs; unfold hexN
theorem hexN_snoc (c : UInt8) : ∀ (l : List UInt8) (acc : Nat), hexN acc (l ++ [c]) = hexN acc l * 16 + hxn c
  | [], _ => by rw [List.nil_append, hexN_cons, hexN_nil, hexN_nil]
  | a :: r, acc => by rw [List.cons_append, hexN_cons, hexN_snoc c r, hexN_cons]
theorem phex_hexN : ∀ (l : List UInt8) (j acc : Nat), acc < 16 ^ j → j + l.length ≤ 4 → l.all isHx = true → phex acc l = some (hexN acc l) ∧ hexN acc l < 65536
  | [], j, acc, h1, h2, _ => by
    have : 16 ^ j ≤ 16 ^ 4 := Nat.pow_le_pow_right (by omega) (by simpa using h2)
    rw [hexN_nil]
    exact ⟨rfl, by omega⟩
  | c :: r, j, acc, h1, h2, ha => by
    rw [List.all_cons, Bool.and_eq_true] at ha
    have hc := hxn_lt ha.1
    rw [List.length_cons] at h2
    have hp : 16 ^ (j + 1) ≤ 16 ^ 4 := Nat.pow_le_pow_right (by omega) (by omega)
    rw [Nat.pow_succ] at hp
    have ih := phex_hexN r (j + 1) (acc * 16 + hxn c) (by rw [Nat.pow_succ]; omega) (by omega) ha.2
    rw [hexN_cons, phex, if_neg (by omega)]
    exact ih

theorem hx_num {c : UInt8} (h1 : 48 ≤ c.toNat) (h2 : c.toNat ≤ 57) : isHx c = true ∧ hxn c = c.toNat - 48 := by
  constructor
  · simp [isHx, h1, h2]
  · rw [hxn, if_pos h2]
theorem hx_low {c : UInt8} (h1 : 97 ≤ c.toNat) (h2 : c.toNat ≤ 102) : isHx c = true ∧ hxn c = c.toNat - 87 := by
  constructor
  · simp [isHx, h1, h2]
  · rw [hxn, if_neg (by omega), if_pos h1]
theorem hx_up {c : UInt8} (h1 : 65 ≤ c.toNat) (h2 : c.toNat ≤ 70) : isHx c = true ∧ hxn c = c.toNat - 55 := by
  constructor
  · simp [isHx, h1, h2]
  · rw [hxn, if_neg (by omega), if_neg (by omega)]
theorem hx_none {c : UInt8} (h : ¬ (48 ≤ c.toNat ∧ c.toNat ≤ 57)) (h2 : ¬ (97 ≤ c.toNat ∧ c.toNat ≤ 102)) (h3 : ¬ (65 ≤ c.toNat ∧ c.toNat ≤ 70)) : isHx c = false := by
  simp only [isHx, Bool.or_eq_false_iff, decide_eq_false_iff_not]
  exact ⟨⟨h, h2⟩, h3⟩
def hexV (s : ByteArray) : Value := .int .i64 (if grpB s then (grpN s : Int) else -1)

set_option maxRecDepth 100000 in
set_option maxHeartbeats 8000000 in
theorem hex_any (s : ByteArray) (hs : s.size < 4294967281) (w : World) :
    Calls Tryz.prog 63 #[.string s] w fun e w' => e = .returned (hexV s) ∧ w' = w := by
  have HL := Lib.hid (show s.data.toList.length = s.size from rfl)
  go_enter Tryz.func63, Tryz.ntmps63
  go_wp2_with fail
  go_loop [3, 4] (fun n i => ∃ (k : Nat) (z : Int), k ≤ s.size ∧ i = .int .i64 k ∧ n = .int .i64 z ∧ Hid (k ≤ 4 → z = (hexN 0 (s.data.toList.take k) : Int)) ∧ Hid ((s.data.toList.take k).all isHx = true)) (fun _ i => s.size - (intOf i).toNat)
  case atStart => exact ⟨0, 0, by omega, rfl, rfl, Lib.hid (fun _ => by rw [List.take_zero, hexN_nil]; rfl), Lib.hid rfl⟩
  case round =>
    obtain ⟨k, z, hk, rfl, rfl, HZ, H⟩ := hrel
    by_cases hlt : k < s.size
    · have HT := Lib.hid (show s.data.toList.take (k + 1) = s.data.toList.take k ++ [s[k]] by
        rw [List.take_succ_eq_append_getElem (by rw [HL.out]; exact hlt)]; rfl)
      have HM := Lib.hid (show s[k] ∈ s.data.toList from by
        have : s[k] = s.data.toList[k]'(by rw [HL.out]; exact hlt) := rfl
        rw [this]
        exact List.getElem_mem _)
      have hc256 : s[k].toNat < 256 := s[k].toNat_lt
      have hcw : IntKind.i64.wrap (s[k].toNat : Int) = (s[k].toNat : Int) := by rw [IntKind.wrap_i64]; omega
      have hcl : (s[k].toNat < 48) ∨ (48 ≤ s[k].toNat ∧ s[k].toNat ≤ 57) ∨ (58 ≤ s[k].toNat ∧ s[k].toNat < 65) ∨ (65 ≤ s[k].toNat ∧ s[k].toNat ≤ 70) ∨ (71 ≤ s[k].toNat ∧ s[k].toNat < 97) ∨ (97 ≤ s[k].toNat ∧ s[k].toNat ≤ 102) ∨ (102 < s[k].toNat) := by omega
      rcases hcl with d0 | d1 | d2 | d3 | d4 | d5 | d6
      · have HF := Lib.hid (show hexV s = .int .i64 (-1) by
          rw [hexV, grp_bad HM.out (hx_none (by omega) (by omega) (by omega))]; rfl)
        have f0 : (s[k].toNat : Int) < 48 := by omega
        have f1 : ¬ (48 : Int) ≤ (s[k].toNat : Int) := by omega
        have f2 : ¬ (97 : Int) ≤ (s[k].toNat : Int) := by omega
        have f3 : ¬ (65 : Int) ≤ (s[k].toNat : Int) := by omega
        clear d0 HM HT H HZ
        go_wp2_with fail
        go_ret
        exact ⟨by rw [HF.out]; rfl, rfl⟩
      · obtain ⟨hx1, hx2⟩ := hx_num (c := s[k]) (by omega) (by omega)
        have HA := Lib.hid (show (s.data.toList.take (k + 1)).all isHx = true by rw [HT.out, List.all_append, H.out]; simp [hx1])
        have HS := Lib.hid (show hexN 0 (s.data.toList.take (k + 1)) = hexN 0 (s.data.toList.take k) * 16 + (s[k].toNat - 48) by rw [HT.out, hexN_snoc, hx2])
        have f0 : (48 : Int) ≤ (s[k].toNat : Int) := by omega
        have f1 : (s[k].toNat : Int) ≤ 57 := by omega
        have f2 : ¬ (97 : Int) ≤ (s[k].toNat : Int) := by omega
        have f3 : ¬ (65 : Int) ≤ (s[k].toNat : Int) := by omega
        by_cases h4 : k < 4
        · have hb := (phex_hexN (s.data.toList.take k) 0 0 (by decide) (by rw [List.length_take]; omega) H.out).2
          obtain rfl := HZ.out (by omega)
          generalize hexN 0 (s.data.toList.take k) = n at *
          clear hx1 hx2 d1 HM HT H HZ
          go_wp2_with fail
          go_round
          case rel => exact ⟨k + 1, _, by omega, by go_num, rfl, Lib.hid (fun _ => by rw [HS.out]; omega), HA⟩
          case measure => simp [intOf]; omega
        · clear hx1 hx2 d1 HM HT H HZ HS
          go_wp2_with fail
          go_round
          case rel => exact ⟨k + 1, _, by omega, by go_num, rfl, Lib.hid (fun h => by omega), HA⟩
          case measure => simp [intOf]; omega
      · have HF := Lib.hid (show hexV s = .int .i64 (-1) by
          rw [hexV, grp_bad HM.out (hx_none (by omega) (by omega) (by omega))]; rfl)
        have f0 : (48 : Int) ≤ (s[k].toNat : Int) := by omega
        have f1 : ¬ (s[k].toNat : Int) ≤ 57 := by omega
        have f2 : ¬ (97 : Int) ≤ (s[k].toNat : Int) := by omega
        have f3 : ¬ (65 : Int) ≤ (s[k].toNat : Int) := by omega
        clear d2 HM HT H HZ
        go_wp2_with fail
        go_ret
        exact ⟨by rw [HF.out]; rfl, rfl⟩
      · obtain ⟨hx1, hx2⟩ := hx_up (c := s[k]) (by omega) (by omega)
        have HA := Lib.hid (show (s.data.toList.take (k + 1)).all isHx = true by rw [HT.out, List.all_append, H.out]; simp [hx1])
        have HS := Lib.hid (show hexN 0 (s.data.toList.take (k + 1)) = hexN 0 (s.data.toList.take k) * 16 + (s[k].toNat - 55) by rw [HT.out, hexN_snoc, hx2])
        have f0 : (48 : Int) ≤ (s[k].toNat : Int) := by omega
        have f1 : ¬ (s[k].toNat : Int) ≤ 57 := by omega
        have f2 : ¬ (97 : Int) ≤ (s[k].toNat : Int) := by omega
        have f3 : (65 : Int) ≤ (s[k].toNat : Int) := by omega
        have f4 : (s[k].toNat : Int) ≤ 70 := by omega
        by_cases h4 : k < 4
        · have hb := (phex_hexN (s.data.toList.take k) 0 0 (by decide) (by rw [List.length_take]; omega) H.out).2
          obtain rfl := HZ.out (by omega)
          generalize hexN 0 (s.data.toList.take k) = n at *
          clear hx1 hx2 d3 HM HT H HZ
          go_wp2_with fail
          go_round
          case rel => exact ⟨k + 1, _, by omega, by go_num, rfl, Lib.hid (fun _ => by rw [HS.out]; omega), HA⟩
          case measure => simp [intOf]; omega
        · clear hx1 hx2 d3 HM HT H HZ HS
          go_wp2_with fail
          go_round
          case rel => exact ⟨k + 1, _, by omega, by go_num, rfl, Lib.hid (fun h => by omega), HA⟩
          case measure => simp [intOf]; omega
      · have HF := Lib.hid (show hexV s = .int .i64 (-1) by
          rw [hexV, grp_bad HM.out (hx_none (by omega) (by omega) (by omega))]; rfl)
        have f0 : (48 : Int) ≤ (s[k].toNat : Int) := by omega
        have f1 : ¬ (s[k].toNat : Int) ≤ 57 := by omega
        have f2 : ¬ (97 : Int) ≤ (s[k].toNat : Int) := by omega
        have f3 : (65 : Int) ≤ (s[k].toNat : Int) := by omega
        have f4 : ¬ (s[k].toNat : Int) ≤ 70 := by omega
        clear d4 HM HT H HZ
        go_wp2_with fail
        go_ret
        exact ⟨by rw [HF.out]; rfl, rfl⟩
      · obtain ⟨hx1, hx2⟩ := hx_low (c := s[k]) (by omega) (by omega)
        have HA := Lib.hid (show (s.data.toList.take (k + 1)).all isHx = true by rw [HT.out, List.all_append, H.out]; simp [hx1])
        have HS := Lib.hid (show hexN 0 (s.data.toList.take (k + 1)) = hexN 0 (s.data.toList.take k) * 16 + (s[k].toNat - 87) by rw [HT.out, hexN_snoc, hx2])
        have f0 : (48 : Int) ≤ (s[k].toNat : Int) := by omega
        have f1 : ¬ (s[k].toNat : Int) ≤ 57 := by omega
        have f2 : (97 : Int) ≤ (s[k].toNat : Int) := by omega
        have f3 : (s[k].toNat : Int) ≤ 102 := by omega
        have f4 : (65 : Int) ≤ (s[k].toNat : Int) := by omega
        have f5 : ¬ (s[k].toNat : Int) ≤ 70 := by omega
        by_cases h4 : k < 4
        · have hb := (phex_hexN (s.data.toList.take k) 0 0 (by decide) (by rw [List.length_take]; omega) H.out).2
          obtain rfl := HZ.out (by omega)
          generalize hexN 0 (s.data.toList.take k) = n at *
          clear hx1 hx2 d5 HM HT H HZ
          go_wp2_with fail
          go_round
          case rel => exact ⟨k + 1, _, by omega, by go_num, rfl, Lib.hid (fun _ => by rw [HS.out]; omega), HA⟩
          case measure => simp [intOf]; omega
        · clear hx1 hx2 d5 HM HT H HZ HS
          go_wp2_with fail
          go_round
          case rel => exact ⟨k + 1, _, by omega, by go_num, rfl, Lib.hid (fun h => by omega), HA⟩
          case measure => simp [intOf]; omega
      · have HF := Lib.hid (show hexV s = .int .i64 (-1) by
          rw [hexV, grp_bad HM.out (hx_none (by omega) (by omega) (by omega))]; rfl)
        have f0 : (48 : Int) ≤ (s[k].toNat : Int) := by omega
        have f1 : ¬ (s[k].toNat : Int) ≤ 57 := by omega
        have f2 : (97 : Int) ≤ (s[k].toNat : Int) := by omega
        have f3 : ¬ (s[k].toNat : Int) ≤ 102 := by omega
        have f4 : (65 : Int) ≤ (s[k].toNat : Int) := by omega
        have f5 : ¬ (s[k].toNat : Int) ≤ 70 := by omega
        clear d6 HM HT H HZ
        go_wp2_with fail
        go_ret
        exact ⟨by rw [HF.out]; rfl, rfl⟩
    · obtain rfl : k = s.size := by omega
      have HT : s.data.toList.take s.size = s.data.toList := List.take_of_length_le (by rw [HL.out]; exact Nat.le_refl _)
      rw [HT] at H HZ
      by_cases h1 : s.size < 1
      · have HF := Lib.hid (show hexV s = .int .i64 (-1) by
          rw [hexV, show grpB s = false by rw [grpB, decide_eq_false (by omega : ¬ 1 ≤ s.size)]; simp]; rfl)
        have h1' : (s.size : Int) < 1 := by omega
        go_wp2_with fail
        go_ret
        exact ⟨by rw [HF.out]; rfl, rfl⟩
      · have h1' : ¬ (s.size : Int) < 1 := by omega
        by_cases h4 : 4 < s.size
        · have HF := Lib.hid (show hexV s = .int .i64 (-1) by
            rw [hexV, show grpB s = false by rw [grpB, decide_eq_false (by omega : ¬ s.size ≤ 4)]; simp]; rfl)
          have h4' : (4 : Int) < (s.size : Int) := by omega
          go_wp2_with fail
          go_ret
          exact ⟨by rw [HF.out]; rfl, rfl⟩
        · have hp := phex_hexN s.data.toList 0 0 (by decide) (by rw [HL.out]; omega) H.out
          have hz := HZ.out (by omega)
          have HF := Lib.hid (show hexV s = .int .i64 z by
            rw [hexV, show grpB s = true by rw [grpB, H.out, decide_eq_true (by omega : 1 ≤ s.size), decide_eq_true (by omega : s.size ≤ 4)]; rfl, if_pos rfl, grpN, hp.1, hz]
            rfl)
          have h4' : ¬ (4 : Int) < (s.size : Int) := by omega
          clear hp hz HZ H
          go_wp2_with fail
          go_ret
          exact ⟨by rw [HF.out]; rfl, rfl⟩
end Go.Proofs.YtonafonhadocgaaGreatDoor

/- addr.ParseEnds. -/
namespace Go.Proofs.YtonafonhadocgaaGreatDoor
open Go.RowKit Go.Shelf

/-! ### Parsed addresses -/
theorem f4_len {s : ByteArray} {l : List UInt8} (h : f4 s = some l) : l.length = 4 := by
  obtain ⟨a, b, c, d, rfl⟩ := two_len h
  rfl
theorem parseA_len {l : List UInt8} {v : Bool} {b : List UInt8} (h : parseA l = some (v, b)) : b.length = 16 ∧ mayB v b = true := by
  unfold parseA at h
  split at h
  · rename_i x hx
    injection h with h
    injection h with h1 h2
    subst h1 h2
    have h4 := f4_len hx
    exact ⟨by simp [h4], by simp [mayB, h4]⟩
  · split at h
    · split at h
      · cases h
      · rename_i g h' hg hh hc
        injection h with h
        injection h with h1 h2
        subst h1 h2
        refine ⟨?_, rfl⟩
        simp only [Bool.or_eq_true, Bool.and_eq_true, Bool.not_eq_true', decide_eq_true_eq, not_or, not_and] at hc
        rw [flat_len]
        simp only [List.length_append, List.length_replicate]
        cases hb : (cutL l).2.2
        · have := hc.2 hb
          omega
        · have := hc.1 hb
          omega
    · cases h
def parse3 (l : List UInt8) : Bool × List UInt8 × Int := match parseA l with
  | some (v, b) => (v, b, 0)
  | none => (false, z16, 9)
theorem parse3_v (l : List UInt8) : parseV l = .tuple #[.agg (adC (parse3 l).1 (parse3 l).2.1), .int .i64 (parse3 l).2.2] := by
  unfold parseV parse3
  cases parseA l with
  | none => rfl
  | some x => rfl
theorem parse3_ok (l : List UInt8) : (parse3 l).2.1.length = 16 ∧ mayB (parse3 l).1 (parse3 l).2.1 = true := by
  unfold parse3
  cases h : parseA l with
  | none => exact ⟨rfl, by decide⟩
  | some x =>
    obtain ⟨v, b⟩ := x
    exact parseA_len h
def unum2 (s : ByteArray) : Nat × Bool := match unum s with
  | some n => (n, true)
  | none => (0, false)
theorem unum2_v (s : ByteArray) : unumV s = .tuple #[.int .u64 (unum2 s).1, .bool (unum2 s).2] := by
  unfold unumV unum2
  cases unum s <;> rfl
theorem unum2_lt (s : ByteArray) : (unum2 s).1 < 18446744073709551616 := by
  unfold unum2
  cases h : unum s with
  | none => exact (by decide : 0 < 18446744073709551616)
  | some n => exact unum_lt h

/-! ### Parsed ends -/
def trimB (l : List UInt8) : List UInt8 := Lib.trimSuffix (Lib.trimPrefix l [91]) [93]
/-- The ends of a text, cut at k. -/
def peAt (s : List UInt8) (k : Nat) : Option (Bool × List UInt8 × Nat) :=
  if (parse3 (trimB (s.take k))).2.2 = 0 ∧ (unum2 (mkB (s.drop (k + 1)))).2 = true ∧ endsT (parse3 (trimB (s.take k))).1 (parse3 (trimB (s.take k))).2.1 ((unum2 (mkB (s.drop (k + 1)))).1 % 65536) = s then
    some ((parse3 (trimB (s.take k))).1, (parse3 (trimB (s.take k))).2.1, (unum2 (mkB (s.drop (k + 1)))).1 % 65536)
  else none
def peL (s : ByteArray) : Option (Bool × List UInt8 × Nat) := if Lib.lastIndexByte s 58 < 0 then none else peAt s.data.toList (Lib.lastIndexByte s 58).toNat
def peV (s : ByteArray) : Value := match peL s with
  | some (v, b, p) => .tuple #[.agg (enC v b p), .int .i64 0]
  | none => .tuple #[.agg (enC false z16 0), .int .i64 9]

theorem trimP_len (l p : List UInt8) : (Lib.trimPrefix l p).length ≤ l.length := by
  unfold Lib.trimPrefix
  split
  · rw [List.length_drop]; omega
  · exact Nat.le_refl _
theorem trimS_len (l p : List UInt8) : (Lib.trimSuffix l p).length ≤ l.length := by
  unfold Lib.trimSuffix
  split
  · rw [List.length_take]; omega
  · exact Nat.le_refl _
theorem last_any (s : ByteArray) (hs : s.size < 4294967281) (w : World) :
    Calls Tryz.prog 35 #[.string s, .int .u8 58] w fun e w' => e = .returned (.int .i64 (Lib.lastIndexByte s 58)) ∧ w' = w :=
  Any.strings_LastIndexByte lays149 s 58 (by omega) w
theorem trimp_any (s : ByteArray) (w : World) :
    Calls Tryz.prog 38 #[.string s, .string ⟨#[91]⟩] w fun e w' => e = .returned (.string ⟨(Lib.trimPrefix s.data.toList [91]).toArray⟩) ∧ w' = w :=
  Any.strings_TrimPrefix lays101 s ⟨#[91]⟩ w
theorem trims_any (s : ByteArray) (hs : s.size < 4294967281) (w : World) :
    Calls Tryz.prog 37 #[.string s, .string ⟨#[93]⟩] w fun e w' => e = .returned (.string ⟨(Lib.trimSuffix s.data.toList [93]).toArray⟩) ∧ w' = w :=
  Any.strings_TrimSuffix lays102 s ⟨#[93]⟩ w (by omega)

theorem results_en {fn : Func} {p t : Tmp} (h : fn.results = #[.cell p 28, .tmp t]) (tmps : Array Value) (w : World) (g : Nat) (cs : Array Value)
    (hp : tmps.getD p undef = .pointer (some ⟨g, 0, none⟩)) (hg : Blk w g 28 cs) (hi : cs.size = 18) :
    (results fn tmps).run Tryz.prog w = .ok (.tuple #[.agg cs, tmps.getD t undef]) w := by
  have hp' : tmps[p]?.getD undef = .pointer (some ⟨g, 0, none⟩) := by simpa using hp
  have hl := run_loadVar_row (P := Tryz.prog) w g 28 28 cs (0, 0) _ hg Tryz.underlying28 rfl (by rw [hi]; exact enSize)
  simp [results, h, hp', asAddr, hl]
theorem enC_one (v6 : Bool) (l : List UInt8) (p : Nat) : (enC v6 l p).toList.all (·.oneCell') = true := by
  simp [enC, bv, Value.oneCell']
theorem z18_lit : enC false z16 0 = #[.bool false, .int .u8 0, .int .u8 0, .int .u8 0, .int .u8 0, .int .u8 0, .int .u8 0, .int .u8 0, .int .u8 0, .int .u8 0, .int .u8 0, .int .u8 0, .int .u8 0, .int .u8 0, .int .u8 0, .int .u8 0, .int .u8 0, .int .u16 0] := rfl

/-- A struct or an array that is built of its parts. -/
theorem wpList_build_eq {P : Program} {ops : Array Oper} {rest : List Oper} {o : Oper} {a : Act} {w : World} {Q : Exit → Act → World → Prop} (t : TypeId) (parts : Array (Nat × Operand)) (cells : Array Value) (ho : o.op = .build t parts)
    (hc : P.built t (parts.toList.map fun p => (p.1, a.eval p.2)) = some cells) (hw : Region.wanted o (yielded ops a.tmps) = true)
    (h : wpList P ops Q rest (a.put o.dst (.agg cells)) w) : wpList P ops Q (o :: rest) a w :=
  have hc' : P.built t (parts.map fun (i, x) => (i, a.eval x)).toList = some cells := by rw [Array.toList_map]; exact hc
  BigFrame.wpList_want hw fun _ hK => wp_build t parts ho (by rw [hc']; rfl) (by rw [hc']; exact hK _ _ h)
/-- The build whose operands are named: a guard for an arm. -/
theorem at_build {P : Program} {ops : Array Oper} {rest : List Oper} {a : Act} {w : World} {Q : Exit → Act → World → Prop} {dst : Option Tmp} {t : TypeId} {ps : String} {af : Array Edge} {gd : Option (Nat × Bool)} (ty : TypeId) (parts : Array (Nat × Operand)) (h : wpList P ops Q ({ dst := dst, op := .build ty parts, type := t, pos := ps, after := af, guard := gd } :: rest) a w) :
    wpList P ops Q ({ dst := dst, op := .build ty parts, type := t, pos := ps, after := af, guard := gd } :: rest) a w := h
theorem built_en (v6 : Bool) (l : List UInt8) (p : Nat) (hl : l.length = 16) : Tryz.prog.built 28 [(0, .agg (adC v6 l)), (1, .int .u16 (p : Int))] = some (enC v6 l p) := by
  obtain ⟨b0, b1, b2, b3, b4, b5, b6, b7, b8, b9, b10, b11, b12, b13, b14, b15, rfl⟩ := sixteen l hl
  kernel_rfl

set_option maxRecDepth 100000 in
set_option maxHeartbeats 8000000 in
theorem parseEnds_any (s : ByteArray) (hs : s.size < 4294967281) (w : World) (env : Env w) :
    Calls Tryz.prog 22 #[.string s] w fun e w' => e = .returned (peV s) ∧ Below w.heap.size w w' := by
  have E := Lib.hid env
  clear env
  have HL := Lib.hid (fun W => last_any s hs W)
  have K2 := Lib.hid (Blk.new w 28 (enC false z16 0))
  have B2 := Lib.hid ((Below.refl _ w).alloc (Nat.le_refl _) (.cells (enC false z16 0) 28))
  have HK := Lib.hid (show peL s = if Lib.lastIndexByte s 58 < 0 then none else peAt s.data.toList (Lib.lastIndexByte s 58).toNat from rfl)
  have hlt : Lib.lastIndexByte s 58 = -1 ∨ ∃ k : Nat, Lib.lastIndexByte s 58 = k ∧ k < s.size := by
    rcases Lib.lastIndexByte_spec s 58 with ⟨h, _⟩ | ⟨k, h1, h2, _⟩
    · exact .inl h
    · exact .inr ⟨k, h2, h1⟩
  go_enter Tryz.func22, Tryz.ntmps22
  go_wp2_with fail
  refine (HL.out _).mono ?_
  rintro e w2 ⟨rfl, rfl⟩
  clear HL
  rcases hlt with hz | ⟨k, hk, hks⟩
  · have HR := Lib.hid (show peV s = .tuple #[.agg (enC false z16 0), .int .i64 9] by rw [peV, HK.out, hz]; rfl)
    rw [hz]
    clear HK hz
    go_wp2_with ((with_reducible refine at_store 28 (.tmp 2) (.tmp 16) ?_); refine wpList_store_blk 28 (.tmp 2) (.tmp 16) w.heap.size 28 (enC false z16 0) (enC false z16 0) K2.out (by rfl) (by rfl) (by rfl) (by rfl) (by rw [enC_size _ _ _ (by rfl)]; exact enSize) (by rfl) (by rfl) (by rfl) ?_; intro w9 hk9 hg9 hs9; have V9 := Lib.hid hk9; have G9 := Lib.hid (And.intro hg9 hs9); clear hk9 hg9 hs9)
    exact bodyPost_ret (v := .tuple #[.agg (enC false z16 0), .int .i64 9]) (results_en Tryz.results22 _ _ w.heap.size (enC false z16 0) rfl V9.out (enC_size _ _ _ (by rfl))) rfl ⟨by rw [HR.out], B2.out.grown G9.out.1 B2.out.size (fun k e => by cases e; exact Nat.le_refl _)⟩
  · rw [hk]
    rw [hk, if_neg (by omega)] at HK
    clear hk
    have hT1 := fun W => trimp_any (s.extract 0 k) W
    rw [Lib.extract_from_zero] at hT1
    have hx0 : (Lib.trimPrefix (s.data.toList.take k) [91]).length ≤ s.size := by
      refine Nat.le_trans (trimP_len _ _) ?_
      rw [List.length_take]
      omega
    have HT2 := Lib.hid (fun W => trims_any ⟨(Lib.trimPrefix (s.data.toList.take k) [91]).toArray⟩ (by show (Lib.trimPrefix (s.data.toList.take k) [91]).length < _; omega) W)
    have hx1 : (trimB (s.data.toList.take k)).length < 4294967281 := by
      have := trimS_len (Lib.trimPrefix (s.data.toList.take k) [91]) [93]
      rw [trimB]
      omega
    have HT3 := Lib.hid (fun W (e : Env W) => parse_any ⟨(trimB (s.data.toList.take k)).toArray⟩ hx1 W e)
    have HX := Lib.hid (show Lib.trimSuffix (⟨(Lib.trimPrefix (s.data.toList.take k) [91]).toArray⟩ : ByteArray).data.toList [93] = trimB (s.data.toList.take k) from rfl)
    rw [HX.out] at HT2
    have HT1 := Lib.hid hT1
    clear hT1 HX
    have hx2 : (mkB (s.data.toList.drop (k + 1))).size ≤ 281474976710656 := by
      show (s.data.toList.drop (k + 1)).length ≤ _
      rw [List.length_drop]
      have : s.data.toList.length = s.size := rfl
      omega
    have HT4 := Lib.hid (fun W (e : Env W) => ununsigned_any (mkB (s.data.toList.drop (k + 1))) hx2 W e)
    have HX4 := Lib.hid (show s.extract (k + 1) s.size = mkB (s.data.toList.drop (k + 1)) by
      apply ByteArray.ext
      apply Array.toList_inj.1
      rw [Lib.extract_data]
      show _ = s.data.toList.drop (k + 1)
      rw [List.take_of_length_le]
      rw [List.length_drop]
      have : s.data.toList.length = s.size := rfl
      omega)
    clear hx0 hx1 hx2
    go_wp2_with fail
    refine (HT1.out _).mono ?_
    rintro e w2 ⟨rfl, rfl⟩
    go_wp2_with fail
    refine (HT2.out _).mono ?_
    rintro e w2 ⟨rfl, rfl⟩
    go_wp2_with fail
    refine (HT3.out _ (E.out.alloc _)).mono ?_
    rintro e w2 ⟨rfl, b⟩
    rw [parse3_v]
    have K3 := Lib.hid (K2.out.keep b)
    have B3 := Lib.hid (B2.out.trans (b.mono B2.out.size))
    have hp3 := parse3_ok (trimB (s.data.toList.take k))
    have HPE := Lib.hid (show peAt s.data.toList k = if (parse3 (trimB (s.data.toList.take k))).2.2 = 0 ∧ (unum2 (mkB (s.data.toList.drop (k + 1)))).2 = true ∧ endsT (parse3 (trimB (s.data.toList.take k))).1 (parse3 (trimB (s.data.toList.take k))).2.1 ((unum2 (mkB (s.data.toList.drop (k + 1)))).1 % 65536) = s.data.toList then some ((parse3 (trimB (s.data.toList.take k))).1, (parse3 (trimB (s.data.toList.take k))).2.1, (unum2 (mkB (s.data.toList.drop (k + 1)))).1 % 65536) else none from rfl)
    have hul := unum2_lt (mkB (s.data.toList.drop (k + 1)))
    have HUV := Lib.hid (unum2_v (mkB (s.data.toList.drop (k + 1))))
    generalize parse3 (trimB (s.data.toList.take k)) = pr at *
    generalize unum2 (mkB (s.data.toList.drop (k + 1))) = un at *
    obtain ⟨v6, l, er⟩ := pr
    obtain ⟨n, ok⟩ := un
    have hl : l.length = 16 := hp3.1
    have hm : mayB v6 l = true := hp3.2
    clear b hp3 K2 B2 HT1 HT2 HT3
    dsimp only at *
    have HSA := Lib.hid (show (Tryz.prog.info? 25).map (·.size) = some (adC v6 l).size by rw [adC_size _ _ hl]; exact adSize)
    have HSZ := Lib.hid (show (adC false z16).size = (adC v6 l).size by rw [adC_size _ _ hl]; rfl)
    have HS1 := Lib.hid (adC_one v6 l)
    have HEN := Lib.hid (fun W (e : Env W) => ends_any v6 l (n % 65536) hl (Nat.mod_lt _ (by omega)) W e)
    go_upto_region 5 with ((with_reducible refine at_store 25 (.tmp 5) (.tmp 24) ?_); refine wpList_store_blk 25 (.tmp 5) (.tmp 24) w2.heap.size 25 (adC false z16) (adC v6 l) (Blk.new w2 25 (adC false z16)) (by rfl) (by rfl) (by rfl) (by rfl) HSA.out HSZ.out HS1.out (by rfl) ?_; intro w3 hk3 hg3 hs3; have K5 := Lib.hid hk3; have B4 := Lib.hid (print_world B3.out B3.out.size hg3); have K4 := Lib.hid ((K3.out.alloc _).grown hg3 (fun e => by have := Option.some.inj e; have := K3.out.lt; omega)); clear hk3 hg3 hs3)
    have hx4 := HX4.out
    clear K3 B3
    go_wp2_with fail
    refine (HT4.out _ (E.out.below B4.out)).mono ?_
    rintro e w4 ⟨rfl, b⟩
    rw [HUV.out]
    have K4' := Lib.hid (K4.out.keep b)
    have K5' := Lib.hid (K5.out.keep b)
    have B5 := Lib.hid (B4.out.trans (b.mono B4.out.size))
    clear b K4 K5 B4 hx4 HX4 HT4 HUV
    have hw16 : IntKind.u16.wrap (n : Int) = ((n % 65536 : Nat) : Int) := by
      simp [IntKind.wrap, IntKind.bits, IntKind.signed]
    have HBU := Lib.hid (built_en v6 l (n % 65536) hl)
    have HSE := Lib.hid (show (Tryz.prog.info? 28).map (·.size) = some (enC v6 l (n % 65536)).size by rw [enC_size _ _ _ hl]; exact enSize)
    have HSF := Lib.hid (show (enC false z16 0).size = (enC v6 l (n % 65536)).size by rw [enC_size _ _ _ hl]; rfl)
    have HS2 := Lib.hid (enC_one v6 l (n % 65536))
    generalize n % 65536 = m at *
    go_upto_region 6 with fail
    go_upto_region 7 with (first | (refine wpList_load_blk 25 (.tmp 5) w2.heap.size 25 (adC v6 l) _ K5'.out (by rfl) (by rfl) Tryz.underlying25 rfl HSA.out (by rfl) ?_) | ((with_reducible refine at_build 28 #[(0, .tmp 34), (1, .tmp 36)] ?_); refine wpList_build_eq 28 #[(0, .tmp 34), (1, .tmp 36)] (enC v6 l m) (by rfl) HBU.out (by rfl) ?_) | ((with_reducible refine at_store 28 (.tmp 9) (.tmp 37) ?_); refine wpList_store_blk 28 (.tmp 9) (.tmp 37) w4.heap.size 28 (enC false z16 0) (enC v6 l m) (Blk.new w4 28 (enC false z16 0)) (by rfl) (by rfl) (by rfl) (by rfl) HSE.out HSF.out HS2.out (by rfl) ?_; intro w5 hk5 hg5 hs5; have K9 := Lib.hid hk5; have B6 := Lib.hid (print_world B5.out B5.out.size hg5); have K6 := Lib.hid ((K4'.out.alloc _).grown hg5 (fun e => by have := Option.some.inj e; have := K4'.out.lt; omega)); clear hk5 hg5 hs5))
    clear K4' K5' B5 HBU HSF
    go_wp2_with (refine wpList_load_blk 28 (.tmp 9) w4.heap.size 28 (enC v6 l m) _ K9.out (by rfl) (by rfl) Tryz.underlying28 rfl HSE.out (by rfl) ?_)
    refine (HEN.out _ (E.out.below B6.out)).mono ?_
    rintro e w6 ⟨rfl, b⟩
    rw [show endsV v6 l m = .tuple #[.string ⟨(endsT v6 l m).toArray⟩, .int .i64 0] by rw [endsV, hm, if_pos rfl]]
    have K7 := Lib.hid (K6.out.keep b)
    have K9' := Lib.hid (K9.out.keep b)
    have B7 := Lib.hid (B6.out.trans (b.mono B6.out.size))
    have HQ := Lib.hid (show peV s = if er = 0 ∧ ok = true ∧ endsT v6 l m = s.data.toList then .tuple #[.agg (enC v6 l m), .int .i64 0] else .tuple #[.agg (enC false z16 0), .int .i64 9] by
      rw [peV, HK.out, show ((k : Int)).toNat = k by omega, HPE.out]
      split <;> split <;> simp_all)
    clear b K6 K9 B6 HK HPE HEN hm hul hw16
    generalize endsT v6 l m = t at *
    by_cases her : er = 0
    · subst her
      cases ok with
      | false =>
        have HR := Lib.hid (show peV s = .tuple #[.agg (enC false z16 0), .int .i64 9] by rw [HQ.out, if_neg (fun h => by cases h.2.1)])
        clear HQ
        go_wp2_with ((with_reducible refine at_store 28 (.tmp 2) (.tmp 54) ?_); refine wpList_store_blk 28 (.tmp 2) (.tmp 54) w.heap.size 28 (enC false z16 0) (enC false z16 0) K7.out (by rfl) (by rfl) (by rfl) (by rfl) (by rw [enC_size _ _ _ (by rfl)]; exact enSize) (by rfl) (by rfl) (by rfl) ?_; intro w9 hk9 hg9 hs9; have V9 := Lib.hid hk9; have G9 := Lib.hid (And.intro hg9 hs9); clear hk9 hg9 hs9)
        exact bodyPost_ret (v := .tuple #[.agg (enC false z16 0), .int .i64 9]) (results_en Tryz.results22 _ _ w.heap.size (enC false z16 0) rfl V9.out (enC_size _ _ _ (by rfl))) rfl ⟨by rw [HR.out], B7.out.grown G9.out.1 B7.out.size (fun k e => by cases e; exact Nat.le_refl _)⟩
      | true =>
        by_cases hts : t = s.data.toList
        · have HR := Lib.hid (show peV s = .tuple #[.agg (enC v6 l m), .int .i64 0] by rw [HQ.out, if_pos ⟨rfl, rfl, hts⟩])
          subst hts
          clear HQ
          go_wp2_with (first | (refine wpList_load_blk 28 (.tmp 9) w4.heap.size 28 (enC v6 l m) _ K9'.out (by rfl) (by rfl) Tryz.underlying28 rfl HSE.out (by rfl) ?_) | ((with_reducible refine at_store 28 (.tmp 2) (.tmp 55) ?_); refine wpList_store_blk 28 (.tmp 2) (.tmp 55) w.heap.size 28 (enC false z16 0) (enC v6 l m) K7.out (by rfl) (by rfl) (by rfl) (by rfl) HSE.out (by rw [enC_size _ _ _ hl]; rfl) HS2.out (by rfl) ?_; intro w9 hk9 hg9 hs9; have V9 := Lib.hid hk9; have G9 := Lib.hid (And.intro hg9 hs9); clear hk9 hg9 hs9))
          exact bodyPost_ret (v := .tuple #[.agg (enC v6 l m), .int .i64 0]) (results_en Tryz.results22 _ _ w.heap.size (enC v6 l m) rfl V9.out (enC_size _ _ _ hl)) rfl ⟨by rw [HR.out], B7.out.grown G9.out.1 B7.out.size (fun k e => by cases e; exact Nat.le_refl _)⟩
        · have hne : ((⟨t.toArray⟩ : ByteArray).toList == s.toList) = false := str_ne (fun e => hts (by rw [← e]))
          have hne2 : (t == s.toList) = false := by
            rw [beq_eq_false_iff_ne]
            intro e
            rw [ByteArray.toList_eq] at e
            exact hts e
          have HR := Lib.hid (show peV s = .tuple #[.agg (enC false z16 0), .int .i64 9] by rw [HQ.out, if_neg (fun h => hts h.2.2)])
          clear HQ
          go_wp2_with ((with_reducible refine at_store 28 (.tmp 2) (.tmp 54) ?_); refine wpList_store_blk 28 (.tmp 2) (.tmp 54) w.heap.size 28 (enC false z16 0) (enC false z16 0) K7.out (by rfl) (by rfl) (by rfl) (by rfl) (by rw [enC_size _ _ _ (by rfl)]; exact enSize) (by rfl) (by rfl) (by rfl) ?_; intro w9 hk9 hg9 hs9; have V9 := Lib.hid hk9; have G9 := Lib.hid (And.intro hg9 hs9); clear hk9 hg9 hs9)
          exact bodyPost_ret (v := .tuple #[.agg (enC false z16 0), .int .i64 9]) (results_en Tryz.results22 _ _ w.heap.size (enC false z16 0) rfl V9.out (enC_size _ _ _ (by rfl))) rfl ⟨by rw [HR.out], B7.out.grown G9.out.1 B7.out.size (fun k e => by cases e; exact Nat.le_refl _)⟩
    · have hnz : (er == 0) = false := by rw [beq_eq_false_iff_ne]; exact her
      have hnz2 : (er != 0) = true := by rw [bne, hnz]; rfl
      have HR := Lib.hid (show peV s = .tuple #[.agg (enC false z16 0), .int .i64 9] by rw [HQ.out, if_neg (fun h => her h.1)])
      clear HQ
      go_wp2_with ((with_reducible refine at_store 28 (.tmp 2) (.tmp 54) ?_); refine wpList_store_blk 28 (.tmp 2) (.tmp 54) w.heap.size 28 (enC false z16 0) (enC false z16 0) K7.out (by rfl) (by rfl) (by rfl) (by rfl) (by rw [enC_size _ _ _ (by rfl)]; exact enSize) (by rfl) (by rfl) (by rfl) ?_; intro w9 hk9 hg9 hs9; have V9 := Lib.hid hk9; have G9 := Lib.hid (And.intro hg9 hs9); clear hk9 hg9 hs9)
      exact bodyPost_ret (v := .tuple #[.agg (enC false z16 0), .int .i64 9]) (results_en Tryz.results22 _ _ w.heap.size (enC false z16 0) rfl V9.out (enC_size _ _ _ (by rfl))) rfl ⟨by rw [HR.out], B7.out.grown G9.out.1 B7.out.size (fun k e => by cases e; exact Nat.le_refl _)⟩
end Go.Proofs.YtonafonhadocgaaGreatDoor

/- Laws for the reference's Parse. -/
namespace Go.Proofs.YtonafonhadocgaaGreatDoor
open Go.RowKit Go.Shelf

def rparseV (l : List UInt8) : Value := match parseA l with
  | some (v6, b) => .tuple #[.agg (adC v6 b), .bool true]
  | none => .tuple #[.agg (adC false z16), .bool false]

/-- append(s, x) of elements that a literal has just laid, of any width. -/
theorem wpList_append_litB {P : Program} (w : World) {ops : Array Oper} {rest : List Oper} {o : Oper} {a : Act} {Q : Exit → Act → World → Prop} (hgd : o.guard = none) (s x : Operand) (t T : TypeId)
    (ho : o.op = .call { callee := .builtin .append, args := #[s, x], argTypes := #[t, t] })
    (base : Nat) (i : TypeInfo) (z : Value) (bytes : Nat) (ht : P.underlying t = some (.slice T)) (hi : P.info? T = some i) (hz : i.zero = some z) (hsize : i.size = 1) (hby : i.bytes = bytes) (hzs : z.cells.size = 1)
    (v : Value) (xs : List Value) (hs : a.eval s = v) (hown : OwnV T w base v xs) (news : List Value) (m : Nat) (hm : news.length = m) (hx : a.eval x = .slice (some ⟨w.heap.size, 0, none⟩) m m) (h1 : ∀ u ∈ news, u.oneCell' = true)
    (cs : Array Value) (hcs : cs = news.toArray) (h63 : xs.length + m ≤ 1073741824) (hb16 : bytes ≤ 16384) (hbase : base ≤ w.heap.size)
    (h : ∀ v' w', OwnV T w' base v' (xs ++ news) → Below base (w.alloc (.cells cs T)) w' → (w.alloc (.cells cs T)).grownBy w' v.ownBlock → wpList P ops Q rest (a.put o.dst v') w') : wpList P ops Q (o :: rest) a (w.alloc (.cells cs T)) := by
  subst hcs
  refine wpList_append_own (w.alloc (.cells news.toArray T)) hgd s x t ho base T i z 1 bytes ht hi hz hsize hby hzs (by omega) v xs.length xs hs (hown.alloc _) ⟨w.heap.size, 0, none⟩ m m news hx (by omega) (fun j u hj => ?_) h1 (by unfold maxLen; omega) ?_ (by simp; omega) (fun v' w' h2 h3 _ => ?_)
  · rw [Addr.add_lit, World.cell?_alloc_new]
    simpa using hj
  · have : (xs.length + m) * bytes ≤ 1073741824 * 16384 := Nat.mul_le_mul h63 hb16
    omega
  · refine h v' w' ?_ ((Below.refl _ _).grown h3 (by simp; omega) (fun k hk => (hown.blk_lt hk).1)) h3
    unfold OwnV
    rw [List.length_append, hm]
    exact h2

/-- Rows of two types lie apart. -/
theorem OwnV.apart {t t' : TypeId} {w : World} {b b' : Nat} {v v' : Value} {xs ys : List Value} (h : OwnV t w b v xs) (h' : OwnV t' w b' v' ys) (hne : t ≠ t') : ∀ g, v.ownBlock = some g → some g ≠ v'.ownBlock := by
  intro g hg e
  rcases h.2 with ⟨rfl, _⟩ | ⟨g1, c1, cur1, rfl, _, hg1, _⟩
  · cases hg
  · rcases h'.2 with ⟨rfl, _⟩ | ⟨g2, c2, cur2, rfl, _, hg2, _⟩
    · cases e
    · have e1 : g1 = g := by injection hg
      have e2 : g = g2 := by injection e
      subst e1 e2
      rw [hg1] at hg2
      injection hg2 with hg2
      injection hg2 with _ h3 _
      exact hne h3

/-- Where the first two colons stand. -/
theorem cut_none {l : List UInt8} (h : ∀ i, i + 1 < l.length → ¬ (l[i]? = some 58 ∧ l[i + 1]? = some 58)) : cutL l = (l, [], false) := by
  have hx : Lib.index l [58, 58] = -1 := by
    rcases Lib.index_spec l [58, 58] with ⟨h1, _⟩ | ⟨i, h1, h2, h3, _⟩
    · exact h1
    · exfalso
      rw [Lib.occAt, List.isPrefixOf_iff_prefix] at h3
      obtain ⟨t, ht⟩ := h3
      have hl : l.length - i = 2 + t.length := by
        have := congrArg List.length ht
        rw [List.length_drop] at this
        simp at this
        omega
      refine h i (by omega) ⟨?_, ?_⟩
      · have := congrArg (·[0]?) ht
        rw [List.getElem?_drop] at this
        simpa using this.symm
      · have := congrArg (·[1]?) ht
        rw [List.getElem?_drop] at this
        simpa using this.symm
  rw [cutL, Lib.cut, hx]
  rfl
theorem cut_at {l : List UInt8} {k : Nat} (hk : k + 1 < l.length) (h0 : l[k]? = some 58) (h1 : l[k + 1]? = some 58) (h : ∀ i, i < k → ¬ (l[i]? = some 58 ∧ l[i + 1]? = some 58)) : cutL l = (l.take k, l.drop (k + 2), true) := by
  have hx : Lib.index l [58, 58] = k := by
    refine Lib.index_first (by omega) ?_ (fun j hj => ?_)
    · rw [Lib.occAt, List.isPrefixOf_iff_prefix]
      refine ⟨l.drop (k + 2), ?_⟩
      rw [List.drop_eq_getElem_cons (by omega : k < l.length), List.drop_eq_getElem_cons (by omega : k + 1 < l.length)]
      rw [List.getElem?_eq_getElem (by omega)] at h0 h1
      injection h0 with h0
      injection h1 with h1
      rw [h0, h1]
      rfl
    · rw [Lib.occAt, Bool.eq_false_iff]
      intro e
      rw [List.isPrefixOf_iff_prefix] at e
      obtain ⟨t, ht⟩ := e
      refine h j hj ⟨?_, ?_⟩
      · have := congrArg (·[0]?) ht
        rw [List.getElem?_drop] at this
        simpa using this.symm
      · have := congrArg (·[1]?) ht
        rw [List.getElem?_drop] at this
        simpa using this.symm
  rw [cutL, Lib.cut, hx, if_pos (by omega)]
  rfl
theorem flat_two (a b c d : UInt8) : flat (two [a, b, c, d]) = [a, b, c, d] := by
  have ha := a.toNat_lt
  have hb := b.toNat_lt
  have hc := c.toNat_lt
  have hd := d.toNat_lt
  rw [two, flat, flat, flat]
  rw [show (a.toNat * 256 + b.toNat) / 256 = a.toNat by omega, show (a.toNat * 256 + b.toNat) % 256 = b.toNat by omega, show (c.toNat * 256 + d.toNat) / 256 = c.toNat by omega, show (c.toNat * 256 + d.toNat) % 256 = d.toNat by omega]
  simp
theorem fill_two (o0 o1 : List UInt8) (h : o0.length + o1.length ≤ 16) : (o0 ++ List.replicate (16 - o0.length) 0).take (16 - o1.length) ++ o1 = o0 ++ List.replicate (16 - (o0.length + o1.length)) 0 ++ o1 := by
  rw [List.take_append, List.take_of_length_le (by omega : o0.length ≤ 16 - o1.length), List.take_replicate]
  congr 3
  omega
theorem flat_zeros : ∀ n : Nat, flat (List.replicate n 0) = List.replicate (2 * n) 0
  | 0 => rfl
  | n + 1 => by
    rw [List.replicate_succ, flat, flat_zeros n, show 2 * (n + 1) = 2 * n + 1 + 1 by omega, List.replicate_succ, List.replicate_succ]
    rfl
end Go.Proofs.YtonafonhadocgaaGreatDoor

/- ParseEnds: what the program's answer is, and the reference's. -/
namespace Go.Proofs.YtonafonhadocgaaGreatDoor
open Go.RowKit Go.Shelf

/-- The address of an end, as it is written. -/
def frontT (v6 : Bool) (l : List UInt8) : List UInt8 := if v6 then 91 :: (printT v6 l ++ [93]) else printT v6 l
theorem endsT_front (v6 : Bool) (l : List UInt8) (p : Nat) : endsT v6 l p = frontT v6 l ++ 58 :: dec p := rfl
/-- The reference trims brackets only if both stand. -/
def rtrim (t : List UInt8) : List UInt8 := if 1 < t.length ∧ t[0]? = some 91 ∧ t[t.length - 1]? = some 93 then (t.drop 1).take (t.length - 2) else t
/-- The reference's answer at a colon behind which n is spelt. -/
def rAt (s : List UInt8) (k n : Nat) : Option (Bool × List UInt8 × Nat) := match parseA (rtrim (s.take k)) with
  | some (v, b) => if endsT v b n = s then some (v, b, n) else none
  | none => none

theorem no_colon_dec (p : Nat) : (58 : UInt8) ∉ dec p := fun hm => by have := dec_digit p 58 hm; simp at this
theorem last_at (a d : List UInt8) (h : (58 : UInt8) ∉ d) : Lib.lastIndexByte (mkB (a ++ 58 :: d)) 58 = (a.length : Int) := by
  have hg : ∀ j : Nat, (mkB (a ++ 58 :: d)).data[j]! = ((a ++ 58 :: d)[j]?).getD default := fun j => by
    show (a ++ 58 :: d).toArray[j]! = _
    rw [List.getElem!_toArray, List.getElem!_eq_getElem?_getD]
  have hz : (mkB (a ++ 58 :: d)).size = a.length + (d.length + 1) := by simp [mkB, ByteArray.size]
  have h0 : (a ++ 58 :: d)[a.length]? = some 58 := by simp
  have h1 : ∀ j, a.length < j → (a ++ 58 :: d)[j]? ≠ some 58 := by
    intro j hj e
    rw [List.getElem?_append_right (by omega), show j - a.length = (j - a.length - 1) + 1 by omega, List.getElem?_cons_succ] at e
    exact h (List.mem_of_getElem? e)
  rcases Lib.lastIndexByte_spec (mkB (a ++ 58 :: d)) 58 with ⟨_, hn⟩ | ⟨i, hi, he, h58, hn⟩
  · exfalso
    refine hn a.length (by omega) ?_
    rw [hg, h0]; rfl
  · rcases Nat.lt_trichotomy i a.length with hlt | rfl | hgt
    · exfalso
      refine hn a.length hlt (by omega) ?_
      rw [hg, h0]; rfl
    · exact he
    · exfalso
      have hil : i < (a ++ 58 :: d).length := by simp; omega
      refine h1 i hgt ?_
      rw [hg, List.getElem?_eq_getElem hil] at h58
      rw [List.getElem?_eq_getElem hil]
      have h3 : (((a ++ 58 :: d)[i]'hil).toNat : Int) = 58 := h58
      exact congrArg some (UInt8.toNat_inj.1 (by show _ = 58; omega))
theorem print4_chars (l : List UInt8) (hl : l.length = 16) : ∀ c ∈ printT false l, c ≠ 91 ∧ c ≠ 93 := by
  obtain ⟨b0, b1, b2, b3, b4, b5, b6, b7, b8, b9, b10, b11, b12, b13, b14, b15, rfl⟩ := sixteen l hl
  show ∀ c ∈ Lib.join [dec b0.toNat, dec b1.toNat, dec b2.toNat, dec b3.toNat] [46], _
  rw [join_two, join_two, join_two, Lib.join_one]
  have hd : ∀ n c, c ∈ dec n → c ≠ 91 ∧ c ≠ 93 := fun n c hm => by
    have := dec_digit n c hm
    refine ⟨?_, ?_⟩ <;> (rintro rfl; simp at this)
  intro c hc
  simp only [List.mem_append, List.mem_cons] at hc
  rcases hc with h | rfl | h | rfl | h | rfl | h
  · exact hd _ _ h
  · decide
  · exact hd _ _ h
  · decide
  · exact hd _ _ h
  · decide
  · exact hd _ _ h
theorem print_ne (v6 : Bool) (l : List UInt8) (hl : l.length = 16) (hm : mayB v6 l = true) : printT v6 l ≠ [] := by
  intro e
  have h := parse_print v6 l hl hm
  rw [e] at h
  revert h
  rw [show parseA [] = none by decide +kernel]
  simp
theorem trimB_front (v6 : Bool) (l : List UInt8) (hl : l.length = 16) : trimB (frontT v6 l) = printT v6 l := by
  cases v6 with
  | true =>
    rw [frontT, if_pos rfl, trimB, Lib.trimPrefix, Lib.hasPrefix, if_pos (by simp [List.isPrefixOf])]
    rw [show (91 :: (printT true l ++ [93])).drop ([91] : List UInt8).length = printT true l ++ [93] from rfl, Lib.trimSuffix, Lib.hasSuffix, if_pos (by rw [List.isSuffixOf_iff_suffix]; exact List.suffix_append _ _)]
    simp
  | false =>
    have hc := print4_chars l hl
    rw [frontT, if_neg (by decide), trimB, Lib.trimPrefix, Lib.hasPrefix, if_neg, Lib.trimSuffix, Lib.hasSuffix, if_neg]
    · rw [List.isSuffixOf_iff_suffix]
      rintro ⟨t, ht⟩
      exact (hc 93 (by rw [← ht]; simp)).2 rfl
    · rw [List.isPrefixOf_iff_prefix]
      rintro ⟨t, ht⟩
      exact (hc 91 (by rw [← ht]; simp)).1 rfl
theorem rtrim_front (v6 : Bool) (l : List UInt8) (hl : l.length = 16) : rtrim (frontT v6 l) = printT v6 l := by
  cases v6 with
  | true =>
    rw [frontT, if_pos rfl, rtrim, if_pos]
    · simp
    · refine ⟨by simp, rfl, ?_⟩
      simp
  | false =>
    have hc := print4_chars l hl
    rw [frontT, if_neg (by decide), rtrim, if_neg]
    rintro ⟨_, h, _⟩
    exact (hc 91 (List.mem_of_getElem? h)).1 rfl
theorem num_dec (p : Nat) (hp : p < 65536) : numL (dec p) 65535 = some p := by
  rw [num_unum _ _ (by omega), unum_dec p (by omega)]
  show (if p ≤ 65535 then some p else none) = _
  rw [if_pos (by omega)]
theorem numL_lt {l : List UInt8} {n : Nat} (h : numL l 65535 = some n) : n < 65536 := by
  unfold numL at h
  split at h
  · cases h
  · rename_i hc
    injection h with h
    omega

/-- What is written is read. -/
theorem pe_ends (v6 : Bool) (l : List UInt8) (p : Nat) (hl : l.length = 16) (hm : mayB v6 l = true) (hp : p < 65536) : peL (mkB (endsT v6 l p)) = some (v6, l, p) := by
  have hlast := last_at (frontT v6 l) (dec p) (no_colon_dec p)
  rw [peL, endsT_front, hlast, if_neg (by omega), Int.toNat_natCast]
  show peAt (frontT v6 l ++ 58 :: dec p) (frontT v6 l).length = _
  have h1 : (frontT v6 l ++ 58 :: dec p).take (frontT v6 l).length = frontT v6 l := by simp
  have h2 : (frontT v6 l ++ 58 :: dec p).drop ((frontT v6 l).length + 1) = dec p := by simp
  have h3 : parse3 (printT v6 l) = (v6, l, 0) := by rw [parse3, parse_print v6 l hl hm]
  have h4 : unum2 (mkB (dec p)) = (p, true) := by rw [unum2, unum_dec p (by omega)]
  rw [peAt, h1, h2, trimB_front v6 l hl, h3, h4]
  show (if (0 : Int) = 0 ∧ true = true ∧ endsT v6 l (p % 65536) = frontT v6 l ++ 58 :: dec p then some (v6, l, p % 65536) else none) = _
  rw [show p % 65536 = p by omega, if_pos ⟨rfl, rfl, rfl⟩]
/-- What is read is written. -/
theorem pe_sound {s : ByteArray} {v6 : Bool} {l : List UInt8} {p : Nat} (h : peL s = some (v6, l, p)) : endsT v6 l p = s.data.toList ∧ l.length = 16 ∧ mayB v6 l = true ∧ p < 65536 := by
  unfold peL at h
  split at h
  · cases h
  · unfold peAt at h
    split at h
    · rename_i hc
      injection h with h
      injection h with h1 h
      injection h with h2 h3
      have hk := parse3_ok (trimB (s.data.toList.take (Lib.lastIndexByte s 58).toNat))
      have h4 := hc.2.2
      rw [h1, h2, h3] at h4
      rw [h1, h2] at hk
      exact ⟨h4, hk.1, hk.2, by omega⟩
    · cases h
theorem rAt_sound {s : List UInt8} {k n : Nat} {x : Bool × List UInt8 × Nat} (hn : n < 65536) (h : rAt s k n = some x) : peL (mkB s) = some x := by
  unfold rAt at h
  split at h
  · rename_i v b hp
    split at h
    · rename_i he
      injection h with h
      subst h
      have hk := parseA_len hp
      rw [← he]
      exact pe_ends v b n hk.1 hk.2 hn
    · cases h
  · cases h
/-- Where no colon answers, none is read. -/
theorem rAt_none {s : List UInt8} (h : ∀ k n, s[k]? = some 58 → numL (s.drop (k + 1)) 65535 = some n → rAt s k n = none) : peL (mkB s) = none := by
  cases hx : peL (mkB s) with
  | none => rfl
  | some x =>
    exfalso
    obtain ⟨v6, l, p⟩ := x
    obtain ⟨he, hl, hm, hp⟩ := pe_sound hx
    have he' : frontT v6 l ++ 58 :: dec p = s := he
    have h1 : s[(frontT v6 l).length]? = some 58 := by rw [← he']; simp
    have h2 : s.drop ((frontT v6 l).length + 1) = dec p := by rw [← he']; simp
    have h3 : s.take (frontT v6 l).length = frontT v6 l := by rw [← he']; simp
    have := h (frontT v6 l).length p h1 (by rw [h2]; exact num_dec p hp)
    rw [rAt, h3, rtrim_front v6 l hl, parse_print v6 l hl hm] at this
    simp only [endsT_front, he', if_true] at this
    cases this
/-- The reference's answer, as a value. -/
def rpeV (s : ByteArray) : Value := match peL s with
  | some (v, b, p) => .tuple #[.agg (enC v b p), .bool true]
  | none => .tuple #[.agg (enC false z16 0), .bool false]
end Go.Proofs.YtonafonhadocgaaGreatDoor
