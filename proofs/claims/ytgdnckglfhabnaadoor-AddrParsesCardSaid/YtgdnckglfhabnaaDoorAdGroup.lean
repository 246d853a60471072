/- addr.group, walked. -/
import Derived.Test.YtgdnckglfhabnaaDoorAdGrp
namespace Go.Proofs.YtgdnckglfhabnaaDoor
open Go.RowKit Go.Shelf

theorem or32_any : ∀ n : Nat, n < 256 → 0 ≤ bits BinOp.or IntKind.u8 (n : Int) 32 ∧ bits BinOp.or IntKind.u8 (n : Int) 32 ≤ 255 := by decide +kernel
theorem or32_letter : ∀ n : Nat, n < 256 → (97 ≤ n ∧ n ≤ 102 ∨ 65 ≤ n ∧ n ≤ 70) → 97 ≤ bits BinOp.or IntKind.u8 (n : Int) 32 ∧ bits BinOp.or IntKind.u8 (n : Int) 32 ≤ 102 := by decide +kernel
theorem or32_none : ∀ n : Nat, n < 256 → ¬ (97 ≤ n ∧ n ≤ 102 ∨ 65 ≤ n ∧ n ≤ 70) → bits BinOp.or IntKind.u8 (n : Int) 32 < 97 ∨ 97 ≤ bits BinOp.or IntKind.u8 (n : Int) 32 ∧ 102 < bits BinOp.or IntKind.u8 (n : Int) 32 := by decide +kernel

/-- What addr.group returns. -/
def GrpEnd (s : ByteArray) (e : Ending) : Prop := ∃ v : Int, e = .returned (.tuple #[.int .u16 v, .bool (grpB s)]) ∧ (grpB s = true → v = (grpN s : Int))
theorem grp_bad {s : ByteArray} {c : UInt8} (hc : c ∈ s.data.toList) (h : isHx c = false) : grpB s = false := by
  have : s.data.toList.all isHx = false := by
    rw [Bool.eq_false_iff]
    intro e
    rw [List.all_eq_true] at e
    rw [e c hc] at h
    cases h
  simp only [grpB, this, Bool.false_and]

set_option maxRecDepth 100000 in
set_option maxHeartbeats 8000000 in
theorem group_any (s : ByteArray) (hlim : s.size ≤ 281474976710656) (w : World) (env : Env w) :
    Calls Tryd.prog 51 #[.string s] w fun e w' => GrpEnd s e ∧ Below w.heap.size w w' := by
  have HL := Lib.hid (show s.data.toList.length = s.size from rfl)
  have HE := Lib.hid env
  clear env
  go_enter Tryd.func51, Tryd.ntmps51
  go_wp2_with fail
  go_loop [10] (fun i => ∃ k : Nat, k ≤ s.size ∧ i = .int .i64 k ∧ Hid (∀ c ∈ s.data.toList.take k, isHx c = true)) (fun i => s.size - (intOf i).toNat)
  case atStart => exact ⟨0, by omega, rfl, Lib.hid (fun c h => by simp at h)⟩
  case round =>
    obtain ⟨k, hk, rfl, hall⟩ := hrel
    by_cases hlt : k < s.size
    · have hc256 : s[k].toNat < 256 := s[k].toNat_lt
      have HM := Lib.hid (show s[k] ∈ s.data.toList from by
        have : s[k] = s.data.toList[k]'(by rw [HL.out]; exact hlt) := rfl
        rw [this]
        exact List.getElem_mem _)
      have HT := Lib.hid (show s.data.toList.take (k + 1) = s.data.toList.take k ++ [s[k]] by
        rw [List.take_succ_eq_append_getElem (by rw [HL.out]; exact hlt)]; rfl)
      by_cases hx : isHx s[k] = true
      · have HN := Lib.hid (show ∀ c ∈ s.data.toList.take (k + 1), isHx c = true by
          intro c hc
          rw [HT.out] at hc
          rcases List.mem_append.1 hc with h | h
          · exact hall.out c h
          · rw [List.mem_singleton.1 h]; exact hx)
        simp only [isHx, Bool.or_eq_true, decide_eq_true_eq] at hx
        by_cases hd : 48 ≤ s[k].toNat ∧ s[k].toNat ≤ 57
        · obtain ⟨d0, d1⟩ := hd
          clear hx
          go_wp2_with fail
          go_round
          case rel => exact ⟨k + 1, by omega, by go_num, HN⟩
          case measure => simp [intOf]; omega
        · have hl : 97 ≤ s[k].toNat ∧ s[k].toNat ≤ 102 ∨ 65 ≤ s[k].toNat ∧ s[k].toNat ≤ 70 := by omega
          obtain ⟨o0, o1⟩ := or32_letter _ hc256 hl
          have hu : 57 < s[k].toNat := by omega
          clear hx hd hl
          go_wp2_with fail
          go_round
          case rel => exact ⟨k + 1, by omega, by go_num, HN⟩
          case measure => simp [intOf]; omega
      · have hxf : isHx s[k] = false := by simpa using hx
        have HF := Lib.hid (grp_bad HM.out hxf)
        simp only [isHx, Bool.or_eq_true, decide_eq_true_eq] at hx
        have hn : ¬ (97 ≤ s[k].toNat ∧ s[k].toNat ≤ 102 ∨ 65 ≤ s[k].toNat ∧ s[k].toNat ≤ 70) := by omega
        have ho := or32_none _ hc256 hn
        have hd : s[k].toNat < 48 ∨ 48 ≤ s[k].toNat ∧ 57 < s[k].toNat := by omega
        clear hx hxf hn
        rcases ho with o0 | ⟨o0, o1⟩ <;> rcases hd with d0 | ⟨d0, d1⟩
        all_goals
          go_wp2_with fail
          go_ret2
          exact ⟨⟨0, by rw [HF.out]; rfl, fun h => by rw [HF.out] at h; cases h⟩, Below.refl _ _⟩
    · obtain rfl : k = s.size := by omega
      have HA := Lib.hid (show ∀ c ∈ s.data.toList, isHx c = true by
        intro c hc
        exact hall.out c (by rw [← HL.out, List.take_length]; exact hc))
      go_wp2_with fail
      refine (phex_any s hlim HA.out _ HE.out).mono ?_
      rintro e w1 ⟨b, h⟩
      have B := Lib.hid b
      clear b
      rcases h with ⟨h0, n, hn, rfl⟩ | ⟨h0, z, t, p, z0, z1, rfl⟩
      · by_cases h4 : s.size ≤ 4
        · have HG := Lib.hid (show grpB s = true by
            simp only [grpB, List.all_eq_true.2 HA.out, decide_eq_true h4, decide_eq_true (show 1 ≤ s.size by omega), Bool.and_self])
          have HNn := Lib.hid (show grpN s = n by rw [grpN, hn]; rfl)
          obtain ⟨n', hn', hn3⟩ := phex_small s.data.toList 0 0 (by omega) (by rw [HL.out]; omega) HA.out
          rw [hn] at hn'
          obtain rfl : n = n' := Option.some.inj hn'
          have HH := Lib.hid hn
          have h4b : decide ((s.size : Int) ≤ 4) = true := decide_eq_true (by omega)
          clear hn hn' h0
          go_wp2_with fail
          go_ret2
          exact ⟨⟨n, by rw [HG.out]; rfl, fun _ => by rw [HNn.out]⟩, B.out⟩
        · have HG := Lib.hid (show grpB s = false by simp only [grpB, decide_eq_false h4, Bool.and_false])
          clear hn h0
          have h4b : decide ((s.size : Int) ≤ 4) = false := decide_eq_false (by omega)
          go_wp2_with fail
          go_ret2
          exact ⟨⟨_, by rw [HG.out]; rfl, fun h => by rw [HG.out] at h; cases h⟩, B.out⟩
      · have HG := Lib.hid (show grpB s = false by
          rw [Bool.eq_false_iff]
          intro hg
          simp only [grpB, Bool.and_eq_true, decide_eq_true_eq] at hg
          rcases h0 with h0 | h0
          · omega
          · obtain ⟨n', hn', _⟩ := phex_small s.data.toList 0 0 (by omega) (by rw [HL.out]; omega) HA.out
            rw [h0] at hn'
            cases hn')
        clear h0
        go_wp2_with fail
        go_ret2
        exact ⟨⟨_, by rw [HG.out]; rfl, fun h => by rw [HG.out] at h; cases h⟩, B.out⟩
end Go.Proofs.YtgdnckglfhabnaaDoor
