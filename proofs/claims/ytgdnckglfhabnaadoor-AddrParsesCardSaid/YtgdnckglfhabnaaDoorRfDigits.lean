/- The reference's digits, group, May. -/
import Derived.Test.YtgdnckglfhabnaaDoorAdEnds
namespace Go.Proofs.YtgdnckglfhabnaaDoor
open Go.RowKit Go.Shelf

/-- The digits of a number to a base. -/
def digsF : Nat → Nat → Nat → List UInt8
  | 0, _, _ => []
  | f + 1, n, b => if n < b then [hxd (n % b)] else digsF f (n / b) b ++ [hxd (n % b)]

theorem digsF_dec (f : Nat) : ∀ n, n < 2 ^ f → digsF (f + 1) n 10 = dec n := by
  unfold dec
  induction f with
  | zero =>
    intro n h
    have : n = 0 := by simpa using h
    subst this
    rw [Lib.decDigits]
    rfl
  | succ f ih =>
    intro n h
    rw [digsF, Lib.decDigits]
    have e : hxd (n % 10) = UInt8.ofNat (48 + n % 10) := by rw [hxd, if_pos (by omega)]
    by_cases hn : n < 10
    · rw [if_pos hn, dif_pos hn, e, Nat.mod_eq_of_lt hn]
    · rw [if_neg hn, dif_neg hn, ih (n / 10) (by rw [Nat.pow_succ] at h; omega), e]
theorem digsF_hex (n : Nat) (h : n < 65536) : digsF 17 n 16 = hex n := by
  unfold hex
  rw [digsF]
  by_cases h1 : n < 16
  · rw [if_pos h1, if_pos h1, Nat.mod_eq_of_lt h1]
  · rw [if_neg h1, if_neg h1, digsF]
    by_cases h2 : n < 256
    · rw [if_pos (by omega), if_pos h2, Nat.mod_eq_of_lt (by omega : n / 16 < 16)]
      rfl
    · rw [if_neg (by omega), if_neg h2, digsF]
      by_cases h3 : n < 4096
      · rw [if_pos (by omega), if_pos h3, Nat.mod_eq_of_lt (by omega : n / 16 / 16 < 16), Nat.div_div_eq_div_mul]
        rfl
      · rw [if_neg (by omega), if_neg h3, digsF, if_pos (by omega), Nat.mod_eq_of_lt (by omega : n / 16 / 16 / 16 < 16), show n / 16 / 16 / 16 = n / 4096 by omega, show n / 16 / 16 % 16 = n / 256 % 16 by omega]
        rfl
theorem digsF_len (f n b : Nat) : (digsF f n b).length ≤ f := by
  induction f generalizing n with
  | zero => exact Nat.le_refl _
  | succ f ih =>
    rw [digsF]
    split
    · simp
    · have := ih (n / b)
      simp; omega

set_option maxRecDepth 100000 in
set_option maxHeartbeats 4000000 in
theorem digits_any (b : Nat) (hb : 2 ≤ b) (hb2 : b ≤ 16) : ∀ (f : Nat) (n : Nat) (w : World), f ≤ 100 → n < b ^ f → n ≤ 65535 → 0 < f →
    Calls Tryd.prog 26 #[.int .i64 n, .int .i64 b] w fun e w' => e = .returned (.string ⟨(digsF f n b).toArray⟩) ∧ Below w.heap.size w w' := by
  intro f
  induction f with
  | zero => intro n w _ _ _ h; cases h
  | succ f ih =>
    intro n w hf hn h16 _
    have HI := Lib.hid (fun (h0 : 0 < f) (hd : n / b < b ^ f) W => ih (n / b) W (by omega) hd (Nat.le_trans (Nat.div_le_self n b) h16) h0)
    obtain ⟨r, hrd⟩ : ∃ r, r = n % b := ⟨_, rfl⟩
    obtain ⟨q, hqd⟩ : ∃ q, q = n / b := ⟨_, rfl⟩
    have hr16 : r < 16 := by rw [hrd]; exact Nat.lt_of_lt_of_le (Nat.mod_lt _ (by omega)) hb2
    have hq : (n : Int) / (b : Int) = (q : Int) := by rw [hqd]; rfl
    have hr : (n : Int) % (b : Int) = (r : Int) := by rw [hrd]; rfl
    have hq16 : q ≤ 65535 := by rw [hqd]; exact Nat.le_trans (Nat.div_le_self n b) h16
    have HD := Lib.hid (show digsF (f + 1) n b = if n < b then [hxd r] else digsF f q b ++ [hxd r] by rw [digsF, hrd, hqd])
    have HF : n < b ∨ (0 < f ∧ n / b < b ^ f) := by
      by_cases h : n < b
      · exact .inl h
      · refine .inr ⟨?_, ?_⟩
        · cases f with
          | zero => rw [Nat.pow_one] at hn; exact absurd hn h
          | succ f => omega
        · rw [Nat.pow_succ] at hn
          exact Nat.div_lt_of_lt_mul (by rw [Nat.mul_comm]; exact hn)
    rw [← hqd] at HI HF
    have hc : ((hxd r).toNat : Int) = if r ≤ 9 then 48 + (r : Int) else 87 + (r : Int) := by
      unfold hxd
      by_cases h : r ≤ 9
      · rw [if_pos (by omega), if_pos h, UInt8.toNat_ofNat']; omega
      · rw [if_neg (by omega), if_neg h, UInt8.toNat_ofNat']; omega
    have hw1 : IntKind.u8.wrap (48 + (r : Int)) = 48 + (r : Int) := by simp [IntKind.wrap, IntKind.bits, IntKind.signed]; omega
    have hw2 : IntKind.u8.wrap (87 + (r : Int)) = 87 + (r : Int) := by simp [IntKind.wrap, IntKind.bits, IntKind.signed]; omega
    have B1 := Lib.hid ((Below.refl _ w).alloc (Nat.le_refl _) (.cells (bv [hxd r]).toArray 5))
    have hv := conv_str (P := Tryd.prog) (w := w.alloc (.cells (bv [hxd r]).toArray 5)) (A := some ⟨w.heap.size, 0, none⟩) (n := 1) (c := 1) (l := [hxd r]) ⟨rfl, Nat.le_refl _, by omega, fun _ => ⟨w.heap.size, 0, rfl, fun k hk => by
      obtain rfl : k = 0 := by omega
      rw [World.cell?_alloc_new]; rfl⟩⟩ 33 9 Tryd.underlying33 Tryd.underlying5 Tryd.underlying9
    rw [show (bv [hxd r]).toArray = #[.int .u8 ((hxd r).toNat : Int)] from rfl] at hv B1
    have hl := digsF_len f q b
    have HL := Lib.hid (show ¬ 9223372036854775807 < (digsF f q b).length + 1 by omega)
    have HC := Lib.hid (ByteArray.mk_append_mk (digsF f q b) [hxd r])
    generalize digsF f q b = dq at *
    generalize hxd r = cc at *
    clear hrd hqd hn hl
    clear ih
    by_cases h9 : r ≤ 9
    · have h9' : ¬ (9 : Int) < (r : Int) := by omega
      rw [if_pos h9] at hc
      rw [hc] at hv B1
      generalize hW : w.alloc (.cells #[.int .u8 (48 + (r : Int))] 5) = w1 at *
      by_cases hnb : n < b
      · rw [if_pos hnb] at HD
        have hnb' : (n : Int) < (b : Int) := by omega
        go_enter Tryd.func26, Tryd.ntmps26
        go_wp2_with fail
        go_ret
        exact ⟨by rw [HD.out]; rfl, B1.out⟩
      · rw [if_neg hnb] at HD
        have hnb' : ¬ (n : Int) < (b : Int) := by omega
        obtain ⟨hf0, hqf⟩ := HF.resolve_left hnb
        have HJ := Lib.hid (HI.out hf0 hqf)
        clear HF hqf hf0 HI
        go_enter Tryd.func26, Tryd.ntmps26
        go_wp2_with fail
        refine (HJ.out _).mono ?_
        rintro e w2 ⟨rfl, bb⟩
        have B2 := Lib.hid (B1.out.trans (bb.mono B1.out.size))
        have hl := HL.out
        clear bb
        go_wp2_with fail
        go_ret
        exact ⟨by rw [HD.out, ← HC.out]; rfl, B2.out⟩
    · have h9' : (9 : Int) < (r : Int) := by omega
      rw [if_neg h9] at hc
      rw [hc] at hv B1
      generalize hW : w.alloc (.cells #[.int .u8 (87 + (r : Int))] 5) = w1 at *
      by_cases hnb : n < b
      · rw [if_pos hnb] at HD
        have hnb' : (n : Int) < (b : Int) := by omega
        go_enter Tryd.func26, Tryd.ntmps26
        go_wp2_with fail
        go_ret
        exact ⟨by rw [HD.out]; rfl, B1.out⟩
      · rw [if_neg hnb] at HD
        have hnb' : ¬ (n : Int) < (b : Int) := by omega
        obtain ⟨hf0, hqf⟩ := HF.resolve_left hnb
        have HJ := Lib.hid (HI.out hf0 hqf)
        clear HF hqf hf0 HI
        go_enter Tryd.func26, Tryd.ntmps26
        go_wp2_with fail
        refine (HJ.out _).mono ?_
        rintro e w2 ⟨rfl, bb⟩
        have B2 := Lib.hid (B1.out.trans (bb.mono B1.out.size))
        have hl := HL.out
        clear bb
        go_wp2_with fail
        go_ret
        exact ⟨by rw [HD.out, ← HC.out]; rfl, B2.out⟩

/-- Of a number of sixteen bits. -/
theorem digits10 (n : Nat) (h : n < 65536) (w : World) : Calls Tryd.prog 26 #[.int .i64 n, .int .i64 10] w fun e w' => e = .returned (.string ⟨(dec n).toArray⟩) ∧ Below w.heap.size w w' := by
  have := digits_any 10 (by omega) (by omega) 17 n w (by omega) (by omega) (by omega) (by omega)
  rw [digsF_dec 16 n h] at this
  exact this
theorem digits16 (n : Nat) (h : n < 65536) (w : World) : Calls Tryd.prog 26 #[.int .i64 n, .int .i64 16] w fun e w' => e = .returned (.string ⟨(hex n).toArray⟩) ∧ Below w.heap.size w w' := by
  have := digits_any 16 (by omega) (by omega) 17 n w (by omega) (by omega) (by omega) (by omega)
  rw [digsF_hex n h] at this
  exact this
end Go.Proofs.YtgdnckglfhabnaaDoor
