/- The reference's text of reasons. -/
import Derived.Test.YtajgnbhcgfgjjaaDoorKsText
namespace Go.Proofs.YtajgnbhcgfgjjaaDoor
open Go.RowKit Go.Shelf

theorem wordsUp_no (r k q : Nat) (hq : q = r / 2 ^ k) (h : q % 2 ≠ 1) : wordsUp r (k + 1) = wordsUp r k := by
  rw [wordsUp, if_neg (by rw [← hq]; exact h), List.append_nil]
theorem wordsUp_yes (r k q : Nat) (hq : q = r / 2 ^ k) (h : q % 2 = 1) : wordsUp r (k + 1) = wordsUp r k ++ [nameB[k]?.getD ⟨#[]⟩] := by
  rw [wordsUp, if_pos (by rw [← hq]; exact h)]
theorem half_step (r k q : Nat) (hq : q = r / 2 ^ k) : q / 2 = r / 2 ^ (k + 1) := by
  rw [hq, Nat.pow_succ, Nat.div_div_eq_div_mul]
/-- A string that reads as a list. -/
def Reads (t : ByteArray) (l : List UInt8) : Prop := t = ⟨l.toArray⟩
theorem Reads.nil : Reads ⟨#[]⟩ [] := rfl
theorem reads_first {r k q : Nat} {t : ByteArray} (h : Reads t (joinC (wordsUp r k))) (he : t = ⟨#[]⟩) (hq : q = r / 2 ^ k) (hb : q % 2 = 1) (u : ByteArray) (hu : nameB[k]?.getD ⟨#[]⟩ = u) : Reads u (joinC (wordsUp r (k + 1))) := by
  have e : joinC (wordsUp r k) = [] := by
    have := h.symm.trans he
    simpa using congrArg (fun x : ByteArray => x.data.toList) this
  rw [wordsUp_yes r k q hq hb, joinC_snoc, e, hu]
  simp [Reads]
theorem reads_next {r k q : Nat} {t : ByteArray} (h : Reads t (joinC (wordsUp r k))) (he : ¬ t = ⟨#[]⟩) (hq : q = r / 2 ^ k) (hb : q % 2 = 1) (u : ByteArray) (hu : nameB[k]?.getD ⟨#[]⟩ = u) (x : ByteArray) (hx : x.data.toList = t.data.toList ++ 44 :: u.data.toList) : Reads x (joinC (wordsUp r (k + 1))) := by
  have et : t.data.toList = joinC (wordsUp r k) := by
    have := congrArg (fun x : ByteArray => x.data.toList) h
    simpa using this
  have e : (joinC (wordsUp r k)).isEmpty = false := by
    rw [← et]
    cases hl : t.data.toList with
    | nil => exact absurd (by cases t with | mk d => cases d with | mk l => simp at hl; rw [hl]) he
    | cons a b => rfl
  rw [wordsUp_yes r k q hq hb, joinC_snoc, e, hu, ← et]
  cases x with | mk d => cases d with | mk l => simp at hx; simp [Reads, hx]

theorem join_len (r k : Nat) : (joinC (wordsUp r k)).length ≤ 8 * k := by
  induction k with
  | zero => simp [wordsUp, joinC]
  | succ k ih =>
    by_cases hb : r / 2 ^ k % 2 = 1
    · rw [wordsUp_yes r k _ rfl hb, joinC_snoc]
      have := name_size k
      have e : (nameB[k]?.getD ⟨#[]⟩).data.toList.length = (nameB[k]?.getD ⟨#[]⟩).size := rfl
      split
      · rw [e]; omega
      · simp only [List.length_append, List.length_cons, e]; omega
    · rw [wordsUp_no r k _ rfl hb]; omega
theorem reads_size {r k : Nat} {t : ByteArray} (h : Reads t (joinC (wordsUp r k))) : t.size ≤ 8 * k := by
  rw [show t = _ from h]
  exact join_len r k
theorem ne_str {t : ByteArray} (h : ¬ t = ⟨#[]⟩) : t.toList.isEmpty = false := by
  rw [ByteArray.toList_eq]
  cases hl : t.data.toList with
  | nil => exact absurd (by cases t with | mk d => cases d with | mk l => simp at hl; rw [hl]) h
  | cons a b => rfl

set_option maxRecDepth 100000 in
set_option maxHeartbeats 8000000 in
theorem rtext_any (r : Nat) (hr : r < 256) (w : World) :
    Calls Tryd.prog 14 #[.int .u8 r] w fun e w' => e = .returned (.string ⟨(txt r).toArray⟩) ∧ Below w.heap.size w w' := by
  go_enter Tryd.func14, Tryd.ntmps14
  go_wp2_with fail
  have k := Blk.new w 9 #[.string ⟨#[118, 101, 114, 115, 105, 111, 110]⟩, .string ⟨#[109, 111, 100, 101]⟩, .string ⟨#[108, 101, 97, 112]⟩, .string ⟨#[115, 116, 114, 97, 116, 117, 109]⟩, .string ⟨#[114, 111, 111, 116]⟩, .string ⟨#[122, 101, 114, 111]⟩, .string ⟨#[111, 114, 100, 101, 114]⟩, .string ⟨#[115, 116, 97, 108, 101]⟩]
  have HB := Lib.hid ((Below.refl _ w).alloc (Nat.le_refl _) (.cells #[.string ⟨#[118, 101, 114, 115, 105, 111, 110]⟩, .string ⟨#[109, 111, 100, 101]⟩, .string ⟨#[108, 101, 97, 112]⟩, .string ⟨#[115, 116, 114, 97, 116, 117, 109]⟩, .string ⟨#[114, 111, 111, 116]⟩, .string ⟨#[122, 101, 114, 111]⟩, .string ⟨#[111, 114, 100, 101, 114]⟩, .string ⟨#[115, 116, 97, 108, 101]⟩] 9))
  generalize w.alloc (.cells #[.string ⟨#[118, 101, 114, 115, 105, 111, 110]⟩, .string ⟨#[109, 111, 100, 101]⟩, .string ⟨#[108, 101, 97, 112]⟩, .string ⟨#[115, 116, 114, 97, 116, 117, 109]⟩, .string ⟨#[114, 111, 111, 116]⟩, .string ⟨#[122, 101, 114, 111]⟩, .string ⟨#[111, 114, 100, 101, 114]⟩, .string ⟨#[115, 116, 97, 108, 101]⟩] 9) = w1 at *
  have K := Lib.hid k
  clear k
  go_loop [0, 4, 5] (fun q s i => ∃ (k n : Nat) (t : ByteArray), k ≤ 8 ∧ n < 256 ∧ i = .int .i64 k ∧ q = .int .u8 n ∧ s = .string t ∧ Hid (n = r / 2 ^ k) ∧ Hid (Reads t (joinC (wordsUp r k)))) (fun _ _ i => 8 - (intOf i).toNat)
  case atStart => exact ⟨0, r, _, by omega, hr, rfl, rfl, rfl, Lib.hid (by simp), Lib.hid Reads.nil⟩
  case round =>
    obtain ⟨k, n, t, hk, hn, rfl, rfl, rfl, hq, ht⟩ := hrel
    obtain rfl | rfl | rfl | rfl | rfl | rfl | rfl | rfl | rfl : k = 0 ∨ k = 1 ∨ k = 2 ∨ k = 3 ∨ k = 4 ∨ k = 5 ∨ k = 6 ∨ k = 7 ∨ k = 8 := by omega
    · have q := K.out.cell 0
      simp at q
      by_cases hb : n % 2 = 1
      · have hbb : (((n : Int) % 2) == 1) = true := by simp; omega
        have HQ := Lib.hid hb
        clear hb
        by_cases he : t = ⟨#[]⟩
        · have HR := Lib.hid (reads_first ht.out he hq.out HQ.out ⟨#[118, 101, 114, 115, 105, 111, 110]⟩ (by decide))
          subst he
          go_wp2_with fail
          go_round
          case rel => exact ⟨1, n / 2, _, by omega, by omega, rfl, by go_num, rfl, Lib.hid (half_step r 0 n hq.out), HR⟩
          case measure => simp [intOf]
        · have ee := ne_str he
          have HR := Lib.hid (reads_next ht.out he hq.out HQ.out ⟨#[118, 101, 114, 115, 105, 111, 110]⟩ (by decide))
          have hs := reads_size ht.out
          clear he
          go_wp2_with fail
          go_round
          case rel => exact ⟨1, n / 2, _, by omega, by omega, rfl, by go_num, rfl, Lib.hid (half_step r 0 n hq.out), Lib.hid (HR.out _ (by simp))⟩
          case measure => simp [intOf]
      · have hbb : (((n : Int) % 2) == 1) = false := by simp; omega
        have HR := Lib.hid (show Reads t (joinC (wordsUp r (0 + 1))) by rw [wordsUp_no r 0 n hq.out hb]; exact ht.out)
        clear hb
        go_wp2_with fail
        go_round
        case rel => exact ⟨1, n / 2, _, by omega, by omega, rfl, by go_num, rfl, Lib.hid (half_step r 0 n hq.out), HR⟩
        case measure => simp [intOf]
    · have q := K.out.cell 1
      simp at q
      by_cases hb : n % 2 = 1
      · have hbb : (((n : Int) % 2) == 1) = true := by simp; omega
        have HQ := Lib.hid hb
        clear hb
        by_cases he : t = ⟨#[]⟩
        · have HR := Lib.hid (reads_first ht.out he hq.out HQ.out ⟨#[109, 111, 100, 101]⟩ (by decide))
          subst he
          go_wp2_with fail
          go_round
          case rel => exact ⟨2, n / 2, _, by omega, by omega, rfl, by go_num, rfl, Lib.hid (half_step r 1 n hq.out), HR⟩
          case measure => simp [intOf]
        · have ee := ne_str he
          have HR := Lib.hid (reads_next ht.out he hq.out HQ.out ⟨#[109, 111, 100, 101]⟩ (by decide))
          have hs := reads_size ht.out
          clear he
          go_wp2_with fail
          go_round
          case rel => exact ⟨2, n / 2, _, by omega, by omega, rfl, by go_num, rfl, Lib.hid (half_step r 1 n hq.out), Lib.hid (HR.out _ (by simp))⟩
          case measure => simp [intOf]
      · have hbb : (((n : Int) % 2) == 1) = false := by simp; omega
        have HR := Lib.hid (show Reads t (joinC (wordsUp r (1 + 1))) by rw [wordsUp_no r 1 n hq.out hb]; exact ht.out)
        clear hb
        go_wp2_with fail
        go_round
        case rel => exact ⟨2, n / 2, _, by omega, by omega, rfl, by go_num, rfl, Lib.hid (half_step r 1 n hq.out), HR⟩
        case measure => simp [intOf]
    · have q := K.out.cell 2
      simp at q
      by_cases hb : n % 2 = 1
      · have hbb : (((n : Int) % 2) == 1) = true := by simp; omega
        have HQ := Lib.hid hb
        clear hb
        by_cases he : t = ⟨#[]⟩
        · have HR := Lib.hid (reads_first ht.out he hq.out HQ.out ⟨#[108, 101, 97, 112]⟩ (by decide))
          subst he
          go_wp2_with fail
          go_round
          case rel => exact ⟨3, n / 2, _, by omega, by omega, rfl, by go_num, rfl, Lib.hid (half_step r 2 n hq.out), HR⟩
          case measure => simp [intOf]
        · have ee := ne_str he
          have HR := Lib.hid (reads_next ht.out he hq.out HQ.out ⟨#[108, 101, 97, 112]⟩ (by decide))
          have hs := reads_size ht.out
          clear he
          go_wp2_with fail
          go_round
          case rel => exact ⟨3, n / 2, _, by omega, by omega, rfl, by go_num, rfl, Lib.hid (half_step r 2 n hq.out), Lib.hid (HR.out _ (by simp))⟩
          case measure => simp [intOf]
      · have hbb : (((n : Int) % 2) == 1) = false := by simp; omega
        have HR := Lib.hid (show Reads t (joinC (wordsUp r (2 + 1))) by rw [wordsUp_no r 2 n hq.out hb]; exact ht.out)
        clear hb
        go_wp2_with fail
        go_round
        case rel => exact ⟨3, n / 2, _, by omega, by omega, rfl, by go_num, rfl, Lib.hid (half_step r 2 n hq.out), HR⟩
        case measure => simp [intOf]
    · have q := K.out.cell 3
      simp at q
      by_cases hb : n % 2 = 1
      · have hbb : (((n : Int) % 2) == 1) = true := by simp; omega
        have HQ := Lib.hid hb
        clear hb
        by_cases he : t = ⟨#[]⟩
        · have HR := Lib.hid (reads_first ht.out he hq.out HQ.out ⟨#[115, 116, 114, 97, 116, 117, 109]⟩ (by decide))
          subst he
          go_wp2_with fail
          go_round
          case rel => exact ⟨4, n / 2, _, by omega, by omega, rfl, by go_num, rfl, Lib.hid (half_step r 3 n hq.out), HR⟩
          case measure => simp [intOf]
        · have ee := ne_str he
          have HR := Lib.hid (reads_next ht.out he hq.out HQ.out ⟨#[115, 116, 114, 97, 116, 117, 109]⟩ (by decide))
          have hs := reads_size ht.out
          clear he
          go_wp2_with fail
          go_round
          case rel => exact ⟨4, n / 2, _, by omega, by omega, rfl, by go_num, rfl, Lib.hid (half_step r 3 n hq.out), Lib.hid (HR.out _ (by simp))⟩
          case measure => simp [intOf]
      · have hbb : (((n : Int) % 2) == 1) = false := by simp; omega
        have HR := Lib.hid (show Reads t (joinC (wordsUp r (3 + 1))) by rw [wordsUp_no r 3 n hq.out hb]; exact ht.out)
        clear hb
        go_wp2_with fail
        go_round
        case rel => exact ⟨4, n / 2, _, by omega, by omega, rfl, by go_num, rfl, Lib.hid (half_step r 3 n hq.out), HR⟩
        case measure => simp [intOf]
    · have q := K.out.cell 4
      simp at q
      by_cases hb : n % 2 = 1
      · have hbb : (((n : Int) % 2) == 1) = true := by simp; omega
        have HQ := Lib.hid hb
        clear hb
        by_cases he : t = ⟨#[]⟩
        · have HR := Lib.hid (reads_first ht.out he hq.out HQ.out ⟨#[114, 111, 111, 116]⟩ (by decide))
          subst he
          go_wp2_with fail
          go_round
          case rel => exact ⟨5, n / 2, _, by omega, by omega, rfl, by go_num, rfl, Lib.hid (half_step r 4 n hq.out), HR⟩
          case measure => simp [intOf]
        · have ee := ne_str he
          have HR := Lib.hid (reads_next ht.out he hq.out HQ.out ⟨#[114, 111, 111, 116]⟩ (by decide))
          have hs := reads_size ht.out
          clear he
          go_wp2_with fail
          go_round
          case rel => exact ⟨5, n / 2, _, by omega, by omega, rfl, by go_num, rfl, Lib.hid (half_step r 4 n hq.out), Lib.hid (HR.out _ (by simp))⟩
          case measure => simp [intOf]
      · have hbb : (((n : Int) % 2) == 1) = false := by simp; omega
        have HR := Lib.hid (show Reads t (joinC (wordsUp r (4 + 1))) by rw [wordsUp_no r 4 n hq.out hb]; exact ht.out)
        clear hb
        go_wp2_with fail
        go_round
        case rel => exact ⟨5, n / 2, _, by omega, by omega, rfl, by go_num, rfl, Lib.hid (half_step r 4 n hq.out), HR⟩
        case measure => simp [intOf]
    · have q := K.out.cell 5
      simp at q
      by_cases hb : n % 2 = 1
      · have hbb : (((n : Int) % 2) == 1) = true := by simp; omega
        have HQ := Lib.hid hb
        clear hb
        by_cases he : t = ⟨#[]⟩
        · have HR := Lib.hid (reads_first ht.out he hq.out HQ.out ⟨#[122, 101, 114, 111]⟩ (by decide))
          subst he
          go_wp2_with fail
          go_round
          case rel => exact ⟨6, n / 2, _, by omega, by omega, rfl, by go_num, rfl, Lib.hid (half_step r 5 n hq.out), HR⟩
          case measure => simp [intOf]
        · have ee := ne_str he
          have HR := Lib.hid (reads_next ht.out he hq.out HQ.out ⟨#[122, 101, 114, 111]⟩ (by decide))
          have hs := reads_size ht.out
          clear he
          go_wp2_with fail
          go_round
          case rel => exact ⟨6, n / 2, _, by omega, by omega, rfl, by go_num, rfl, Lib.hid (half_step r 5 n hq.out), Lib.hid (HR.out _ (by simp))⟩
          case measure => simp [intOf]
      · have hbb : (((n : Int) % 2) == 1) = false := by simp; omega
        have HR := Lib.hid (show Reads t (joinC (wordsUp r (5 + 1))) by rw [wordsUp_no r 5 n hq.out hb]; exact ht.out)
        clear hb
        go_wp2_with fail
        go_round
        case rel => exact ⟨6, n / 2, _, by omega, by omega, rfl, by go_num, rfl, Lib.hid (half_step r 5 n hq.out), HR⟩
        case measure => simp [intOf]
    · have q := K.out.cell 6
      simp at q
      by_cases hb : n % 2 = 1
      · have hbb : (((n : Int) % 2) == 1) = true := by simp; omega
        have HQ := Lib.hid hb
        clear hb
        by_cases he : t = ⟨#[]⟩
        · have HR := Lib.hid (reads_first ht.out he hq.out HQ.out ⟨#[111, 114, 100, 101, 114]⟩ (by decide))
          subst he
          go_wp2_with fail
          go_round
          case rel => exact ⟨7, n / 2, _, by omega, by omega, rfl, by go_num, rfl, Lib.hid (half_step r 6 n hq.out), HR⟩
          case measure => simp [intOf]
        · have ee := ne_str he
          have HR := Lib.hid (reads_next ht.out he hq.out HQ.out ⟨#[111, 114, 100, 101, 114]⟩ (by decide))
          have hs := reads_size ht.out
          clear he
          go_wp2_with fail
          go_round
          case rel => exact ⟨7, n / 2, _, by omega, by omega, rfl, by go_num, rfl, Lib.hid (half_step r 6 n hq.out), Lib.hid (HR.out _ (by simp))⟩
          case measure => simp [intOf]
      · have hbb : (((n : Int) % 2) == 1) = false := by simp; omega
        have HR := Lib.hid (show Reads t (joinC (wordsUp r (6 + 1))) by rw [wordsUp_no r 6 n hq.out hb]; exact ht.out)
        clear hb
        go_wp2_with fail
        go_round
        case rel => exact ⟨7, n / 2, _, by omega, by omega, rfl, by go_num, rfl, Lib.hid (half_step r 6 n hq.out), HR⟩
        case measure => simp [intOf]
    · have q := K.out.cell 7
      simp at q
      by_cases hb : n % 2 = 1
      · have hbb : (((n : Int) % 2) == 1) = true := by simp; omega
        have HQ := Lib.hid hb
        clear hb
        by_cases he : t = ⟨#[]⟩
        · have HR := Lib.hid (reads_first ht.out he hq.out HQ.out ⟨#[115, 116, 97, 108, 101]⟩ (by decide))
          subst he
          go_wp2_with fail
          go_round
          case rel => exact ⟨8, n / 2, _, by omega, by omega, rfl, by go_num, rfl, Lib.hid (half_step r 7 n hq.out), HR⟩
          case measure => simp [intOf]
        · have ee := ne_str he
          have HR := Lib.hid (reads_next ht.out he hq.out HQ.out ⟨#[115, 116, 97, 108, 101]⟩ (by decide))
          have hs := reads_size ht.out
          clear he
          go_wp2_with fail
          go_round
          case rel => exact ⟨8, n / 2, _, by omega, by omega, rfl, by go_num, rfl, Lib.hid (half_step r 7 n hq.out), Lib.hid (HR.out _ (by simp))⟩
          case measure => simp [intOf]
      · have hbb : (((n : Int) % 2) == 1) = false := by simp; omega
        have HR := Lib.hid (show Reads t (joinC (wordsUp r (7 + 1))) by rw [wordsUp_no r 7 n hq.out hb]; exact ht.out)
        clear hb
        go_wp2_with fail
        go_round
        case rel => exact ⟨8, n / 2, _, by omega, by omega, rfl, by go_num, rfl, Lib.hid (half_step r 7 n hq.out), HR⟩
        case measure => simp [intOf]
    · go_wp2_with fail
      go_ret
      exact ⟨by rw [ht.out]; rfl, HB.out⟩
end Go.Proofs.YtajgnbhcgfgjjaaDoor
