/- ParseEnds: what the program's answer is, and the reference's. -/
import Derived.Test.YtgdnckglfhabnaaDoorRfParseL
namespace Go.Proofs.YtgdnckglfhabnaaDoor
open Go.RowKit Go.Shelf

/-- The address of an end, as it is written. -/
def frontT (v6 : Bool) (l : List UInt8) : List UInt8 := if v6 then 91 :: (printT v6 l ++ [93]) else printT v6 l
theorem endsT_front (v6 : Bool) (l : List UInt8) (p : Nat) : endsT v6 l p = frontT v6 l ++ 58 :: dec p := rfl
/-- The reference trims brackets only if both stand. -/
def rtrim (t : List UInt8) : List UInt8 := if 1 < t.length ∧ t[0]? = some 91 ∧ t[t.length - 1]? = some 93 then (t.drop 1).take (t.length - 2) else t
/-- The reference's answer at a colon behind which n is spelt. -/
def rAt (s : List UInt8) (k n : Nat) : Option (Bool × List UInt8 × Nat) := match parseA (rtrim (s.take k)) with
  | some (v, b) => if endsT v b n = s then some (v, b, n) else none
  | none => none

theorem no_colon_dec (p : Nat) : (58 : UInt8) ∉ dec p := fun hm => by have := dec_digit p 58 hm; simp at this
theorem last_at (a d : List UInt8) (h : (58 : UInt8) ∉ d) : Lib.lastIndexByte (mkB (a ++ 58 :: d)) 58 = (a.length : Int) := by
  have hg : ∀ j : Nat, (mkB (a ++ 58 :: d)).data[j]! = ((a ++ 58 :: d)[j]?).getD default := fun j => by
    show (a ++ 58 :: d).toArray[j]! = _
    rw [List.getElem!_toArray, List.getElem!_eq_getElem?_getD]
  have hz : (mkB (a ++ 58 :: d)).size = a.length + (d.length + 1) := by simp [mkB, ByteArray.size]
  have h0 : (a ++ 58 :: d)[a.length]? = some 58 := by simp
  have h1 : ∀ j, a.length < j → (a ++ 58 :: d)[j]? ≠ some 58 := by
    intro j hj e
    rw [List.getElem?_append_right (by omega), show j - a.length = (j - a.length - 1) + 1 by omega, List.getElem?_cons_succ] at e
    exact h (List.mem_of_getElem? e)
  rcases Lib.lastIndexByte_spec (mkB (a ++ 58 :: d)) 58 with ⟨_, hn⟩ | ⟨i, hi, he, h58, hn⟩
  · exfalso
    refine hn a.length (by omega) ?_
    rw [hg, h0]; rfl
  · rcases Nat.lt_trichotomy i a.length with hlt | rfl | hgt
    · exfalso
      refine hn a.length hlt (by omega) ?_
      rw [hg, h0]; rfl
    · exact he
    · exfalso
      have hil : i < (a ++ 58 :: d).length := by simp; omega
      refine h1 i hgt ?_
      rw [hg, List.getElem?_eq_getElem hil] at h58
      rw [List.getElem?_eq_getElem hil]
      have h3 : (((a ++ 58 :: d)[i]'hil).toNat : Int) = 58 := h58
      exact congrArg some (UInt8.toNat_inj.1 (by show _ = 58; omega))
theorem print4_chars (l : List UInt8) (hl : l.length = 16) : ∀ c ∈ printT false l, c ≠ 91 ∧ c ≠ 93 := by
  obtain ⟨b0, b1, b2, b3, b4, b5, b6, b7, b8, b9, b10, b11, b12, b13, b14, b15, rfl⟩ := sixteen l hl
  show ∀ c ∈ Lib.join [dec b0.toNat, dec b1.toNat, dec b2.toNat, dec b3.toNat] [46], _
  rw [join_two, join_two, join_two, Lib.join_one]
  have hd : ∀ n c, c ∈ dec n → c ≠ 91 ∧ c ≠ 93 := fun n c hm => by
    have := dec_digit n c hm
    refine ⟨?_, ?_⟩ <;> (rintro rfl; simp at this)
  intro c hc
  simp only [List.mem_append, List.mem_cons] at hc
  rcases hc with h | rfl | h | rfl | h | rfl | h
  · exact hd _ _ h
  · decide
  · exact hd _ _ h
  · decide
  · exact hd _ _ h
  · decide
  · exact hd _ _ h
theorem print_ne (v6 : Bool) (l : List UInt8) (hl : l.length = 16) (hm : mayB v6 l = true) : printT v6 l ≠ [] := by
  intro e
  have h := parse_print v6 l hl hm
  rw [e] at h
  revert h
  rw [show parseA [] = none by decide +kernel]
  simp
theorem trimB_front (v6 : Bool) (l : List UInt8) (hl : l.length = 16) : trimB (frontT v6 l) = printT v6 l := by
  cases v6 with
  | true =>
    rw [frontT, if_pos rfl, trimB, Lib.trimPrefix, Lib.hasPrefix, if_pos (by simp [List.isPrefixOf])]
    rw [show (91 :: (printT true l ++ [93])).drop ([91] : List UInt8).length = printT true l ++ [93] from rfl, Lib.trimSuffix, Lib.hasSuffix, if_pos (by rw [List.isSuffixOf_iff_suffix]; exact List.suffix_append _ _)]
    simp
  | false =>
    have hc := print4_chars l hl
    rw [frontT, if_neg (by decide), trimB, Lib.trimPrefix, Lib.hasPrefix, if_neg, Lib.trimSuffix, Lib.hasSuffix, if_neg]
    · rw [List.isSuffixOf_iff_suffix]
      rintro ⟨t, ht⟩
      exact (hc 93 (by rw [← ht]; simp)).2 rfl
    · rw [List.isPrefixOf_iff_prefix]
      rintro ⟨t, ht⟩
      exact (hc 91 (by rw [← ht]; simp)).1 rfl
theorem rtrim_front (v6 : Bool) (l : List UInt8) (hl : l.length = 16) : rtrim (frontT v6 l) = printT v6 l := by
  cases v6 with
  | true =>
    rw [frontT, if_pos rfl, rtrim, if_pos]
    · simp
    · refine ⟨by simp, rfl, ?_⟩
      simp
  | false =>
    have hc := print4_chars l hl
    rw [frontT, if_neg (by decide), rtrim, if_neg]
    rintro ⟨_, h, _⟩
    exact (hc 91 (List.mem_of_getElem? h)).1 rfl
theorem num_dec (p : Nat) (hp : p < 65536) : numL (dec p) 65535 = some p := by
  rw [num_unum _ _ (by omega), unum_dec p (by omega)]
  show (if p ≤ 65535 then some p else none) = _
  rw [if_pos (by omega)]
theorem numL_lt {l : List UInt8} {n : Nat} (h : numL l 65535 = some n) : n < 65536 := by
  unfold numL at h
  split at h
  · cases h
  · rename_i hc
    injection h with h
    omega

/-- What is written is read. -/
theorem pe_ends (v6 : Bool) (l : List UInt8) (p : Nat) (hl : l.length = 16) (hm : mayB v6 l = true) (hp : p < 65536) : peL (mkB (endsT v6 l p)) = some (v6, l, p) := by
  have hlast := last_at (frontT v6 l) (dec p) (no_colon_dec p)
  rw [peL, endsT_front, hlast, if_neg (by omega), Int.toNat_natCast]
  show peAt (frontT v6 l ++ 58 :: dec p) (frontT v6 l).length = _
  have h1 : (frontT v6 l ++ 58 :: dec p).take (frontT v6 l).length = frontT v6 l := by simp
  have h2 : (frontT v6 l ++ 58 :: dec p).drop ((frontT v6 l).length + 1) = dec p := by simp
  have h3 : parse3 (printT v6 l) = (v6, l, 0) := by rw [parse3, parse_print v6 l hl hm]
  have h4 : unum2 (mkB (dec p)) = (p, true) := by rw [unum2, unum_dec p (by omega)]
  rw [peAt, h1, h2, trimB_front v6 l hl, h3, h4]
  show (if (0 : Int) = 0 ∧ true = true ∧ endsT v6 l (p % 65536) = frontT v6 l ++ 58 :: dec p then some (v6, l, p % 65536) else none) = _
  rw [show p % 65536 = p by omega, if_pos ⟨rfl, rfl, rfl⟩]
/-- What is read is written. -/
theorem pe_sound {s : ByteArray} {v6 : Bool} {l : List UInt8} {p : Nat} (h : peL s = some (v6, l, p)) : endsT v6 l p = s.data.toList ∧ l.length = 16 ∧ mayB v6 l = true ∧ p < 65536 := by
  unfold peL at h
  split at h
  · cases h
  · unfold peAt at h
    split at h
    · rename_i hc
      injection h with h
      injection h with h1 h
      injection h with h2 h3
      have hk := parse3_ok (trimB (s.data.toList.take (Lib.lastIndexByte s 58).toNat))
      have h4 := hc.2.2
      rw [h1, h2, h3] at h4
      rw [h1, h2] at hk
      exact ⟨h4, hk.1, hk.2, by omega⟩
    · cases h
theorem rAt_sound {s : List UInt8} {k n : Nat} {x : Bool × List UInt8 × Nat} (hn : n < 65536) (h : rAt s k n = some x) : peL (mkB s) = some x := by
  unfold rAt at h
  split at h
  · rename_i v b hp
    split at h
    · rename_i he
      injection h with h
      subst h
      have hk := parseA_len hp
      rw [← he]
      exact pe_ends v b n hk.1 hk.2 hn
    · cases h
  · cases h
/-- Where no colon answers, none is read. -/
theorem rAt_none {s : List UInt8} (h : ∀ k n, s[k]? = some 58 → numL (s.drop (k + 1)) 65535 = some n → rAt s k n = none) : peL (mkB s) = none := by
  cases hx : peL (mkB s) with
  | none => rfl
  | some x =>
    exfalso
    obtain ⟨v6, l, p⟩ := x
    obtain ⟨he, hl, hm, hp⟩ := pe_sound hx
    have he' : frontT v6 l ++ 58 :: dec p = s := he
    have h1 : s[(frontT v6 l).length]? = some 58 := by rw [← he']; simp
    have h2 : s.drop ((frontT v6 l).length + 1) = dec p := by rw [← he']; simp
    have h3 : s.take (frontT v6 l).length = frontT v6 l := by rw [← he']; simp
    have := h (frontT v6 l).length p h1 (by rw [h2]; exact num_dec p hp)
    rw [rAt, h3, rtrim_front v6 l hl, parse_print v6 l hl hm] at this
    simp only [endsT_front, he', if_true] at this
    cases this
/-- The reference's answer, as a value. -/
def rpeV (s : ByteArray) : Value := match peL s with
  | some (v, b, p) => .tuple #[.agg (enC v b p), .bool true]
  | none => .tuple #[.agg (enC false z16 0), .bool false]
end Go.Proofs.YtgdnckglfhabnaaDoor
