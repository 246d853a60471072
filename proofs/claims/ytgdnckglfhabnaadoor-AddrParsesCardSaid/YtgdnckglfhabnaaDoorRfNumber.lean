/- The reference's number. -/
import Derived.Test.YtgdnckglfhabnaaDoorAdEnds
namespace Go.Proofs.YtgdnckglfhabnaaDoor
open Go.RowKit Go.Shelf

def isDg (c : UInt8) : Bool := decide (48 ≤ c.toNat ∧ c.toNat ≤ 57)
/-- What a row of digits spells, behind what the digits before spell. -/
def decN : Nat → List UInt8 → Nat
  | acc, [] => acc
  | acc, c :: r => decN (acc * 10 + (c.toNat - 48)) r
theorem decN_nil (acc : Nat) : decN acc [] = acc := by unfold decN; rfl
theorem decN_cons (acc : Nat) (c : UInt8) (r : List UInt8) : decN acc (c :: r) = decN (acc * 10 + (c.toNat - 48)) r := by conv => lhs; unfold decN
/-- The number of a text, or none. -/
def numL (l : List UInt8) (most : Nat) : Option Nat :=
  if l.length < 1 ∨ 5 < l.length ∨ (l.head? = some 48 ∧ 1 < l.length) ∨ ¬ (l.all isDg = true) ∨ most < decN 0 l then none else some (decN 0 l)
def numV : Option Nat → Value
  | some n => .int .i64 (n : Int)
  | none => .int .i64 (-1)

theorem decN_snoc (c : UInt8) : ∀ (l : List UInt8) (acc : Nat), decN acc (l ++ [c]) = decN acc l * 10 + (c.toNat - 48)
  | [], _ => by rw [List.nil_append, decN_cons, decN_nil, decN_nil]
  | a :: r, acc => by rw [List.cons_append, decN_cons, decN_snoc c r, decN_cons]
theorem decN_lt : ∀ (l : List UInt8) (acc k : Nat), acc < 10 ^ k → l.all isDg = true → decN acc l < 10 ^ (k + l.length)
  | [], acc, k, h, _ => by rw [decN_nil]; exact h
  | c :: r, acc, k, h, ha => by
    rw [List.all_cons, Bool.and_eq_true] at ha
    have hc := ha.1
    simp only [isDg, decide_eq_true_eq] at hc
    have := decN_lt r (acc * 10 + (c.toNat - 48)) (k + 1) (by rw [Nat.pow_succ]; omega) ha.2
    rw [decN_cons, List.length_cons, show k + (r.length + 1) = k + 1 + r.length by omega]
    exact this

/-- No number that has more than one digit begins with a nought: decimal numerals, told by their digits. -/
theorem dec_of_digits : ∀ (l : List UInt8) (c : UInt8), (c :: l).all isDg = true → c ≠ 48 ∨ l = [] → dec (decN 0 (c :: l)) = c :: l := by
  intro l c ha h0
  obtain ⟨n, hn⟩ : ∃ n, n = l.length := ⟨_, rfl⟩
  induction n generalizing l with
  | zero =>
    obtain rfl : l = [] := List.eq_nil_of_length_eq_zero hn.symm
    rw [List.all_cons, Bool.and_eq_true] at ha
    have hc := ha.1
    simp only [isDg, decide_eq_true_eq] at hc
    rw [decN_cons, decN_nil, dec, Lib.decDigits_one (by omega)]
    congr 1
    apply UInt8.toNat_inj.1
    rw [UInt8.toNat_ofNat']
    omega
  | succ n ih =>
    obtain ⟨r, d, rfl⟩ : ∃ r d, l = r ++ [d] := by
      have hne : l ≠ [] := by intro e; rw [e] at hn; simp at hn
      exact ⟨l.dropLast, l.getLast hne, (List.dropLast_concat_getLast hne).symm⟩
    have hc0 : c ≠ 48 := by
      rcases h0 with h | h
      · exact h
      · simp at h
    have hac : (c :: r).all isDg = true := by
      rw [List.all_eq_true] at ha ⊢
      intro x hx
      exact ha x (by rcases List.mem_cons.1 hx with h | h <;> simp [h])
    have hd : isDg d = true := by
      rw [List.all_eq_true] at ha
      exact ha d (by simp)
    simp only [isDg, decide_eq_true_eq] at hd
    have ih' := ih r hac (.inl hc0) (by simp at hn; omega)
    have e : decN 0 (c :: (r ++ [d])) = decN 0 (c :: r) * 10 + (d.toNat - 48) := decN_snoc d (c :: r) 0
    have hpos : 1 ≤ decN 0 (c :: r) := by
      have hcc := hac
      rw [List.all_cons, Bool.and_eq_true] at hcc
      have hc := hcc.1
      simp only [isDg, decide_eq_true_eq] at hc
      have hmono : ∀ (l : List UInt8) (a : Nat), 1 ≤ a → 1 ≤ decN a l := by
        intro l
        induction l with
        | nil => intro a h; rw [decN_nil]; exact h
        | cons x r ih => intro a h; rw [decN_cons]; exact ih _ (by omega)
      rw [decN_cons]
      refine hmono r _ ?_
      have : c.toNat ≠ 48 := fun h => hc0 (UInt8.toNat_inj.1 h)
      omega
    rw [e, dec, Lib.decDigits, dif_neg (by omega), show (decN 0 (c :: r) * 10 + (d.toNat - 48)) / 10 = decN 0 (c :: r) by omega, show (decN 0 (c :: r) * 10 + (d.toNat - 48)) % 10 = d.toNat - 48 by omega]
    have ih2 : Lib.decDigits (decN 0 (c :: r)) = c :: r := ih'
    rw [ih2, List.cons_append]
    congr 3
    apply UInt8.toNat_inj.1
    rw [UInt8.toNat_ofNat']
    omega
/-- The digits of a number spell it. -/
theorem decN_dec (u : Nat) : decN 0 (dec u) = u := by
  unfold dec
  induction u using Nat.strongRecOn with
  | _ u ih =>
    rw [Lib.decDigits]
    split
    · rw [decN_cons, decN_nil, UInt8.toNat_ofNat']
      omega
    · rw [decN_snoc, ih (u / 10) (by omega), UInt8.toNat_ofNat']
      omega
theorem dec_all (u : Nat) : (dec u).all isDg = true := by
  rw [List.all_eq_true]
  intro c hc
  have := dec_digit u c hc
  simp only [isDg, decide_eq_true_eq]
  exact this
theorem dec_head (u : Nat) : (dec u).head? = some 48 → (dec u).length ≤ 1 := by
  unfold dec
  induction u using Nat.strongRecOn with
  | _ u ih =>
    rw [Lib.decDigits]
    split
    · intro _; simp
    · rename_i hu
      intro h
      have hne : Lib.decDigits (u / 10) ≠ [] := dec_ne (u / 10)
      have h2 : (Lib.decDigits (u / 10)).head? = some 48 := by
        cases he : Lib.decDigits (u / 10) with
        | nil => exact absurd he hne
        | cons a b => rw [he] at h; simpa using h
      have h3 := ih (u / 10) (by omega) h2
      -- u / 10 has one digit, a nought
      exfalso
      have h4 : Lib.decDigits (u / 10) = [48] := by
        cases he : Lib.decDigits (u / 10) with
        | nil => exact absurd he hne
        | cons a b =>
          rw [he] at h2 h3
          simp at h2 h3
          rw [h2, h3]
      have h5 := decN_dec (u / 10)
      unfold dec at h5
      rw [h4] at h5
      rw [decN_cons, decN_nil] at h5
      simp at h5
      omega
theorem dec_long (u : Nat) (h : 65536 ≤ u) : 5 ≤ (dec u).length := by
  have h1 := decN_lt (dec u) 0 0 (by decide) (dec_all u)
  rw [decN_dec, Nat.zero_add] at h1
  rcases Nat.lt_or_ge (dec u).length 5 with h2 | h2
  · exfalso
    have : 10 ^ (dec u).length ≤ 10 ^ 4 := Nat.pow_le_pow_right (by omega) (by omega)
    omega
  · exact h2
/-- The reference's number is the program's, up to a greatest one. -/
theorem num_unum (l : List UInt8) (most : Nat) (hm : most < 65536) : numL l most = match unum (mkB l) with | some n => if n ≤ most then some n else none | none => none := by
  have hun : unum (mkB l) = match Lib.parseUintB 64 l with | .ok u => if mkB (dec u) = mkB l then some u else none | _ => none := rfl
  cases hu : unum (mkB l) with
  | some n =>
    -- l is the numeral of n
    have hl : l = dec n := by
      rw [hun] at hu
      split at hu
      · split at hu
        · rename_i u _ he
          injection hu with hu
          subst hu
          injection he with he
          exact (List.toArray_inj he).symm
        · cases hu
      · cases hu
    subst hl
    show numL (dec n) most = if n ≤ most then some n else none
    rw [numL, decN_dec]
    by_cases hn : n ≤ most
    · rw [if_pos hn, if_neg]
      have h1 := dec_len16 n (by omega)
      have h2 := List.length_pos_iff.2 (dec_ne n)
      rintro (h | h | h | h | h)
      · omega
      · omega
      · have := dec_head n h.1
        omega
      · exact h (dec_all n)
      · omega
    · rw [if_neg hn, if_pos (.inr (.inr (.inr (.inr (by omega)))))]
  | none =>
    show numL l most = none
    rw [numL]
    split
    · rfl
    · rename_i h
      exfalso
      simp only [not_or, not_and, Nat.not_lt] at h
      obtain ⟨h1, h2, h3, h4, h5⟩ := h
      have h4' : l.all isDg = true := by simpa using h4
      cases l with
      | nil => simp at h1
      | cons c r =>
        have hd := dec_of_digits r c h4' (by
          by_cases hc : c = 48
          · right
            have := h3 (by rw [hc]; rfl)
            simp at this
            exact this
          · exact .inl hc)
        have hb := unum_dec (decN 0 (c :: r)) (by omega)
        rw [hd] at hb
        rw [hb] at hu
        cases hu
end Go.Proofs.YtgdnckglfhabnaaDoor
