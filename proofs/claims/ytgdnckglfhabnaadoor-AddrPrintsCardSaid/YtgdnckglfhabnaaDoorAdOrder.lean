/- addr.Less is a strict order, and tells any two addresses apart. Plain laws, no program. -/
import Derived.Test.YtgdnckglfhabnaaDoorAdLess
namespace Go.Proofs.YtgdnckglfhabnaaDoor
open Go.RowKit Go.Shelf

theorem u8_lt (a b : UInt8) : a < b ↔ a.toNat < b.toNat := UInt8.lt_iff_toNat_lt
theorem cmp_swap : ∀ a b : List UInt8, Lib.compareBytes b a = - Lib.compareBytes a b
  | [], [] => rfl
  | [], _ :: _ => rfl
  | _ :: _, [] => rfl
  | x :: a, y :: b => by
    have ih := cmp_swap a b
    unfold Lib.compareBytes
    simp only [u8_lt]
    by_cases h1 : x.toNat < y.toNat
    · rw [if_neg (by omega), if_pos h1, if_pos h1]; rfl
    · by_cases h2 : y.toNat < x.toNat
      · rw [if_pos h2, if_neg h1, if_pos h2]
      · rw [if_neg h2, if_neg h1, if_neg h1, if_neg h2, ih]
theorem cmp_zero : ∀ a b : List UInt8, Lib.compareBytes a b = 0 → a = b
  | [], [], _ => rfl
  | [], _ :: _, h => by simp [Lib.compareBytes] at h
  | _ :: _, [], h => by simp [Lib.compareBytes] at h
  | x :: a, y :: b, h => by
    unfold Lib.compareBytes at h
    simp only [u8_lt] at h
    split at h
    · cases h
    · split at h
      · cases h
      · rw [cmp_zero a b h, UInt8.toNat_inj.1 (by omega : x.toNat = y.toNat)]
theorem cmp_self (a : List UInt8) : Lib.compareBytes a a = 0 := by
  have := cmp_swap a a
  omega
theorem cmp_trans : ∀ a b c : List UInt8, Lib.compareBytes a b < 0 → Lib.compareBytes b c < 0 → Lib.compareBytes a c < 0
  | [], [], _, h, _ => absurd h (by decide)
  | [], _ :: _, [], _, h => by simp [Lib.compareBytes] at h
  | [], _ :: _, _ :: _, _, _ => by show (-1 : Int) < 0; decide
  | _ :: _, [], _, h, _ => by simp [Lib.compareBytes] at h
  | _ :: _, _ :: _, [], _, h => by simp [Lib.compareBytes] at h
  | x :: a, y :: b, z :: c, h1, h2 => by
    have ih := cmp_trans a b c
    unfold Lib.compareBytes at h1 h2 ⊢
    simp only [u8_lt] at h1 h2 ⊢
    by_cases p1 : x.toNat < y.toNat
    · by_cases p2 : y.toNat < z.toNat
      · rw [if_pos (by omega)]; decide
      · rw [if_neg p2] at h2
        by_cases p3 : z.toNat < y.toNat
        · rw [if_pos p3] at h2; exact absurd h2 (by decide)
        · rw [if_pos (by omega)]; decide
    · rw [if_neg p1] at h1
      by_cases p2 : y.toNat < x.toNat
      · rw [if_pos p2] at h1; exact absurd h1 (by decide)
      · rw [if_neg p2] at h1
        by_cases p3 : y.toNat < z.toNat
        · rw [if_pos (by omega)]; decide
        · rw [if_neg p3] at h2
          by_cases p4 : z.toNat < y.toNat
          · rw [if_pos p4] at h2; exact absurd h2 (by decide)
          · rw [if_neg p4] at h2
            rw [if_neg (by omega), if_neg (by omega)]
            exact ih h1 h2

theorem less_self (u : Bool) (l : List UInt8) : lessB u l u l = false := by
  rw [lessB, if_pos rfl, cmp_self]
  rfl
theorem less_asym {u v : Bool} {l m : List UInt8} (h : lessB u l v m = true) : lessB v m u l = false := by
  unfold lessB at *
  by_cases e : u = v
  · subst e
    rw [if_pos rfl, decide_eq_true_eq] at h
    rw [if_pos rfl, decide_eq_false_iff_not, cmp_swap l m]
    omega
  · rw [if_neg e] at h
    rw [if_neg (fun h => e h.symm)]
    cases u <;> simp_all
theorem less_ne {u v : Bool} {l m : List UInt8} (h : lessB u l v m = true) : ¬ (u = v ∧ l = m) := by
  rintro ⟨rfl, rfl⟩
  rw [less_self] at h
  cases h
theorem less_total {u v : Bool} {l m : List UInt8} (h : ¬ (u = v ∧ l = m)) (hn : lessB u l v m = false) : lessB v m u l = true := by
  unfold lessB at *
  by_cases e : u = v
  · subst e
    rw [if_pos rfl, decide_eq_false_iff_not] at hn
    rw [if_pos rfl, decide_eq_true_eq]
    have h1 := cmp_swap l m
    have h2 : Lib.compareBytes l m ≠ 0 := fun e => h ⟨rfl, cmp_zero _ _ e⟩
    omega
  · rw [if_neg e] at hn
    rw [if_neg (fun h => e h.symm)]
    cases u <;> simp_all
theorem less_trans {u v x : Bool} {l m n : List UInt8} (h1 : lessB u l v m = true) (h2 : lessB v m x n = true) : lessB u l x n = true := by
  unfold lessB at *
  by_cases e1 : u = v
  · subst e1
    rw [if_pos rfl, decide_eq_true_eq] at h1
    by_cases e2 : u = x
    · subst e2
      rw [if_pos rfl, decide_eq_true_eq] at h2
      rw [if_pos rfl, decide_eq_true_eq]
      exact cmp_trans _ _ _ h1 h2
    · rw [if_neg e2] at h2 ⊢
      exact h2
  · rw [if_neg e1] at h1
    subst h1
    by_cases e2 : true = x
    · subst e2
      rw [if_neg e1]
    · rw [if_neg e2] at h2
      exact absurd h2.symm e2
end Go.Proofs.YtgdnckglfhabnaaDoor
