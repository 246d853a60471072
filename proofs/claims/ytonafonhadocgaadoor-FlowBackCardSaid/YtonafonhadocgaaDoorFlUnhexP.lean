/- What text.Unhex has read behind so many bytes: plain. -/
import Derived.Test.YtonafonhadocgaaDoorQJ
namespace Go.Proofs.YtonafonhadocgaaDoor
open Go.RowKit

def dgB (c : Nat) : Bool := decide (48 ≤ c ∧ c ≤ 57) || decide (97 ≤ c ∧ c ≤ 102)
def dgN (c : Nat) : Nat := if dgB c then (if c ≤ 57 then c - 48 else c - 87) else 0
theorem isLo_dg (c : UInt8) : isLo c = dgB c.toNat := rfl
theorem loN_dg {c : UInt8} (h : isLo c = true) : loN c = dgN c.toNat := by
  rw [isLo_dg] at h
  rw [dgN, if_pos h]
  rfl
structure UnSt (l : List UInt8) (k : Nat) (pre : List UInt8) (hi : Nat) : Prop where
  eq : unhexL l = (unhexL (l.drop (2 * (k / 2)))).map (pre ++ ·)
  len : pre.length = k / 2
  odd : k % 2 = 1 → ∃ a, l[k - 1]? = some a ∧ isLo a = true ∧ hi = loN a
  hi16 : hi < 16
theorem UnSt.start (l : List UInt8) : UnSt l 0 [] 0 := ⟨by cases h : unhexL l <;> simp [h], rfl, fun h => absurd h (by decide), by omega⟩
section
variable {l pre : List UInt8} {k hi : Nat} {c : UInt8}
theorem drop_at (h : l[k]? = some c) : l.drop k = c :: l.drop (k + 1) := by
  have hk := (List.getElem?_eq_some_iff.1 h).1
  rw [List.drop_eq_getElem_cons hk]
  rw [List.getElem?_eq_getElem hk] at h
  injection h with h
  rw [h]
theorem un_head (h : isLo c = false) (r : List UInt8) : unhexL (c :: r) = none := by
  cases r with
  | nil => rfl
  | cons b r => rw [unhexL, h]; rfl
theorem un_second {a : UInt8} (h : isLo c = false) (r : List UInt8) : unhexL (a :: c :: r) = none := by
  rw [unhexL, h, Bool.and_false]; rfl
theorem UnSt.two (h : UnSt l k pre hi) (ho : k % 2 = 1) (hc : l[k]? = some c) : ∃ a, isLo a = true ∧ hi = loN a ∧ l.drop (2 * (k / 2)) = a :: c :: l.drop (k + 1) := by
  obtain ⟨a, h1, h2, h3⟩ := h.odd ho
  refine ⟨a, h2, h3, ?_⟩
  rw [show 2 * (k / 2) = k - 1 by omega, drop_at h1, show k - 1 + 1 = k by omega, drop_at hc]
theorem UnSt.bad (h : UnSt l k pre hi) (hc : l[k]? = some c) (hn : isLo c = false) : unhexL l = none := by
  rw [h.eq]
  rcases Nat.mod_two_eq_zero_or_one k with he | ho
  · rw [show 2 * (k / 2) = k by omega, drop_at hc, un_head hn]; rfl
  · obtain ⟨a, _, _, e⟩ := h.two ho hc
    rw [e, un_second hn]; rfl
theorem UnSt.even (h : UnSt l k pre hi) (he : k % 2 = 0) (hc : l[k]? = some c) (hn : isLo c = true) : UnSt l (k + 1) pre (loN c) :=
  ⟨by rw [h.eq, show 2 * ((k + 1) / 2) = 2 * (k / 2) by omega], by rw [h.len]; omega, fun _ => ⟨c, by rw [Nat.add_sub_cancel]; exact hc, hn, rfl⟩, (lo_hxd' hn).1⟩
theorem UnSt.more (h : UnSt l k pre hi) (ho : k % 2 = 1) (hc : l[k]? = some c) (hn : isLo c = true) : UnSt l (k + 1) (pre ++ [UInt8.ofNat (hi * 16 + loN c)]) hi := by
  obtain ⟨a, ha, e1, e2⟩ := h.two ho hc
  refine ⟨?_, by rw [List.length_append, h.len]; simp; omega, fun h2 => by omega, h.hi16⟩
  rw [h.eq, e2, unhexL, ha, hn, e1, show 2 * ((k + 1) / 2) = k + 1 by omega]
  cases unhexL (l.drop (k + 1)) with
  | none => rfl
  | some bs => simp
theorem UnSt.done (h : UnSt l k pre hi) (he : k % 2 = 0) (hk : l.length ≤ k) : unhexL l = some pre := by
  rw [h.eq, List.drop_eq_nil_of_le (by omega)]
  simp [unhexL]
theorem UnSt.half (h : UnSt l k pre hi) (ho : k % 2 = 1) (hk : l.length = k) : unhexL l = none := by
  obtain ⟨a, h1, _, _⟩ := h.odd ho
  rw [h.eq, show 2 * (k / 2) = k - 1 by omega, drop_at h1, List.drop_eq_nil_of_le (by omega)]
  rfl
end
end Go.Proofs.YtonafonhadocgaaDoor
