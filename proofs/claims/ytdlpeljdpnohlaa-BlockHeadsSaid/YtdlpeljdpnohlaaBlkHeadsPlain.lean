/- Plain laws for BlockHeads: what the frame and the head of a section's body read as. No program. -/
import Derived.Test.YtdlpeljdpnohlaaBlkKnown
import Derived.Test.YtdlpeljdpnohlaaBlkSec
import Derived.Test.YtdlpeljdpnohlaaBlkHead
namespace Go.Proofs.Ytdlpeljdpnohlaa
open Go.RowKit

/-- A number read where it was laid. -/
theorem numAt_laid (L : Bool) (a b r : List UInt8) (k m : Nat) (hk : a.length = k) (hm : b.length = m) : numAt L (a ++ (b ++ r)) k m = num L b := by
  subst hk; subst hm
  unfold numAt
  rw [if_pos (by simp)]
  simp

theorem numAt_first (L : Bool) (b r : List UInt8) (m : Nat) (hm : b.length = m) : numAt L (b ++ r) 0 m = num L b := by
  subst hm
  unfold numAt
  rw [if_pos (by simp)]
  simp

theorem body_form (L : Bool) (ma mi ln : Nat) (l : List UInt8) :
    bodyOf L ma mi ln l = bytesOf L 4 439041101 ++ (bytesOf L 2 ma ++ (bytesOf L 2 mi ++ (bytesOf L 8 ln ++ (l ++ List.replicate (padOf l.length) 0)))) := by
  simp [bodyOf]
theorem body_len (L : Bool) (ma mi ln : Nat) (l : List UInt8) : (bodyOf L ma mi ln l).length = 16 + l.length + padOf l.length := by
  simp [bodyOf, bytesOf_length]; omega
theorem body_mod (L : Bool) (ma mi ln : Nat) (l : List UInt8) : (bodyOf L ma mi ln l).length % 4 = 0 := by
  rw [body_len]; unfold padOf; omega
theorem body_order (L K : Bool) (ma mi ln : Nat) (l : List UInt8) : numAt K (bodyOf L ma mi ln l) 0 4 = num K (bytesOf L 4 439041101) := by
  rw [body_form, numAt_first K _ _ 4 (bytesOf_length _ _ _)]
theorem body_major (L : Bool) (ma mi ln : Nat) (l : List UInt8) (h : ma < 65536) : numAt L (bodyOf L ma mi ln l) 4 2 = ma := by
  rw [body_form, numAt_laid L _ _ _ 4 2 (bytesOf_length _ _ _) (bytesOf_length _ _ _), num_bytesOf]
  omega
theorem body_minor (L : Bool) (ma mi ln : Nat) (l : List UInt8) (h : mi < 65536) : numAt L (bodyOf L ma mi ln l) 6 2 = mi := by
  rw [body_form, ← List.append_assoc, numAt_laid L _ _ _ 6 2 (by simp [bytesOf_length]) (bytesOf_length _ _ _), num_bytesOf]
  omega
theorem body_long (L : Bool) (ma mi ln : Nat) (l : List UInt8) (h : ln < 18446744073709551616) : numAt L (bodyOf L ma mi ln l) 8 8 = ln := by
  rw [body_form, ← List.append_assoc, ← List.append_assoc, numAt_laid L _ _ _ 8 8 (by simp [bytesOf_length]) (bytesOf_length _ _ _), num_bytesOf]
  omega
theorem body_drop (L : Bool) (ma mi ln : Nat) (l : List UInt8) : (bodyOf L ma mi ln l).drop 16 = l ++ List.replicate (padOf l.length) 0 := by
  rw [body_form, ← List.append_assoc, ← List.append_assoc, ← List.append_assoc]
  rw [List.drop_left' (by simp [bytesOf_length])]

/-- The frame of a section tells which end is first. -/
theorem turn_frame (L : Bool) (ma mi ln : Nat) (l : List UInt8) : turnOf (frameOf L 168627466 (bodyOf L ma mi ln l)) = (L, 0) := by
  have hlen : (frameOf L 168627466 (bodyOf L ma mi ln l)).length = (bodyOf L ma mi ln l).length + 12 := by
    simp [frameOf, bytesOf_length]; omega
  have hb := body_len L ma mi ln l
  have h4 : (frameOf L 168627466 (bodyOf L ma mi ln l)).take 4 = bytesOf L 4 168627466 := by
    unfold frameOf
    rw [List.append_assoc, List.append_assoc]
    rw [List.take_left' (bytesOf_length _ _ _)]
  have h8 : ((frameOf L 168627466 (bodyOf L ma mi ln l)).drop 8).take 4 = bytesOf L 4 439041101 := by
    unfold frameOf
    rw [List.append_assoc, List.drop_left' (by simp [bytesOf_length]), body_form, List.append_assoc]
    rw [List.take_left' (bytesOf_length _ _ _)]
  have hs : bytesOf L 4 168627466 = secBytes := by cases L <;> decide
  unfold turnOf
  rw [h4, h8, hlen, hs, if_neg (by rw [List.take_of_length_le (by simp [secBytes] <;> omega)]; simp), if_neg (by omega)]
  cases L
  · rw [if_pos rfl]
  · rw [if_neg (by decide), if_pos rfl]

theorem head_wrong (L : Bool) (ma mi ln : Nat) (l : List UInt8) : headOf (!L) 168627466 (bodyOf L ma mi ln l) = headBad 120 := by
  have hb := body_len L ma mi ln l
  unfold headOf
  rw [if_neg (by simp), if_neg (by omega), if_pos]
  rw [body_order]
  cases L <;> decide
theorem head_other (L : Bool) (ma mi ln : Nat) (l : List UInt8) (h : ma < 65536) (h1 : ma ≠ 1) : headOf L 168627466 (bodyOf L ma mi ln l) = headBad 125 := by
  have hb := body_len L ma mi ln l
  unfold headOf
  rw [if_neg (by simp), if_neg (by omega), if_neg, if_pos]
  · rw [body_major L ma mi ln l h]; exact h1
  · rw [body_order]
    cases L <;> decide
theorem head_right (L : Bool) (mi : Nat) (ln : Int) (l : List UInt8) (h : mi < 65536) (h0 : -9223372036854775808 ≤ ln) (h1 : ln ≤ 9223372036854775807) :
    headOf L 168627466 (bodyOf L 1 mi (IntKind.u64.wrap ln).toNat l) = ⟨1, mi, ln, l ++ List.replicate (padOf l.length) 0, 0⟩ := by
  have hb := body_len L 1 mi (IntKind.u64.wrap ln).toNat l
  have hw := IntKind.wrap_u64 ln
  unfold headOf
  rw [if_neg (by simp), if_neg (by omega), if_neg, if_neg, body_minor _ _ _ _ _ h, body_long _ _ _ _ _ (by omega), body_drop]
  · congr 1
    rw [IntKind.wrap_i64]; omega
  · rw [body_major _ _ _ _ _ (by omega)]; simp
  · rw [body_order]
    cases L <;> decide
end Go.Proofs.Ytdlpeljdpnohlaa
