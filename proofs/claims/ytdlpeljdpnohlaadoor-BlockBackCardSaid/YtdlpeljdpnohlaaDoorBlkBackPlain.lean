/- Plain laws for BlockBack: what a frame reads as, whole, cut off, and harmed at its end. No program. -/
import Derived.Test.YtdlpeljdpnohlaaDoorBlkBytes
import Derived.Test.YtdlpeljdpnohlaaDoorBlkSize
namespace Go.Proofs.YtdlpeljdpnohlaaDoor
open Go.RowKit

theorem frame_len (L : Bool) (k : Nat) (l : List UInt8) : (frameOf L k l).length = l.length + 12 := by
  simp [frameOf, bytesOf_length]; omega
theorem frame_form (L : Bool) (k : Nat) (l r : List UInt8) : frameOf L k l ++ r = bytesOf L 4 k ++ (bytesOf L 4 (l.length + 12) ++ (l ++ (bytesOf L 4 (l.length + 12) ++ r))) := by
  simp [frameOf]
theorem frame_front (L : Bool) (k : Nat) (l r : List UInt8) : ((frameOf L k l ++ r).drop 4).take 4 = bytesOf L 4 (l.length + 12) := by
  rw [frame_form, List.drop_left' (bytesOf_length _ _ _), List.take_left' (bytesOf_length _ _ _)]
theorem frame_kind (L : Bool) (k : Nat) (l r : List UInt8) (hk : k < 4294967296) : numAt L (frameOf L k l ++ r) 0 4 = k := by
  unfold numAt
  rw [if_pos (by rw [List.length_append, frame_len]; omega), List.drop_zero, frame_form, List.take_left' (bytesOf_length _ _ _), num_bytesOf]
  omega
theorem frame_body (L : Bool) (k : Nat) (l r : List UInt8) : ((frameOf L k l ++ r).drop 8).take (l.length + 12 - 12) = l := by
  rw [frame_form, ← List.append_assoc, List.drop_left' (by simp [bytesOf_length])]
  rw [List.take_left' (by omega)]
theorem frame_tail (L : Bool) (k : Nat) (l r : List UInt8) : ((frameOf L k l ++ r).drop (l.length + 8)).take 4 = bytesOf L 4 (l.length + 12) := by
  rw [frame_form, ← List.append_assoc, ← List.append_assoc, List.drop_left' (by simp [bytesOf_length]; omega), List.take_left' (bytesOf_length _ _ _)]
theorem frame_end (L : Bool) (k : Nat) (l r : List UInt8) (hl : l.length ≤ 300) : numAt L (frameOf L k l ++ r) (l.length + 12 - 4) 4 = l.length + 12 := by
  unfold numAt
  rw [if_pos (by simp [frame_len]), show l.length + 12 - 4 = l.length + 8 by omega, frame_tail, num_bytesOf]
  omega

/-- What begins as the frame does has its length at its front. -/
theorem front_of (L : Bool) (k : Nat) (l r g : List UInt8) (hl : l.length ≤ 300) (h8 : 8 ≤ g.length) (hg : g.take 8 = (frameOf L k l ++ r).take 8) : numAt L g 4 4 = l.length + 12 := by
  unfold numAt
  have e : (g.drop 4).take 4 = (g.take 8).drop 4 := by rw [List.drop_take]
  have e2 : ((frameOf L k l ++ r).drop 4).take 4 = ((frameOf L k l ++ r).take 8).drop 4 := by rw [List.drop_take]
  rw [if_pos (by omega), e, hg, ← e2, frame_front, num_bytesOf]
  omega
theorem size_of (L : Bool) (k : Nat) (l r g : List UInt8) (most : Int) (hl : l.length ≤ 300) (h4 : l.length % 4 = 0) (h8 : 8 ≤ g.length) (hg : g.take 8 = (frameOf L k l ++ r).take 8) :
    sizeOfs g L most = if most < (l.length + 12 : Nat) then (0, 122) else (((l.length + 12 : Nat) : Int), 0) := by
  unfold sizeOfs
  rw [front_of L k l r g hl h8 hg, if_neg (by omega), if_neg (by omega)]
theorem size_short (L : Bool) (g : List UInt8) (most : Int) (h : g.length < 8) : sizeOfs g L most = (0, 121) := by
  unfold sizeOfs; rw [if_pos h]
theorem take_frame (L : Bool) (k : Nat) (l r : List UInt8) (at_ : Nat) (h8 : 8 ≤ at_) : ((frameOf L k l).take at_).take 8 = (frameOf L k l ++ r).take 8 := by
  rw [List.take_take, Nat.min_eq_left h8, List.take_append_of_le_length (by rw [frame_len]; omega)]

/-- A frame with one byte of its end turned. -/
theorem harm_front (L : Bool) (k : Nat) (l r : List UInt8) (j : Nat) (u : UInt8) : ((frameOf L k l ++ r).set (l.length + 8 + j) u).take 8 = (frameOf L k l ++ r).take 8 := by
  rw [List.take_set_of_le (by omega)]
theorem harm_end (L : Bool) (k : Nat) (l r : List UInt8) (hl : l.length ≤ 300) (j : Nat) (u : UInt8) (hj : j < 4) (hu : u ≠ (frameOf L k l ++ r)[l.length + 8 + j]?.getD 0) :
    numAt L ((frameOf L k l ++ r).set (l.length + 8 + j) u) (l.length + 12 - 4) 4 ≠ l.length + 12 := by
  have hF : (frameOf L k l ++ r).length = l.length + 12 + r.length := by simp [frame_len]
  intro h
  have h2 := frame_end L k l r hl
  unfold numAt at h h2
  rw [if_pos (by rw [List.length_set]; omega)] at h
  rw [if_pos (by omega)] at h2
  have e := num_inj L _ _ (by simp) (h.trans h2.symm)
  have e2 := congrArg (fun x => x[j]?) e
  simp only [List.getElem?_take, List.getElem?_drop, if_pos hj] at e2
  rw [show l.length + 12 - 4 + j = l.length + 8 + j by omega, List.getElem?_set_self (by omega)] at e2
  apply hu
  rw [← e2]
  rfl
end Go.Proofs.YtdlpeljdpnohlaaDoor
