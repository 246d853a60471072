/- The walks of block's Bytes and of its reference. -/
import Derived.Test.YtdlpeljdpnohlaaDoorPut
import Derived.Outline
namespace Go.Proofs.YtdlpeljdpnohlaaDoor
open Go.RowKit

/-- The frame of a block. -/
def frameOf (L : Bool) (kind : Nat) (l : List UInt8) : List UInt8 := bytesOf L 4 kind ++ bytesOf L 4 (l.length + 12) ++ l ++ bytesOf L 4 (l.length + 12)

set_option maxHeartbeats 400000 in
theorem bytes_no (A : Option Addr) (n c : Nat) (L : Bool) (kind : Int) (w : World) (h20 : n ≤ 1048576) (h4 : n % 4 ≠ 0) :
    Calls Tryd.prog 5 #[.agg #[.int .u32 kind, .slice A n c], .bool L] w fun e w' =>
      e = .returned (.tuple #[.slice none 0 0, .int .i64 2]) ∧ Below w.heap.size w w' := by
  have h4b : ((n : Int) % 4 != 0) = true := by rw [bne_iff_ne]; omega
  have h4c : ((n : Int) % 4 == 0) = false := by rw [beq_eq_false_iff_ne]; omega
  clear h4
  go_enter Tryd.func5, Tryd.ntmps5
  go_wp2
  go_ret2
  exact ⟨rfl, (Below.refl _ _).alloc (Nat.le_refl _) _⟩

set_option maxRecDepth 100000 in
set_option maxHeartbeats 1000000 in
theorem bytes_yes (A : Option Addr) (n c : Nat) (L : Bool) (kind : Int) (l : List UInt8) (w : World) (hr : Rd w A n c l) (hk : 0 ≤ kind) (hk2 : kind ≤ 4294967295) (h20 : n ≤ 1048576) (h4 : n % 4 = 0) :
    Calls Tryd.prog 5 #[.agg #[.int .u32 kind, .slice A n c], .bool L] w fun e w' =>
      ∃ A' c', e = .returned (.tuple #[.slice A' (n + 12) c', .int .i64 0]) ∧ Below w.heap.size w w' ∧ Own w' w.heap.size (.slice A' (n + 12) c') (frameOf L kind.toNat l) := by
  obtain ⟨i0, hi0, hz0, hz1, hz2⟩ := info_parts info_u8
  have h4b : ((n : Int) % 4 != 0) = false := by rw [bne_eq_false_iff_eq]; omega
  have h4c : ((n : Int) % 4 == 0) = true := by rw [beq_iff_eq]; omega
  have HN := Lib.hid hr.1
  clear h4
  go_enter Tryd.func5, Tryd.ntmps5
  go_wp2_with fail
  refine (put_any none 0 0 L kind 4 4 [] _ (Rd.nil _) hk (by omega) (by omega) (by omega) (by omega)).mono ?_
  rintro e w1 ⟨A1, c1, rfl, hb1, ho1⟩
  have k1 := (Blk.new w 25 #[.int .u32 kind, .slice A n c]).keep hb1
  have q1 := k1.cell 1
  have q0 := k1.cell 0
  have hR := (hr.alloc _).below hb1
  simp only [List.nil_append] at ho1
  have HO := Lib.hid ho1
  have b1 := below_box hb1
  have K1 := Lib.hid k1
  have HR := Lib.hid hR
  have B1 := Lib.hid b1
  have hzz := b1.size
  clear hb1 ho1 hr b1 hR k1
  simp at q0 q1
  go_wp2_with fail
  refine (put_any A1 4 c1 L (n + 12) 4 8 _ _ HO.out.rd (by omega) (by omega) (by omega) (by omega) (by omega)).mono ?_
  rintro e w2 ⟨A2, c2, rfl, hb2, ho2⟩
  have k2 := K1.out.keep hb2
  have q1 := k2.cell 1
  have hR := HR.out.below hb2
  have HO2 := Lib.hid ho2
  have B2 := Lib.hid (B1.out.trans (hb2.mono B1.out.size))
  have hz := hb2.size
  have hlt := k2.lt
  have K2 := Lib.hid k2
  clear k2 HO HR K1 B1 hb2 ho2
  simp at q1
  go_wp2_with (at_builtin; refine wpList_append_rd _ rfl _ _ 23 rfl w1.heap.size i0 _ Tryd.underlying23 hi0 hz0 hz1 hz2 rfl _ _ rfl (HO2.out.alloc _) A n c l rfl (hR.alloc _) ?h63 ?h64 (8 + n) ?h65 ?_)
  case h63 => rw [HO2.out.len_]; omega
  case h64 => simp; omega
  case h65 => rw [HO2.out.len_]
  intro A3 c3 w3 ho3 hb3 hg3 hat3
  have hne := HO2.out.ne_ (k := w2.heap.size) (.inl (Nat.le_refl _))
  have k3 := (Blk.new w2 43 #[.slice A2 8 c2, .bool L]).grown hg3 hne
  have p0 := k3.cell 0
  have p1 := k3.cell 1
  have p2 := k3.frozen 0
  have ho4 := ho3.setFar (a := ⟨w2.heap.size, 0, none⟩) (apart_after hat3 hne (by simp)) (.slice A3 (8 + n) c3)
  have HO4 := Lib.hid ho4
  have B3 := Lib.hid (((B2.out.alloc B2.out.size (.cells #[.slice A2 8 c2, .bool L] 43)).trans (hb3.mono hzz)).setCell (p := ⟨w2.heap.size, 0, none⟩) (by exact B2.out.size) (.slice A3 (8 + n) c3))
  clear k3 ho3 hb3 hg3 hat3 hne ho4 HO2 hR K2 B2 q0 q1
  simp at p0 p1
  go_wp2_with fail
  refine (put_any A3 (8 + n) c3 L (n + 12) 4 (n + 12) _ _ HO4.out.rd (by omega) (by omega) (by omega) (by omega) (by omega)).mono ?_
  rintro e w5 ⟨A5, c5, rfl, hb5, ho5⟩
  have HO5 := Lib.hid ho5
  have B5 := Lib.hid (B3.out.trans (hb5.mono B3.out.size))
  have HZ := Lib.hid B3.out.size
  clear hb5 ho5 HO4 B3
  have hfl := field_row0
  go_wp2
  go_ret2
  refine ⟨A5, c5, rfl, B5.out, ?_⟩
  have h := HO5.out.mono HZ.out
  unfold frameOf
  rw [HN.out]
  simp only [List.append_assoc, show ((n : Int) + 12).toNat = n + 12 by omega, show (4 : Int).toNat = 4 from rfl] at h ⊢
  exact h

end Go.Proofs.YtdlpeljdpnohlaaDoor
