/- The walk of block.Open where all is well. -/
import Derived.Test.YtdlpeljdpnohlaaDoorBlkOpen
import Derived.Outline
namespace Go.Proofs.YtdlpeljdpnohlaaDoor
open Go.RowKit

theorem bodyCut {w : World} {A : Option Addr} {n c m : Nat} {l : List UInt8} (h : Rd w A n c l) (h12 : 12 ≤ m) (hm : m ≤ n) :
    Rd w (Option.map (fun x => ({ block := x.block, off := x.off + 8 } : Addr)) A) (m - 4 - 8) (c - 8) ((l.drop 8).take (m - 12)) := by
  have h2 := h.2.1
  have := h.cut (lo := 8) (hi := m - 4) (c' := c - 8) (by omega) (by omega) (by omega) (by omega) (Option.map (fun x => ({ block := x.block, off := x.off + 8 } : Addr)) A) (fun hlt => by
    cases h0 : A with
    | none => rfl
    | some a =>
      obtain ⟨b, off, hb, _⟩ := h.2.2.2 (by omega)
      rw [h0] at hb
      injection hb with hb
      subst hb
      simp [Addr.add_lit])
  rwa [show m - 4 - 8 = m - 12 by omega] at this ⊢

set_option maxRecDepth 100000 in
set_option maxHeartbeats 1600000 in
theorem open_yes (A : Option Addr) (n c m x : Nat) (L : Bool) (most off : Int) (l : List UInt8) (w : World) (hr : Rd w A n c l) (h0 : 0 ≤ off) (h1 : off ≤ 4611686018427387904) (hm12 : 12 ≤ m) (hm : m ≤ n) (hn : n ≤ 1000000) (hs : sizeOfs l L most = ((m : Int), 0))
    (hx : numAt L l (m - 4) 4 = m) (hk : numAt L l 0 4 = x) :
    Calls Tryd.prog 6 #[.slice A n c, .bool L, .int .i64 most, .int .i64 off] w fun e w' =>
      ∃ A' c', e = .returned (.tuple #[.agg #[.int .u32 x, .slice A' (m - 12) c'], .int .i64 m, .nilIface]) ∧ Below w.heap.size w w' ∧ Rd w' A' (m - 12) c' ((l.drop 8).take (m - 12)) := by
  obtain ⟨i0, hi0, hz0, hz1, hz2⟩ := info_parts info_u8
  have hnc := hr.2.1
  have hcm := hr.2.2.1
  have C := Lib.hid (size_any A n c L most l _ (hr.alloc (.cells #[.int .u32 0, .slice none 0 0] 25)))
  rw [hs] at C
  have HR := Lib.hid hr
  have HX := Lib.hid hx
  have HK := Lib.hid hk
  have hmi : (m : Int) ≤ (n : Int) := by omega
  have hmw : IntKind.u32.wrap (m : Int) = (m : Int) := by rw [IntKind.wrap_u32]; omega
  clear hr hs hx hk
  go_enter Tryd.func6, Tryd.ntmps6
  go_wp2_with fail
  refine C.out.mono ?_
  rintro e w1 ⟨rfl, hb1⟩
  have k0 := (Blk.new w 25 #[.int .u32 0, .slice none 0 0]).keep hb1
  have K0 := Lib.hid k0
  have B1 := Lib.hid (below_box hb1)
  have HR1 := Lib.hid ((HR.out.below B1.out).alloc (.cells #[.slice A n c, .bool L] 43))
  clear k0 hb1
  go_wp2_with fail
  refine (u32_any A n c L _ l _ HR1.out (by omega)).mono ?_
  rintro e w2 ⟨rfl, hb2⟩
  rw [show ((m : Int) - 4).toNat = m - 4 by omega, HX.out]
  have kr := (Blk.new w1 43 #[.slice A n c, .bool L]).keep hb2
  have r0 := kr.cell 0
  have r1 := kr.cell 1
  have hltr := kr.lt
  simp at r0 r1
  have KR := Lib.hid kr
  replace K0 := Lib.hid ((K0.out.alloc (.cells #[.slice A n c, .bool L] 43)).keep hb2)
  have HR2 := Lib.hid (HR1.out.below hb2)
  replace B1 := Lib.hid ((B1.out.alloc B1.out.size (.cells #[.slice A n c, .bool L] 43)).trans (hb2.mono (by have := B1.out.size; simp; omega)))
  clear hb2 HR1 kr
  have hb8 : (8 : Int) ≤ (m : Int) - 4 := by omega
  have hbc : (m : Int) - 4 ≤ (c : Int) := by omega
  have HC := Lib.hid ((bodyCut HR2.out hm12 hm).alloc (.cells #[] 5))
  have OW := Lib.hid (Own.lit (base := w2.heap.size) w2 [] #[] rfl (Nat.le_refl _) (by simp))
  go_wp2_with (at_builtin; refine wpList_append_rd _ rfl (.tmp 74) (.tmp 78) 23 rfl w2.heap.size i0 _ Tryd.underlying23 hi0 hz0 hz1 hz2 rfl _ [] rfl OW.out _ _ _ _ rfl HC.out ?h63 ?h64 (m - 12) ?h65 ?_)
  case h63 => simp; omega
  case h64 => simp
  case h65 => simp; omega
  intro A3 c3 w3 ho3 hb3 hg3 hat3
  have b23 : Below w2.heap.size w2 w3 := ((Below.refl _ _).alloc (Nat.le_refl _) _).trans hb3
  have kr := KR.out.keep b23
  have r0 := kr.cell 0
  have r1 := kr.cell 1
  have hltr := kr.lt
  simp at r0 r1
  have K3 := Lib.hid (K0.out.keep b23)
  have HR3 := Lib.hid (HR2.out.below b23)
  have HO3 := Lib.hid ho3
  have hlt2 : w.heap.size < w2.heap.size := K0.out.lt
  have B3 := Lib.hid (B1.out.trans (b23.mono B1.out.size))
  clear ho3 hb3 hg3 hat3 b23 HC OW K0 HR2 B1 KR kr hbc hb8 hmw
  go_wp2_with fail
  refine (u32_any A n c L 0 l _ HR3.out (by omega)).mono ?_
  rintro e w4 ⟨rfl, hb4⟩
  rw [show (0 : Int).toNat = 0 from rfl, HK.out]
  have k0 := K3.out.keep hb4
  have q0 := k0.cell 0
  have q1 := k0.cell 1
  have f0 := k0.frozen 0
  have f1 := k0.frozen 1
  have hlt := k0.lt
  simp at q0 q1
  have HO4 := Lib.hid (HO3.out.below hb4)
  have B4 := Lib.hid (B3.out.trans (hb4.mono B3.out.size))
  clear hb4 k0 K3 HR3 HO3 B3
  go_wp2
  refine bodyPost_ret (v := .tuple #[.agg #[.int .u32 x, .slice A3 (m - 12) c3], .int .i64 m, .nilIface]) (by simp [results, Tryd.results6, go_sem, q0, q1]) rfl ?_
  exact ⟨A3, c3, rfl, (B4.out.setCell (by exact Nat.le_refl _) _).setCell (by exact Nat.le_refl _) _, ((HO4.out.setCell (by exact hlt2) _).setCell (by exact hlt2) _).rd⟩
end Go.Proofs.YtdlpeljdpnohlaaDoor
