/- The walk of BlockBack. -/
import Derived.Test.YtdlpeljdpnohlaaDoorBlkKnown
import Derived.Test.YtdlpeljdpnohlaaDoorBlkOpenYes
import Derived.Test.YtdlpeljdpnohlaaDoorBlkBackPlain
import Derived.Outline
namespace Go.Proofs.YtdlpeljdpnohlaaDoor
open Go.RowKit

theorem h16_bd {n : Int} (h : (Lit.int .u16 n).wf = true) : 0 ≤ n ∧ n ≤ 65535 := by
  simp [Lit.wf, IntKind.min, IntKind.max, IntKind.signed, IntKind.bits] at h
  omega
theorem h32_bd {n : Int} (h : (Lit.int .u32 n).wf = true) : 0 ≤ n ∧ n ≤ 4294967295 := by
  simp [Lit.wf, IntKind.min, IntKind.max, IntKind.signed, IntKind.bits] at h
  omega
theorem h8_bd {n : Int} (h : (Lit.int .u8 n).wf = true) : 0 ≤ n ∧ n ≤ 255 := by
  simp [Lit.wf, IntKind.min, IntKind.max, IntKind.signed, IntKind.bits] at h
  omega
theorem h64_bd {n : Int} (h : (Lit.int .i64 n).wf = true) : -9223372036854775808 ≤ n ∧ n ≤ 9223372036854775807 := by
  simp [Lit.wf, IntKind.min, IntKind.max, IntKind.signed, IntKind.bits] at h
  omega

/-- A whole frame is opened as it was laid. -/
theorem open_frame (A : Option Addr) (n c m : Nat) (L : Bool) (off : Int) (k : Nat) (l o : List UInt8) (w : World) (hr : Rd w A (n + 12 + m) c (frameOf L k l ++ o)) (h0 : 0 ≤ off) (h1 : off ≤ 4611686018427387904)
    (hl : l.length = n) (hn : n ≤ 300) (hm : m ≤ 300) (h4 : n % 4 = 0) (hk : k < 4294967296) :
    Calls Tryd.prog 6 #[.slice A (n + 12 + m) c, .bool L, .int .i64 ((n : Int) + 12), .int .i64 off] w fun e w' =>
      ∃ A' c', e = .returned (.tuple #[.agg #[.int .u32 k, .slice A' n c'], .int .i64 ((n : Int) + 12), .nilIface]) ∧ Below w.heap.size w w' ∧ Rd w' A' n c' l := by
  subst hl
  have h := open_yes A (l.length + 12 + m) c (l.length + 12) k L ((l.length : Int) + 12) off (frameOf L k l ++ o) w hr h0 h1 (by omega) (by omega) (by omega)
    (by rw [size_of L k l o _ _ hn h4 (by rw [List.length_append, frame_len]; omega) rfl, if_neg (by omega)]) (frame_end L k l o hn) (frame_kind L k l o hk)
  rw [frame_body, show l.length + 12 - 12 = l.length by omega, show ((l.length + 12 : Nat) : Int) = (l.length : Int) + 12 by omega] at h
  exact h

/-- Cut off anywhere a frame is too short. -/
theorem open_cutoff (A : Option Addr) (n c at_ : Nat) (L : Bool) (off : Int) (k : Nat) (l : List UInt8) (w : World) (hr : Rd w A at_ c ((frameOf L k l).take at_)) (h0 : 0 ≤ off) (h1 : off ≤ 4611686018427387904)
    (hl : l.length = n) (hn : n ≤ 300) (h4 : n % 4 = 0) (ha : at_ < n + 12) :
    Calls Tryd.prog 6 #[.slice A at_ c, .bool L, .int .i64 ((n : Int) + 12), .int .i64 off] w (BadEnd w 121 (off + at_)) := by
  have hlen : ((frameOf L k l).take at_).length = at_ := hr.1
  subst hl
  by_cases h8 : at_ < 8
  · exact open_short A at_ c L _ off _ w hr h0 h1 (by omega) (size_short L _ _ (by omega))
  · refine open_cut A at_ c (l.length + 12) L _ off _ w hr h0 h1 (by omega) ha ?_
    rw [size_of L k l [] _ _ hn h4 (by omega) (take_frame L k l [] at_ (by omega)), if_neg (by omega)]

/-- With a cap below its length it is refused. -/
theorem open_capped (A : Option Addr) (n c m : Nat) (L : Bool) (off : Int) (k : Nat) (l o : List UInt8) (w : World) (hr : Rd w A (n + 12 + m) c (frameOf L k l ++ o)) (h0 : 0 ≤ off) (h1 : off ≤ 4611686018427387904)
    (hl : l.length = n) (hn : n ≤ 300) (h4 : n % 4 = 0) :
    Calls Tryd.prog 6 #[.slice A (n + 12 + m) c, .bool L, .int .i64 ((n : Int) + 12 - 1), .int .i64 off] w (BadEnd w 122 (off + 4)) := by
  subst hl
  exact open_snap A _ c L _ off _ w hr h0 h1 (by rw [size_of L k l o _ _ hn h4 (by rw [List.length_append, frame_len]; omega) rfl, if_pos (by omega)])

/-- With another byte in its end it is none. -/
theorem open_harmed (A : Option Addr) (n c m j : Nat) (L : Bool) (off : Int) (k : Nat) (l o : List UInt8) (u : UInt8) (w : World) (hr : Rd w A (n + 12 + m) c ((frameOf L k l ++ o).set (n + 8 + j) u)) (h0 : 0 ≤ off) (h1 : off ≤ 4611686018427387904)
    (hl : l.length = n) (hn : n ≤ 300) (hm : m ≤ 300) (h4 : n % 4 = 0) (hj : j < 4) (hu : u ≠ (frameOf L k l ++ o)[n + 8 + j]?.getD 0) :
    Calls Tryd.prog 6 #[.slice A (n + 12 + m) c, .bool L, .int .i64 ((n : Int) + 12), .int .i64 off] w (BadEnd w 123 (off + ((n : Int) + 12) - 4)) := by
  subst hl
  have h := open_harm A (l.length + 12 + m) c (l.length + 12) _ L ((l.length : Int) + 12) off _ w hr h0 h1 (by omega) (by omega) (by omega)
    (by rw [size_of L k l o _ _ hn h4 (by rw [List.length_set, List.length_append, frame_len]; omega) (harm_front L k l o j u), if_neg (by omega)]) rfl (harm_end L k l o hn j u hj hu)
  rw [show ((l.length + 12 : Nat) : Int) = (l.length : Int) + 12 by omega] at h
  exact h

theorem own_at {w : World} {base n c : Nat} {A : Option Addr} {l : List UInt8} (h : Own w base (.slice A n c) l) (hn : 0 < n) : ∃ g, A = some ⟨g, 0, none⟩ ∧ base ≤ g ∧ g < w.heap.size := by
  obtain ⟨A', c', hv, hrd, ho⟩ := h.form
  injection hv with a b d
  subst a
  rcases ho with rfl | ho
  · obtain ⟨b, off, hb, _⟩ := hrd.2.2.2 (by omega)
    cases hb
  · exact ho

/-- A byte turned by another one that is not 0. -/
theorem xor_byte (x : UInt8) (h : Int) (h0 : 0 ≤ h) (h1 : h ≤ 255) (hz : h ≠ 0) :
    ∃ u : UInt8, bits .xor .u8 (x.toNat : Int) h = (u.toNat : Int) ∧ u ≠ x := by
  have hx := x.toNat_lt
  refine ⟨x ^^^ UInt8.ofNat h.toNat, ?_, fun e => ?_⟩
  · rw [u8_xor _ _ (by omega) (by omega) h0 (by omega), UInt8.toNat_xor, Int.toNat_natCast, UInt8.toNat_ofNat', Nat.mod_eq_of_lt (by omega)]
  · have e2 := congrArg (fun z => x ^^^ z) e
    simp only [← UInt8.xor_assoc, UInt8.xor_self, UInt8.zero_xor] at e2
    have e3 := congrArg UInt8.toNat e2
    rw [UInt8.toNat_ofNat', Nat.mod_eq_of_lt (by omega)] at e3
    simp at e3
    omega

set_option maxRecDepth 100000 in
set_option maxHeartbeats 3200000 in
theorem back_walk (kind : Int) (A : Option Addr) (n c : Nat) (L : Bool) (B : Option Addr) (m d : Nat) (off cut harm : Int) (l o : List UInt8) (w : World)
    (hk : (Lit.int .u32 kind).wf = true) (hr : Rd w A n c l) (hs : Rd w B m d o) (ho : (Lit.int .i64 off).wf = true) (hc : (Lit.int .u16 cut).wf = true) (hh : (Lit.int .u8 harm).wf = true) (hg : ErrType w) :
    Calls Tryd.prog 3 #[.agg #[.int .u32 kind, .slice A n c], .bool L, .slice B m d, .int .i64 off, .int .u16 cut, .int .u8 harm] w fun e w' => e = .returned (.bool true) ∧ Below w.heap.size w w' := by
  obtain ⟨i0, hi0, hz0, hz1, hz2⟩ := info_parts info_u8
  have HK := Lib.hid (h32_bd hk)
  have HC := Lib.hid (h16_bd hc)
  have HH := Lib.hid (h8_bd hh)
  have HOF := Lib.hid (h64_bd ho)
  have hnc := hr.2.1
  have hcm := hr.2.2.1
  have hmd := hs.2.1
  have hdm := hs.2.2.1
  have HR := Lib.hid hr
  have HS := Lib.hid hs
  have HG := Lib.hid hg
  clear hr hs hg hk ho hc hh
  go_enter Tryd.func3, Tryd.ntmps3
  go_wp2_with fail
  refine (known_any _).mono ?_
  rintro e w1 ⟨rfl, hb1⟩
  have k1 := (Blk.new w 25 #[.int .u32 kind, .slice A n c]).keep hb1
  have B1 := Lib.hid (below_box hb1)
  have q0 := k1.cell 0
  have q1 := k1.cell 1
  have K1 := Lib.hid k1
  simp at q0 q1
  clear k1 hb1
  by_cases hn : 300 < n
  · go_wp2
    go_ret
    exact ⟨rfl, B1.out⟩
  by_cases hm : 300 < m
  · go_wp2
    go_ret
    exact ⟨rfl, B1.out⟩
  by_cases ho0 : off < 0
  · go_wp2
    go_ret
    exact ⟨rfl, B1.out⟩
  by_cases ho1 : 4611686018427387904 < off
  · go_wp2
    go_ret
    exact ⟨rfl, B1.out⟩
  go_wp2_with fail
  by_cases h4 : n % 4 ≠ 0
  · have h4b : ((n : Int) % 4 != 0) = true := by rw [bne_iff_ne]; omega
    have h4c : ((n : Int) % 4 == 0) = false := by rw [beq_eq_false_iff_ne]; omega
    refine (bytes_no A n c L kind _ (by omega) h4).mono ?_
    rintro e w2 ⟨rfl, hb2⟩
    have k2 := K1.out.keep hb2
    have B2 := Lib.hid (B1.out.trans (hb2.mono B1.out.size))
    have r0 := k2.cell 0
    have r1 := k2.cell 1
    simp at r0 r1
    clear k2 hb2 K1 B1 q0 q1
    go_wp2
    go_ret
    exact ⟨rfl, B2.out⟩
  have h4' : n % 4 = 0 := by omega
  have h4b : ((n : Int) % 4 != 0) = false := by rw [bne_eq_false_iff_eq]; omega
  have h4c : ((n : Int) % 4 == 0) = true := by rw [beq_iff_eq]; omega
  clear h4
  refine (bytes_yes A n c L kind l _ (HR.out.below B1.out) HK.out.1 HK.out.2 (by omega) h4').mono ?_
  rintro e w2 ⟨A2, c2, rfl, hb2, ho2⟩
  have k2 := K1.out.keep hb2
  have B2 := Lib.hid (B1.out.trans (hb2.mono B1.out.size))
  have HF2 := Lib.hid ho2.rd
  have r0 := k2.cell 0
  have r1 := k2.cell 1
  have K2 := Lib.hid k2
  simp at r0 r1
  have hfr : l.length = n := HR.out.1
  have HFR := Lib.hid hfr
  clear k2 hb2 ho2 K1 B1 q0 q1 hfr
  have OW := Lib.hid (Own.lit (base := w2.heap.size) w2 [] #[] rfl (Nat.le_refl _) (by simp))
  have HC2 := Lib.hid (HF2.out.alloc (.cells #[] 5))
  go_wp2_with (at_builtin; refine wpList_append_rd _ rfl (.tmp 68) (.tmp 69) 23 rfl w2.heap.size i0 _ Tryd.underlying23 hi0 hz0 hz1 hz2 rfl _ [] rfl OW.out _ _ _ _ rfl HC2.out ?h63 ?h64 (n + 12) ?h65 ?_)
  case h63 => simp; omega
  case h64 => simp
  case h65 => simp
  intro A3 c3 w3 ho3 hb3 _ _
  have b23 : Below w2.heap.size w2 w3 := ((Below.refl _ _).alloc (Nat.le_refl _) _).trans hb3
  have HO3 := Lib.hid ho3
  have HB23 := Lib.hid b23
  have HS3 := Lib.hid (HS.out.below (B2.out.trans (b23.mono B2.out.size)))
  clear OW HC2 ho3 hb3 b23
  go_wp2_with (at_builtin; refine wpList_append_rd _ rfl (.tmp 70) (.tmp 71) 23 rfl w2.heap.size i0 _ Tryd.underlying23 hi0 hz0 hz1 hz2 rfl _ _ rfl HO3.out _ _ _ _ rfl HS3.out ?h63 ?h64 (n + 12 + m) ?h65 ?_)
  case h63 => rw [HO3.out.len_]; omega
  case h64 => exact HB23.out.size
  case h65 => rw [HO3.out.len_]
  intro A4 c4 w4 ho4 hb4 _ _
  have b24 : Below w2.heap.size w2 w4 := HB23.out.trans hb4
  have k4 := K2.out.keep b24
  have q0 := k4.cell 0
  have q1 := k4.cell 1
  simp at q0 q1
  have K4 := Lib.hid k4
  have HO4 := Lib.hid ho4
  have HF4 := Lib.hid (HF2.out.below b24)
  have hlt2 : w.heap.size < w2.heap.size := K2.out.lt
  have HBS := Lib.hid b24.size
  have B4 := Lib.hid (B2.out.trans (b24.mono B2.out.size))
  clear k4 b24 hb4 ho4 HB23 HO3 HS3 K2 HF2 B2 r0 r1
  obtain ⟨kn, hkn⟩ : ∃ kn : Nat, kind = (kn : Int) := ⟨kind.toNat, by have := HK.out; omega⟩
  subst hkn
  have hkn2 : kn ≤ 4294967295 := by have := HK.out; omega
  rw [Int.toNat_natCast] at HO4 HF4
  obtain ⟨cn, hcn⟩ : ∃ cn : Nat, cut = (cn : Int) := ⟨cut.toNat, by have := HC.out; omega⟩
  subst hcn
  have hcn2 : cn ≤ 65535 := by have := HC.out; omega
  have HY := Lib.hid (open_frame A4 n c4 m L off kn l o w4 HO4.out.rd ho0 ho1 HFR.out (by omega) (by omega) h4' (by omega))
  go_wp2_with fail
  refine HY.out.mono ?_
  rintro e w5 ⟨A5, c5, rfl, hb5, hr5⟩
  have k5 := K4.out.keep hb5
  have q0 := k5.cell 0
  have q1 := k5.cell 1
  simp at q0 q1
  have hlt5 := k5.lt
  have B5' := B4.out.trans (hb5.mono B4.out.size)
  have hv5 := conv_str (P := Tryd.prog) (hr5.alloc (.cells #[.int .u32 kn, .slice A5 n c5] 25)) 23 9 Tryd.underlying23 Tryd.underlying5 Tryd.underlying9
  have hv0 := conv_str (P := Tryd.prog) ((HR.out.below B5').alloc (.cells #[.int .u32 kn, .slice A5 n c5] 25)) 23 9 Tryd.underlying23 Tryd.underlying5 Tryd.underlying9
  have K5 := Lib.hid (k5.alloc (.cells #[.int .u32 kn, .slice A5 n c5] 25))
  have B5 := Lib.hid (B5'.alloc B5'.size (.cells #[.int .u32 kn, .slice A5 n c5] 25))
  have HO5 := Lib.hid ((HO4.out.below hb5).alloc (.cells #[.int .u32 kn, .slice A5 n c5] 25))
  have HF5 := Lib.hid ((HF4.out.below hb5).alloc (.cells #[.int .u32 kn, .slice A5 n c5] 25))
  obtain ⟨at_, hat⟩ : ∃ a : Nat, a = cn % (n + 12) := ⟨_, rfl⟩
  have hat2 : at_ < n + 12 := by rw [hat]; exact Nat.mod_lt _ (by omega)
  have hmod : (cn : Int) % ((n : Int) + 12) = (at_ : Int) := by rw [hat]; norm_cast
  have hac : at_ ≤ c2 := by have := HF5.out.2.1; omega
  have HG5 := Lib.hid (HG.out.below B5.out)
  have hatb : at_ ≤ 312 := by omega
  clear hb5 hr5 k5 K4 HO4 HF4 B4 HY B5' hat
  go_wp2_with fail
  generalize w5.alloc (.cells #[.int .u32 kn, .slice A5 n c5] 25) = w6 at *
  rw [hmod]
  clear hmod hv5 hv0
  refine (open_cutoff A2 n c2 at_ L off kn l w6 (by
    have h := HF5.out.cut (lo := 0) (hi := at_) (c' := c2) (A' := A2) (Nat.zero_le _) (by omega) (by omega) (Nat.le_refl _) (by intro _; cases A2 <;> simp [Addr.add])
    rwa [List.drop_zero, Nat.sub_zero] at h) ho0 ho1 HFR.out (by omega) h4' hat2).mono ?_
  rintro e w7 ⟨v7, rfl, he7, hb7⟩
  have HE7 := Lib.hid he7.is
  replace HG5 := Lib.hid (HG5.out.below hb7)
  replace K5 := Lib.hid (K5.out.keep hb7)
  replace HO5 := Lib.hid (HO5.out.below hb7)
  replace B5 := Lib.hid (B5.out.trans (hb7.mono B5.out.size))
  clear hb7 he7 HF5 q0 q1 hlt5
  go_wp2_with fail
  refine (lawIs_any v7 121 (off + at_) w7 HE7.out HG5.out).mono ?_
  rintro e w8 ⟨rfl, hb8⟩
  replace HG5 := Lib.hid (HG5.out.below hb8)
  replace K5 := Lib.hid (K5.out.keep hb8)
  replace HO5 := Lib.hid (HO5.out.below hb8)
  replace B5 := Lib.hid (B5.out.trans (hb8.mono B5.out.size))
  clear hb8 HE7
  go_wp2_with fail
  refine (open_capped A4 n c4 m L off kn l o w8 HO5.out.rd ho0 ho1 HFR.out (by omega) h4').mono ?_
  rintro e w9 ⟨v9, rfl, he9, hb9⟩
  have HE9 := Lib.hid he9.is
  replace HG5 := Lib.hid (HG5.out.below hb9)
  replace HO5 := Lib.hid (HO5.out.below hb9)
  replace B5 := Lib.hid (B5.out.trans (hb9.mono B5.out.size))
  clear hb9 he9
  go_wp2_with fail
  refine (lawIs_any v9 122 (off + 4) w9 HE9.out HG5.out).mono ?_
  rintro e w10 ⟨rfl, hb10⟩
  replace HG5 := Lib.hid (HG5.out.below hb10)
  replace HO5 := Lib.hid (HO5.out.below hb10)
  replace B5 := Lib.hid (B5.out.trans (hb10.mono B5.out.size))
  clear hb10 HE9
  have hh0 := HH.out.1
  have hh1 := HH.out.2
  by_cases hz : harm = 0
  · subst hz
    go_wp2
    go_ret
    exact ⟨rfl, B5.out⟩
  have hzb : (harm == 0) = false := by rw [beq_eq_false_iff_ne]; exact hz
  obtain ⟨g, rfl, hg1, hg2⟩ := own_at HO5.out (by omega)
  obtain ⟨j, hj⟩ : ∃ j : Nat, j = cn % 4 := ⟨_, rfl⟩
  have hj4 : j < 4 := by omega
  have hjm : (cn : Int) % 4 = (j : Int) := by omega
  clear hj
  obtain ⟨x, hx⟩ : ∃ x, (frameOf L kn l ++ o)[n + 8 + j]?.getD 0 = x := ⟨_, rfl⟩
  obtain ⟨u, hu, hux⟩ := xor_byte x harm hh0 hh1 hz
  have hcell := HO5.out.cellAt (n + 8 + j) (by omega)
  have hfroz := HO5.out.frozenAt (n + 8 + j)
  rw [hx] at hcell
  have HX := Lib.hid hx
  have HUX := Lib.hid hux
  have HO6 := Lib.hid (HO5.out.stored (n + 8 + j) u)
  have hsum : (n : Int) + 12 - 4 + (j : Int) = ((n + 8 + j : Nat) : Int) := by omega
  clear hx hux HO5
  have hle : w.heap.size ≤ g := by omega
  go_wp2_with fail
  have HG6 := Lib.hid (show ErrType (w10.setCell ⟨g, n + 8 + j, none⟩ (.int .u8 u.toNat)) from (cell_far (by simp; omega) _).trans HG5.out)
  have B6 := Lib.hid (B5.out.setCell (p := ⟨g, n + 8 + j, none⟩) (by exact hle) (.int .u8 u.toNat))
  generalize w10.setCell ⟨g, n + 8 + j, none⟩ (.int .u8 u.toNat) = w11 at *
  clear hcell hfroz hu hsum hjm hzb B5 HG5
  refine (open_harmed (some ⟨g, 0, none⟩) n c4 m j L off kn l o u w11 HO6.out.rd ho0 ho1 HFR.out (by omega) (by omega) h4' hj4 (by rw [HX.out]; exact HUX.out)).mono ?_
  rintro e w12 ⟨v12, rfl, he12, hb12⟩
  have HE12 := Lib.hid he12.is
  replace HG6 := Lib.hid (HG6.out.below hb12)
  replace B6 := Lib.hid (B6.out.trans (hb12.mono B6.out.size))
  clear hb12 he12 HO6
  go_wp2_with fail
  refine (lawIs_any v12 123 _ w12 HE12.out HG6.out).mono ?_
  rintro e w13 ⟨rfl, hb13⟩
  replace B6 := Lib.hid (B6.out.trans (hb13.mono B6.out.size))
  clear hb13 HE12
  go_wp2
  go_ret
  exact ⟨rfl, B6.out⟩
end Go.Proofs.YtdlpeljdpnohlaaDoor
