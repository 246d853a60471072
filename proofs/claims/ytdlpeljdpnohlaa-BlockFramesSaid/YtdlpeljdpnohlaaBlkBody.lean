/- The walk of the reference's Body. -/
import Derived.Test.YtdlpeljdpnohlaaBlkSec
namespace Go.Proofs.Ytdlpeljdpnohlaa
open Go.RowKit

def sliceLen : Value → Nat
  | .slice _ n _ => n
  | _ => 0

set_option maxRecDepth 100000 in
set_option maxHeartbeats 3200000 in
theorem rbody (A : Option Addr) (n c : Nat) (L : Bool) (ma mi ln : Int) (l : List UInt8) (w : World) (hr : Rd w A n c l) (hn : n ≤ 1048576)
    (ha : 0 ≤ ma ∧ ma ≤ 65535) (hi : 0 ≤ mi ∧ mi ≤ 65535) :
    Calls Try.prog 13 #[.agg #[.int .u16 ma, .int .u16 mi, .int .i64 ln, .slice A n c], .bool L] w fun e w' =>
      ∃ A' c', e = .returned (.slice A' (16 + n + padOf n) c') ∧ Below w.heap.size w w' ∧
        Own w' w.heap.size (.slice A' (16 + n + padOf n) c') (bodyOf L ma.toNat mi.toNat (IntKind.u64.wrap ln).toNat l) := by
  obtain ⟨i0, hi0, hz0, hz1, hz2⟩ := info_parts info_u8
  obtain ⟨ha0, ha1⟩ := ha
  obtain ⟨hi0', hi1⟩ := hi
  have hln0 : 0 ≤ IntKind.u64.wrap ln := by rw [IntKind.wrap_u64]; omega
  have hln1 : IntKind.u64.wrap ln ≤ 18446744073709551615 := by rw [IntKind.wrap_u64]; omega
  have HLN := Lib.hid hln1
  clear hln1
  have hwa : IntKind.u64.wrap ma = ma := by rw [IntKind.wrap_u64]; omega
  have hwi : IntKind.u64.wrap mi = mi := by rw [IntKind.wrap_u64]; omega
  have HN := Lib.hid hr.1
  have HR := Lib.hid hr
  clear hr
  go_enter Try.func13, Try.ntmps13
  go_wp2_with fail
  refine (rput_any L 439041101 4 4 _ (by omega) (by omega) (by omega) (by omega) (by omega)).mono ?_
  rintro e w1 ⟨A1, c1, rfl, hb1, ho1⟩
  have k1 := (Blk.new w 42 #[.int .u16 ma, .int .u16 mi, .int .i64 ln, .slice A n c]).keep hb1
  have hlt1 := k1.lt
  have q0 := k1.cell 0
  have K1 := Lib.hid k1
  simp only [World.size_alloc] at ho1
  have HO1 := Lib.hid ho1
  have B1 := Lib.hid (below_box hb1)
  simp at q0
  clear k1 hb1 ho1
  go_wp2_with fail
  refine (rput_any L ma 2 2 _ (by omega) (by omega) (by omega) (by omega) (by omega)).mono ?_
  rintro e w2 ⟨A2, c2, rfl, hb2, ho2⟩
  have HP2 := Lib.hid ho2.rd
  have HO1' := Lib.hid (HO1.out.below hb2)
  have K2 := Lib.hid (K1.out.keep hb2)
  have B2 := Lib.hid (B1.out.trans (hb2.mono B1.out.size))
  have hlt2 := K2.out.lt
  clear hb2 ho2 HO1 K1 B1 hlt1 q0
  go_wp2_with (at_builtin; refine wpList_append_rd _ rfl (.tmp 8) (.tmp 13) 22 rfl (w.heap.size + 1) i0 _ Try.underlying22 hi0 hz0 hz1 hz2 rfl _ _ rfl HO1'.out _ _ _ _ rfl HP2.out ?h63 ?h64 (6) ?h65 ?_)
  case h63 => rw [HO1'.out.len_]; omega
  case h64 => omega
  case h65 => rw [HO1'.out.len_]
  intro A3 c3 w3 ho3 hb3 hg3 hat3
  have HO3 := Lib.hid ho3
  have k3 := K2.out.below hb3 (by omega)
  have q0 := k3.cell 1
  have hlt3 := k3.lt
  have K3 := Lib.hid k3
  have B3 := Lib.hid (B2.out.trans (hb3.mono (by omega)))
  simp at q0
  clear ho3 hb3 hg3 hat3 k3 K2 B2 hlt2 HO1' HP2
  go_wp2_with fail
  refine (rput_any L mi 2 2 _ (by omega) (by omega) (by omega) (by omega) (by omega)).mono ?_
  rintro e w4 ⟨A4, c4, rfl, hb4, ho4⟩
  have HP4 := Lib.hid ho4.rd
  have HO3' := Lib.hid (HO3.out.below hb4)
  have K4 := Lib.hid (K3.out.keep hb4)
  have B4 := Lib.hid (B3.out.trans (hb4.mono B3.out.size))
  have hlt4 := K4.out.lt
  clear hb4 ho4 HO3 K3 B3 hlt3 q0
  go_wp2_with (at_builtin; refine wpList_append_rd _ rfl (.tmp 15) (.tmp 20) 22 rfl (w.heap.size + 1) i0 _ Try.underlying22 hi0 hz0 hz1 hz2 rfl _ _ rfl HO3'.out _ _ _ _ rfl HP4.out ?h63 ?h64 (8) ?h65 ?_)
  case h63 => rw [HO3'.out.len_]; omega
  case h64 => omega
  case h65 => rw [HO3'.out.len_]
  intro A5 c5 w5 ho5 hb5 hg5 hat5
  have HO5 := Lib.hid ho5
  have k5 := K4.out.below hb5 (by omega)
  have q0 := k5.cell 2
  have hlt5 := k5.lt
  have K5 := Lib.hid k5
  have B5 := Lib.hid (B4.out.trans (hb5.mono (by omega)))
  simp at q0
  clear ho5 hb5 hg5 hat5 k5 K4 B4 hlt4 HO3' HP4
  go_wp2_with fail
  refine (rput_any L (IntKind.u64.wrap ln) 8 8 _ (by omega) HLN.out (by omega) (by omega) (by omega)).mono ?_
  rintro e w6 ⟨A6, c6, rfl, hb6, ho6⟩
  have HP6 := Lib.hid ho6.rd
  have HO5' := Lib.hid (HO5.out.below hb6)
  have K6 := Lib.hid (K5.out.keep hb6)
  have B6 := Lib.hid (B5.out.trans (hb6.mono B5.out.size))
  have hlt6 := K6.out.lt
  clear hb6 ho6 HO5 K5 B5 hlt5 q0
  go_wp2_with (at_builtin; refine wpList_append_rd _ rfl (.tmp 22) (.tmp 27) 22 rfl (w.heap.size + 1) i0 _ Try.underlying22 hi0 hz0 hz1 hz2 rfl _ _ rfl HO5'.out _ _ _ _ rfl HP6.out ?h63 ?h64 (16) ?h65 ?_)
  case h63 => rw [HO5'.out.len_]; omega
  case h64 => omega
  case h65 => rw [HO5'.out.len_]
  intro A7 c7 w7 ho7 hb7 hg7 hat7
  have HO7 := Lib.hid ho7
  have k7 := K6.out.below hb7 (by omega)
  have q0 := k7.cell 3
  have hlt7 := k7.lt
  have K7 := Lib.hid k7
  have B7 := Lib.hid (B6.out.trans (hb7.mono (by omega)))
  simp at q0
  clear ho7 hb7 hg7 hat7 k7 K6 B6 hlt6 HO5' HP6
  have HR7 := Lib.hid (HR.out.below B7.out)
  go_wp2_with (at_builtin; refine wpList_append_rd _ rfl (.tmp 29) (.tmp 31) 22 rfl (w.heap.size + 1) i0 _ Try.underlying22 hi0 hz0 hz1 hz2 rfl _ _ rfl HO7.out _ _ _ _ rfl HR7.out ?h63 ?h64 (16 + n) ?h65 ?_)
  case h63 => rw [HO7.out.len_]; omega
  case h64 => omega
  case h65 => rw [HO7.out.len_]
  intro A8 c8 w8 ho8 hb8 hg8 hat8
  have HO8 := Lib.hid ho8
  have k8 := K7.out.below hb8 (by omega)
  have q0 := k8.cell 3
  have hlt8 := k8.lt
  have K8 := Lib.hid k8
  have B8 := Lib.hid (B7.out.trans (hb8.mono (by omega)))
  simp at q0
  clear ho8 hb8 hg8 hat8 k8 K7 B7 hlt7 HO7 HR7
  go_wp2_with fail
  obtain ⟨body, hbody⟩ : ∃ body, body = bytesOf L 4 439041101 ++ bytesOf L 2 ma.toNat ++ bytesOf L 2 mi.toNat ++ bytesOf L 8 (IntKind.u64.wrap ln).toNat ++ l := ⟨_, rfl⟩
  have HB8 : Hid (Own w8 (w.heap.size + 1) (.slice A8 (16 + n) c8) (body ++ List.replicate 0 0)) := by
    unfold Hid
    rw [hbody]
    simpa using HO8.out
  have HBODY : Hid (bodyOf L ma.toNat mi.toNat (IntKind.u64.wrap ln).toNat l = body ++ List.replicate (padOf n) 0) := by
    unfold Hid bodyOf
    rw [hbody, HN.out]
  have hz8 : w.heap.size + 1 ≤ w8.heap.size := hlt8
  clear hbody HO8 K8 hlt8 q0
  have hpd : padOf n ≤ 3 := by unfold padOf; omega
  have HPD : Hid (∀ N : Nat, 16 + n ≤ N → N ≤ 16 + n + padOf n → (((N : Int) % 4 != 0) = true ↔ N < 16 + n + padOf n)) := by
    intro N h1 h2
    rw [bne_iff_ne]
    unfold padOf at h2 ⊢
    omega
  go_loopw [5] (fun o wr => ∃ (N : Nat) (A' : Option Addr) (c' : Nat), 16 + n ≤ N ∧ N ≤ 16 + n + padOf n ∧ o = .slice A' N c' ∧ Own wr (w.heap.size + 1) (.slice A' N c') (body ++ List.replicate (N - (16 + n)) 0) ∧ Below w.heap.size w wr ∧ w.heap.size + 1 ≤ wr.heap.size) (fun o _ => 16 + n + padOf n - sliceLen o)
  case atStart => exact ⟨16 + n, A8, c8, by omega, by omega, rfl, by simpa using HB8.out, B8.out, hz8⟩
  case round =>
    obtain ⟨N, A9, c9, hN1, hN2, rfl, ho9, hb9, hz9⟩ := hrel
    have HO9 := Lib.hid ho9
    have HB9 := Lib.hid hb9
    clear ho9 hb9 hz8 HB8 B8
    have hiff := HPD.out N hN1 hN2
    by_cases hlt : N < 16 + n + padOf n
    · have ht : ((N : Int) % 4 != 0) = true := hiff.2 hlt
      have ht2 : ((N : Int) % 4 == 0) = false := by simpa [bne] using ht
      have HR9 := Lib.hid (Own.lit (base := w.heap.size + 1) wr [0] #[.int .u8 0] rfl hz9 (by simp)).rd
      simp only [List.length_singleton] at HR9
      clear hiff
      go_wp2_with (at_builtin; refine wpList_append_rd _ rfl (.tmp 37) (.tmp 38) 22 rfl (w.heap.size + 1) i0 _ Try.underlying22 hi0 hz0 hz1 hz2 rfl _ _ rfl (HO9.out.alloc _) _ _ _ _ rfl HR9.out ?h63 ?h64 (N + 1) ?h65 ?_)
      case h63 => rw [HO9.out.len_]; omega
      case h64 => simp; omega
      case h65 => rw [HO9.out.len_]
      intro A10 c10 w10 ho10 hb10 hg10 hat10
      have HO10 : Hid (Own w10 (w.heap.size + 1) (.slice A10 (N + 1) c10) (body ++ List.replicate (N + 1 - (16 + n)) 0)) := by
        unfold Hid
        rw [show N + 1 - (16 + n) = N - (16 + n) + 1 by omega, List.replicate_succ', ← List.append_assoc]
        simpa using ho10
      have HB10 := Lib.hid ((HB9.out.alloc HB9.out.size (.cells #[.int .u8 0] 5)).trans (hb10.mono (by omega)))
      have HZ10 : Hid (w.heap.size + 1 ≤ w10.heap.size) := by
        unfold Hid
        have := hb10.size
        simp at this
        omega
      clear ho10 hb10 hg10 hat10
      go_wp2
      go_roundw
      case rel => exact ⟨N + 1, A10, c10, by omega, by omega, rfl, HO10.out, HB10.out, HZ10.out⟩
      case measure => simp [sliceLen]; omega
    · have ht : ((N : Int) % 4 != 0) = false := by
        rw [← Bool.not_eq_true]
        exact fun h => hlt (hiff.1 h)
      have ht2 : ((N : Int) % 4 == 0) = true := by simpa [bne] using ht
      obtain rfl : N = 16 + n + padOf n := by omega
      have HO11 : Hid (Own wr w.heap.size (.slice A9 (16 + n + padOf n) c9) (bodyOf L ma.toNat mi.toNat (IntKind.u64.wrap ln).toNat l)) := by
        unfold Hid
        rw [HBODY.out]
        have h := HO9.out
        rw [show 16 + n + padOf n - (16 + n) = padOf n by omega] at h
        exact h.mono (by omega)
      clear hiff HO9 HBODY
      go_wp2
      go_ret
      exact ⟨A9, c9, rfl, HB9.out, HO11.out⟩
end Go.Proofs.Ytdlpeljdpnohlaa
