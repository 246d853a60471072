/- The walk of the reference's Turn. -/
import Derived.Test.YtdlpeljdpnohlaaBlkTurn
import Derived.Deep.RegionWith
import Derived.Deep.DeepCutAuto
import Derived.Outline
namespace Go.Proofs.Ytdlpeljdpnohlaa
open Go.RowKit

/-- How the reference's loop ends. -/
theorem prefix_step (l : List UInt8) (k : Nat) (hk : k < 4) (hl : k < l.length) (h : l.take k = secBytes.take k) (e : l[k]?.getD 0 = secBytes[k]?.getD 0) : l.take (k + 1) = secBytes.take (k + 1) := by
  rw [take_snoc l k hl, take_snoc secBytes k (by simp [secBytes]; omega), h, e]
theorem prefix_bad (l : List UInt8) (k : Nat) (hk : k < 4) (hl : k < l.length) (e : l[k]?.getD 0 ≠ secBytes[k]?.getD 0) : l.take 4 ≠ secBytes.take l.length := by
  intro h
  apply e
  have h2 := congrArg (fun x => x[k]?.getD 0) h
  simpa [List.getElem?_take, hk, hl] using h2

set_option maxHeartbeats 1000000 in
theorem rturn_any (A : Option Addr) (n c : Nat) (l : List UInt8) (w : World) (hr : Rd w A n c l) :
    Calls Try.prog 15 #[.slice A n c] w fun e w' =>
      e = .returned (.tuple #[.bool (turnOf l).1, .int .i64 (turnOf l).2]) ∧ Below w.heap.size w w' := by
  have hn := hr.1
  have hnc := hr.2.1
  have hcm := hr.2.2.1
  have HN := Lib.hid hn
  have HR := Lib.hid (hr.alloc (.cells #[.int .u8 10, .int .u8 13, .int .u8 13, .int .u8 10] 5))
  have hw0 : Rd (w.alloc (.cells #[.int .u8 10, .int .u8 13, .int .u8 13, .int .u8 10] 5)) (some ⟨w.heap.size, 0, none⟩) 4 4 secBytes := (Own.lit (base := w.heap.size) w secBytes #[.int .u8 10, .int .u8 13, .int .u8 13, .int .u8 10] rfl (Nat.le_refl _) (by decide)).rd
  have HW := Lib.hid hw0
  have B1 := Lib.hid ((Below.refl w.heap.size w).alloc (Nat.le_refl _) (.cells #[.int .u8 10, .int .u8 13, .int .u8 13, .int .u8 10] 5))
  clear hn hr hw0
  go_enter Try.func15, Try.ntmps15
  go_wp2_with fail
  generalize w.alloc (.cells #[.int .u8 10, .int .u8 13, .int .u8 13, .int .u8 10] 5) = w1 at *
  go_loopw [5] (fun i wr => ∃ (k : Nat), k ≤ 4 ∧ k ≤ n ∧ i = .int .i64 k ∧ l.take k = secBytes.take k ∧ ∃ q : Nat, wr = w1.drewN q) (fun i _ => 4 - (intOf i).toNat)
  case atStart => exact ⟨0, by omega, by omega, rfl, by simp, 0, rfl⟩
  case round =>
    obtain ⟨k, hk4, hkn, rfl, hpre, q, rfl⟩ := hrel
    have HP := Lib.hid hpre
    have B2 := Lib.hid (below_drewN B1.out q)
    have HR2 := Lib.hid (HR.out.drewN q)
    have HW2 := Lib.hid (HW.out.drewN q)
    clear hpre
    by_cases hk : k < 4 ∧ k < n
    · obtain ⟨h4, hn⟩ := hk
      obtain ⟨b, off, rfl, hblt, hcs⟩ := HR.out.at_ (by omega)
      have hck := hcs k hn
      obtain ⟨b2, off2, hA2, hblt2, hcs2⟩ := HW.out.at_ (by omega)
      injection hA2 with hA2
      injection hA2 with e1 e2 _
      subst e1; subst e2
      have hck2 := hcs2 k h4
      have hn2 : (k : Int) < (n : Int) := by omega
      have h42 : (k : Int) < 4 := by omega
      simp only [Nat.zero_add] at hck2
      clear hcs hcs2
      have HE := Lib.hid (prefix_step l k h4 (by rw [HN.out]; exact hn) HP.out)
      have HB := Lib.hid (prefix_bad l k h4 (by rw [HN.out]; exact hn))
      generalize l[k]?.getD 0 = u at *
      generalize secBytes[k]?.getD 0 = v at *
      have HWX := HW
      by_cases he : u = v
      · have he1 : ((u.toNat : Int) == (v.toNat : Int)) = true := by rw [he]; simp
        have he2 : ((u.toNat : Int) != (v.toNat : Int)) = false := by rw [he]; simp
        have HP2 := Lib.hid (HE.out he)
        clear he HE HB
        go_wp2_with fail
        go_quiet (fail)
        go_wp2
        go_roundw
        case rel => exact ⟨k + 1, by omega, by omega, by go_num, HP2.out, _, rfl⟩
        case measure => simp [intOf]; omega
      · have he0 : (u.toNat : Int) ≠ (v.toNat : Int) := fun h => he (UInt8.toNat_inj.1 (by omega))
        have he1 : ((u.toNat : Int) == (v.toNat : Int)) = false := by rw [beq_eq_false_iff_ne]; exact he0
        have he2 : ((u.toNat : Int) != (v.toNat : Int)) = true := by rw [bne_iff_ne]; exact he0
        have HF : Hid (turnOf l = (false, 120)) := by unfold Hid turnOf; rw [if_pos (HB.out he)]
        clear he he0 HE HB
        go_wp2_with fail
        go_quiet (fail)
        go_wp2
        go_ret2
        exact ⟨by rw [HF.out]; rfl, below_drewN B2.out _⟩
    · have hpre : l.take 4 = secBytes.take n := by
        have h := HP.out
        have hl := HN.out
        by_cases h4 : k = 4
        · subst h4
          rw [h, List.take_of_length_le (l := secBytes) (i := n) (by simp [secBytes]; omega)]; decide
        · obtain rfl : k = n := by omega
          rw [← h, List.take_of_length_le (by omega), List.take_of_length_le (by omega)]
      have hte : Hid (turnOf l = if l.length < 12 then (false, 121) else if (l.drop 8).take 4 = bytesOf false 4 439041101 then (false, 0) else if (l.drop 8).take 4 = bytesOf true 4 439041101 then (true, 0) else (false, 120)) := by
        unfold Hid turnOf; rw [if_neg (by rw [HN.out]; simpa using hpre)]
      have hex : k = 4 ∨ (k < 4 ∧ k = n) := by omega
      clear hpre HP hk
      generalize w1.drewN q = w2 at *
      clear HR HW
      by_cases h12 : n < 12
      · have HF : Hid (turnOf l = (false, 121)) := by unfold Hid; rw [hte.out, if_pos (by rw [HN.out]; exact h12)]
        rcases hex with rfl | ⟨hk, rfl⟩
        · go_wp2
          go_ret2
          exact ⟨by rw [HF.out]; rfl, B2.out⟩
        · go_wp2
          go_ret2
          exact ⟨by rw [HF.out]; rfl, B2.out⟩
      · obtain rfl : k = 4 := by omega
        clear hex
        have HT : Hid (turnOf l = if (l.drop 8).take 4 = bytesOf false 4 439041101 then (false, 0) else if (l.drop 8).take 4 = bytesOf true 4 439041101 then (true, 0) else (false, 120)) := by
          unfold Hid; rw [hte.out, if_neg (by rw [HN.out]; exact h12)]
        clear hte
        obtain ⟨t0, ht0⟩ : ∃ t0 : Bool, ((l.drop 8).take 4 == bytesOf false 4 439041101) = t0 := ⟨_, rfl⟩
        have HT0 := Lib.hid ht0
        clear ht0
        go_upto_region 9 with (fail)
        go_cut [34] (fun s wx => s = .bool t0 ∧ Below w.heap.size w wx ∧ Rd wx A n c l)
        case first =>
          have hcut := Rd.cut HR2.out (lo := 8) (hi := 12) (c' := c - 8) (by omega) (by omega) (by omega) (by omega) (A.map fun x => ⟨x.block, x.off + 8, none⟩) (fun _ => by cases A <;> simp [Addr.add])
          simp only [show 12 - 8 = 4 from rfl] at hcut
          have hv1 := conv_str (P := Try.prog) hcut.drew 22 9 Try.underlying22 Try.underlying5 Try.underlying9
          have HC := Lib.hid hcut
          clear hcut
          go_region_with (go_at_call 21; refine (rput_any false 439041101 4 4 _ (by omega) (by omega) (by omega) (by omega) (by omega)).mono ?_; rintro e w3 ⟨A3, c3, rfl, hb3, ho3⟩; have hv3 := conv_str (P := Try.prog) (HC.out.drew.below hb3) 22 9 Try.underlying22 Try.underlying5 Try.underlying9; have hv4 := conv_str (P := Try.prog) ho3.rd 22 9 Try.underlying22 Try.underlying5 Try.underlying9; have HB3 := Lib.hid hb3; clear hb3 ho3)
          all_goals (go_wp2_with fail; go_meet; exact ⟨congrArg Value.bool HT0.out, (B2.out.drew).trans (HB3.out.mono B2.out.size), HR2.out.drew.below HB3.out⟩)
        case rest =>
        obtain ⟨rfl, hb3, hr3⟩ := hcut
        have B3 := Lib.hid hb3
        have HR3 := Lib.hid hr3
        clear hb3 hr3 HR2 B2
        cases t0
        rotate_left
        · have h0 : (l.drop 8).take 4 = bytesOf false 4 439041101 := beq_iff_eq.1 HT0.out
          have HF : Hid (turnOf l = (false, 0)) := by unfold Hid; rw [HT.out, if_pos h0]
          clear HT h0
          go_wp2
          go_ret2
          exact ⟨by rw [HF.out]; rfl, B3.out⟩
        · have h0 : ¬ (l.drop 8).take 4 = bytesOf false 4 439041101 := beq_eq_false_iff_ne.1 HT0.out
          have HT2 : Hid (turnOf l = if (l.drop 8).take 4 = bytesOf true 4 439041101 then (true, 0) else (false, 120)) := by unfold Hid; rw [HT.out, if_neg h0]
          clear HT h0
          obtain ⟨t1, ht1⟩ : ∃ t1 : Bool, ((l.drop 8).take 4 == bytesOf true 4 439041101) = t1 := ⟨_, rfl⟩
          have HT1 := Lib.hid ht1
          clear ht1
          go_upto_region 11 with (fail)
          go_cut [40] (fun s wx => s = .bool t1 ∧ Below w.heap.size w wx ∧ Rd wx A n c l)
          case first =>
            have hcut := Rd.cut HR3.out (lo := 8) (hi := 12) (c' := c - 8) (by omega) (by omega) (by omega) (by omega) (A.map fun x => ⟨x.block, x.off + 8, none⟩) (fun _ => by cases A <;> simp [Addr.add])
            simp only [show 12 - 8 = 4 from rfl] at hcut
            have hv1 := conv_str (P := Try.prog) hcut.drew 22 9 Try.underlying22 Try.underlying5 Try.underlying9
            have HC := Lib.hid hcut
            clear hcut
            go_region_with (go_at_call 21; refine (rput_any true 439041101 4 4 _ (by omega) (by omega) (by omega) (by omega) (by omega)).mono ?_; rintro e w3 ⟨A3, c3, rfl, hb3, ho3⟩; have hv3 := conv_str (P := Try.prog) (HC.out.drew.below hb3) 22 9 Try.underlying22 Try.underlying5 Try.underlying9; have hv4 := conv_str (P := Try.prog) ho3.rd 22 9 Try.underlying22 Try.underlying5 Try.underlying9; have HB3 := Lib.hid hb3; clear hb3 ho3)
            all_goals (go_wp2_with fail; go_meet; exact ⟨congrArg Value.bool HT1.out, (B3.out.drew).trans (HB3.out.mono B3.out.size), HR3.out.drew.below HB3.out⟩)
          case rest =>
          obtain ⟨rfl, hb4, hr4⟩ := hcut
          have B4 := Lib.hid hb4
          clear hb4 hr4 HR3 B3
          cases t1
          rotate_left
          · have h1 : (l.drop 8).take 4 = bytesOf true 4 439041101 := beq_iff_eq.1 HT1.out
            have HF : Hid (turnOf l = (true, 0)) := by unfold Hid; rw [HT2.out, if_pos h1]
            clear HT2 h1
            go_wp2
            go_ret2
            exact ⟨by rw [HF.out]; rfl, B4.out⟩
          · have h1 : ¬ (l.drop 8).take 4 = bytesOf true 4 439041101 := beq_eq_false_iff_ne.1 HT1.out
            have HF : Hid (turnOf l = (false, 120)) := by unfold Hid; rw [HT2.out, if_neg h1]
            clear HT2 h1
            go_wp2
            go_ret2
            exact ⟨by rw [HF.out]; rfl, B4.out⟩
end Go.Proofs.Ytdlpeljdpnohlaa
