/- The reference's group and May. -/
import Derived.Test.YtgdnckglfhabnaaDoorRfDigits
namespace Go.Proofs.YtgdnckglfhabnaaDoor
open Go.RowKit Go.Shelf

set_option maxRecDepth 100000 in
set_option maxHeartbeats 4000000 in
theorem group_at (u : Bool) (l : List UInt8) (i : Nat) (hl : l.length = 16) (hi : i < 8) (w : World) :
    Calls Tryd.prog 27 #[.agg (adC u l), .int .i64 i] w fun e w' => e = .returned (.int .i64 (((unflat l)[i]?).getD 0)) ∧ Below w.heap.size w w' := by
  have hU := unflat_at l i (by omega)
  have HR := Lib.hid (show (((unflat l)[i]?).getD 0 : Nat) = (l[2 * i]'(by omega)).toNat * 256 + (l[2 * i + 1]'(by omega)).toNat by rw [hU]; rfl)
  have q1 : (w.alloc (.cells (adC u l) 24)).cell? ⟨w.heap.size, 1 + 2 * i, none⟩ = some (.int .u8 ((l[2 * i]'(by omega)).toNat : Int)) := by
    rw [(Blk.new w 24 (adC u l)).cell, adC_get u l _ (by omega), List.getElem?_eq_getElem (by omega)]
    rfl
  have q2 : (w.alloc (.cells (adC u l) 24)).cell? ⟨w.heap.size, 1 + (2 * i + 1), none⟩ = some (.int .u8 ((l[2 * i + 1]'(by omega)).toNat : Int)) := by
    rw [(Blk.new w 24 (adC u l)).cell, adC_get u l _ (by omega), List.getElem?_eq_getElem (by omega)]
    rfl
  have B := Lib.hid ((Below.refl _ w).alloc (Nat.le_refl _) (.cells (adC u l) 24))
  have hx := (l[2 * i]'(by omega)).toNat_lt
  have hy := (l[2 * i + 1]'(by omega)).toNat_lt
  generalize (l[2 * i]'(by omega)).toNat = x at *
  generalize (l[2 * i + 1]'(by omega)).toNat = y at *
  generalize ((unflat l)[i]?).getD 0 = gr at *
  clear hU hl
  obtain ⟨cs, hcs⟩ : ∃ cs, cs = adC u l := ⟨_, rfl⟩
  rw [← hcs] at q1 q2 B ⊢
  clear hcs
  go_enter Tryd.func27, Tryd.ntmps27
  go_upto_region 1 with fail
  generalize w.alloc (.cells cs 24) = w1 at *
  go_quiet (fail)
  go_wp2
  go_ret
  exact ⟨by rw [HR.out, show ((x * 256 + y : Nat) : Int) = 256 * (x : Int) + (y : Int) by omega]; rfl, below_drewN B.out _⟩

theorem may_no {l : List UInt8} {i : Nat} (h4 : 4 ≤ i) (hi : i < l.length) (h : l[i] ≠ 0) : mayB false l = false := by
  rw [mayB, Bool.false_or, decide_eq_false_iff_not]
  intro e
  have e2 : (l.drop 4)[i - 4]? = some l[i] := by
    rw [List.getElem?_drop, show 4 + (i - 4) = i by omega, List.getElem?_eq_getElem hi]
  rw [e, List.getElem?_replicate] at e2
  split at e2
  · injection e2 with e2
    exact h e2.symm
  · cases e2
theorem may_all {l : List UInt8} (hl : l.length = 16) (h : ∀ j (hj : j < l.length), 4 ≤ j → l[j] = 0) : mayB false l = true := by
  rw [mayB, Bool.false_or, decide_eq_true_eq]
  apply List.ext_getElem
  · simp [hl]
  · intro k h1 h2
    rw [List.getElem_drop, List.getElem_replicate, h (4 + k) (by simp at h1; omega) (by omega)]

set_option maxRecDepth 100000 in
set_option maxHeartbeats 4000000 in
theorem rmay_any (u : Bool) (l : List UInt8) (hl : l.length = 16) (w : World) :
    Calls Tryd.prog 12 #[.agg (adC u l)] w fun e w' => e = .returned (.bool (mayB u l)) ∧ Below w.heap.size w w' := by
  have B := Lib.hid ((Below.refl _ w).alloc (Nat.le_refl _) (.cells (adC u l) 24))
  have K := Lib.hid (Blk.new w 24 (adC u l))
  have Q0 := Lib.hid (show (adC u l)[0]? = some (.bool u) from rfl)
  have Q1 := Lib.hid (fun (i : Nat) (h : i < 16) => adC_get u l i (by omega))
  obtain ⟨cs, hcs⟩ : ∃ cs, cs = adC u l := ⟨_, rfl⟩
  rw [← hcs] at B K Q0 Q1 ⊢
  clear hcs
  go_enter Tryd.func12, Tryd.ntmps12
  go_wp2_with fail
  generalize w.alloc (.cells cs 24) = w1 at *
  go_loopw [3] (fun v wr => ∃ i : Nat, i ≤ 16 ∧ 4 ≤ i ∧ v = .int .i64 i ∧ Hid (u = false → ∀ j (hj : j < l.length), 4 ≤ j → j < i → l[j] = 0) ∧ wr = w1) (fun v _ => 16 - (intOf v).toNat)
  case atStart => exact ⟨4, by omega, by omega, rfl, Lib.hid (fun _ j _ h1 h2 => by omega), rfl⟩
  case round =>
    obtain ⟨i, hi, h4, rfl, H, rfl⟩ := hrel
    by_cases hlt : i < 16
    · have q0 : wr.cell? ⟨w.heap.size, 0, none⟩ = some (.bool u) := by rw [K.out.cell]; exact Q0.out
      have qi : wr.cell? ⟨w.heap.size, 1 + i, none⟩ = some (.int .u8 ((l[i]'(by omega)).toNat : Int)) := by
        rw [K.out.cell, Q1.out i hlt, List.getElem?_eq_getElem (by omega)]
        rfl
      cases u with
      | true =>
        go_wp2_with fail
        go_roundw
        case rel => exact ⟨i + 1, by omega, by omega, by go_num, Lib.hid (fun h => by cases h), trivial⟩
        case measure => simp [intOf]; omega
      | false =>
        by_cases hz : l[i]'(by omega) = 0
        · have HN := Lib.hid (show ∀ j (hj : j < l.length), 4 ≤ j → j < i + 1 → l[j] = 0 from fun j hj h1 h2 => by
            by_cases e : j = i
            · subst e; exact hz
            · exact H.out rfl j hj h1 (by omega))
          rw [hz] at qi
          have qi' : wr.cell? ⟨w.heap.size, 1 + i, none⟩ = some (.int .u8 0) := qi
          clear qi hz H
          go_wp2_with fail
          go_roundw
          case rel => exact ⟨i + 1, by omega, by omega, by go_num, Lib.hid (fun _ => HN.out), trivial⟩
          case measure => simp [intOf]; omega
        · have hm := may_no h4 (by omega : i < l.length) hz
          have hne : (((l[i]'(by omega)).toNat : Int) == 0) = false := by
            rw [beq_eq_false_iff_ne]
            intro e
            exact hz (UInt8.toNat_inj.1 (by show _ = 0; omega))
          generalize (l[i]'(by omega)).toNat = x at *
          clear hz H
          go_wp2_with fail
          go_ret
          exact ⟨by rw [hm]; rfl, B.out⟩
    · obtain rfl : i = 16 := by omega
      have hm : mayB u l = true := by
        cases u with
        | true => rfl
        | false => exact may_all hl fun j hj h => H.out rfl j hj h (by omega)
      go_wp2_with fail
      go_ret
      exact ⟨by rw [hm]; rfl, B.out⟩
end Go.Proofs.YtgdnckglfhabnaaDoor
