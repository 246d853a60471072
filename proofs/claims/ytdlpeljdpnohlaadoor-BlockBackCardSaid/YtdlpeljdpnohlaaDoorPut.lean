/- The walk of package octet: Put. -/
import Derived.Test.YtdlpeljdpnohlaaDoorApp
import Derived.Test.YtdlpeljdpnohlaaDoorOct
import Derived.Deep.RegionLaw
namespace Go.Proofs.YtdlpeljdpnohlaaDoor
open Go.RowKit

theorem shr_byte (x j : Nat) : IntKind.u8.wrap ((x : Int) / 2 ^ (8 * (j : Int)).toNat) = ((UInt8.ofNat (x / 256 ^ j)).toNat : Int) := by
  have e : (8 * (j : Int)).toNat = 8 * j := by omega
  have e2 : (2 : Int) ^ (8 * j) = ((256 ^ j : Nat) : Int) := by rw [Int.pow_mul]; norm_cast
  rw [e, e2, ← u8_wrap]
  norm_cast

set_option maxRecDepth 100000 in
set_option maxHeartbeats 800000 in
theorem put_core (A : Option Addr) (n c : Nat) (L : Bool) (x m : Nat) (l : List UInt8) (w : World) (hr : Rd w A n c l) (h8 : m ≤ 8) (hn : n ≤ 140737488355320) :
    Calls Tryd.prog 10 #[.agg #[.slice A n c, .bool L], .int .u64 x, .int .i64 m] w fun e w' =>
      ∃ A' c', e = .returned (.agg #[.slice A' (n + m) c', .bool L]) ∧ Below w.heap.size w w' ∧ Own w' w.heap.size (.slice A' (n + m) c') (l ++ bytesOf L m x) := by
  obtain ⟨i0, hi0, hz0, hz1, hz2⟩ := info_parts info_u8
  go_enter Tryd.func10, Tryd.ntmps10
  go_wp2_with (first | (at_builtin; refine wpList_append_rd _ rfl _ _ 23 rfl (w.heap.size + 2) i0 _ Tryd.underlying23 hi0 hz0 hz1 hz2 rfl _ [] rfl (Own.nil _ _) A n c l rfl ((hr.alloc _).alloc _) (by simp; omega) (by simp) n (by simp) ?_; intro A1 c1 w1 hown1 hb1 hg1 hat1; (have hz := hb1.size); (have q1 := hb1.cell (p := ⟨w.heap.size, 0, none⟩) (by simp)); (have q2 := hb1.cell (p := ⟨w.heap.size, 1, none⟩) (by simp)); (have q3 := hb1.frozen (p := ⟨w.heap.size, 0, none⟩) (by simp)); clear hg1 hat1; simp at q1 q2 q3 hz))
  have k1 : Blk w1 w.heap.size 43 #[.slice A n c, .bool L] := ((Blk.new w _ _).alloc _).below hb1 (by omega)
  have k2 : Blk w1 (w.heap.size + 1) 43 #[.slice none 0 0, .bool false] := by
    have h := (Blk.new (w.alloc (.cells #[.slice A n c, .bool L] 43)) 43 #[.slice none 0 0, .bool false])
    simp only [World.size_alloc] at h
    exact h.below hb1 (by omega)
  have b1 : Below w.heap.size w w1 := (((Below.refl _ _).alloc (Nat.le_refl _) _).alloc (by simp) _).trans (hb1.mono (by simp))
  have HN := Lib.hid hr.1
  clear q1 q2 q3 hb1 hr
  have hown2 : Own (w1.setCell ⟨w.heap.size, 0, none⟩ (.slice A1 n c1)) (w.heap.size + 2) (.slice A1 n c1) (l ++ (bytesOf L m x).take 0) := by
    simp only [List.take_zero, List.append_nil]
    exact hown1.setCell (by simp) _
  have k3 := k1.set_ 0 (.slice A1 n c1)
  have k4 := k2.far (p := ⟨w.heap.size, 0, none⟩) (by simp) (.slice A1 n c1)
  have b2 := b1.setCell (p := ⟨w.heap.size, 0, none⟩) (by simp) (.slice A1 n c1)
  have hz2 : w.heap.size + 2 ≤ (w1.setCell ⟨w.heap.size, 0, none⟩ (.slice A1 n c1)).heap.size := by simp; omega
  clear k1 k2 b1 hown1 hz
  generalize w1.setCell ⟨w.heap.size, 0, none⟩ (.slice A1 n c1) = w2 at *
  go_loopw [21] (fun i wr => ∃ (k : Nat) (A2 : Option Addr) (n2 c2 : Nat), k ≤ m ∧ i = .int .i64 k ∧ n2 = n + k ∧ Blk wr w.heap.size 43 #[.slice A2 n2 c2, .bool L] ∧ Blk wr (w.heap.size + 1) 43 #[.slice none 0 0, .bool false] ∧
     Own wr (w.heap.size + 2) (.slice A2 n2 c2) (l ++ (bytesOf L m x).take k) ∧ Below w.heap.size w wr ∧ w.heap.size + 2 ≤ wr.heap.size) (fun i _ => m - (intOf i).toNat)
  case atStart => exact ⟨0, A1, n, c1, Nat.zero_le _, rfl, rfl, k3, k4, hown2, b2, hz2⟩
  case round =>
    obtain ⟨k, A2, n2, c2, hk, rfl, hn2, g1, g2, hown, hb, hz⟩ := hrel
    have q1 := g1.cell 0
    have q2 := g1.cell 1
    have q3 := g1.frozen 0
    have HG := Lib.hid g2
    have HG1 := Lib.hid g1
    have HN2 := Lib.hid hn2
    clear g1 g2 hn2 k3 k4 hown2 b2 hz2
    simp at q1 q2
    by_cases hlt : k < m
    · obtain ⟨j, hj⟩ : ∃ j : Nat, j = if L then k else m - 1 - k := ⟨_, rfl⟩
      have hj8 : j ≤ 7 := by subst hj; split <;> omega
      have hwr : IntKind.i64.wrap (8 * (j : Int)) = 8 * (j : Int) := IntWalk.i64_in _ (by omega)
      have hu := shr_byte x j
      have HT : Hid (l ++ (bytesOf L m x).take (k + 1) = l ++ (bytesOf L m x).take k ++ [UInt8.ofNat (x / 256 ^ j)]) := by
        unfold Hid; rw [hj, List.append_assoc]; congr 1; exact bytesOf_take L m x k hlt
      generalize UInt8.ofNat (x / 256 ^ j) = u at *
      have hln : (l ++ List.take k (bytesOf L m x)).length ≤ 140737488355327 := by
        have e1 := HN.out
        have e2 := bytesOf_length L m x
        simp; omega
      have hN1 := hown.len_
      generalize (l ++ List.take k (bytesOf L m x)) = lk at *
      have HR := Lib.hid (Own.lit (base := w.heap.size) wr [u] #[.int .u8 (u.toNat : Int)] rfl hb.size (by simp)).rd.drew
      simp only [List.length_singleton] at HR
      have HO := Lib.hid (hown.alloc (.cells #[.int .u8 (u.toNat : Int)] 5)).drew
      have Hb := Lib.hid hb
      have H63 : Hid (lk.length + 1 ≤ 140737488355328) := by unfold Hid; omega
      have HN1 : Hid (lk.length + 1 = n2 + 1) := by unfold Hid; rw [hN1]
      have H2 : Hid (w.heap.size + 2 ≤ (wr.alloc (.cells #[.int .u8 (u.toNat : Int)] 5)).drew.heap.size) := by unfold Hid; simp; omega
      have hZ : w.heap.size < wr.heap.size := by omega
      have H3 : Hid (∀ w3, Below (w.heap.size + 2) (wr.alloc (.cells #[.int .u8 (u.toNat : Int)] 5)).drew w3 →
          w3.cell? ⟨w.heap.size, 0, none⟩ = some (.slice A2 n2 c2) ∧ w3.frozen? ⟨w.heap.size, 0, none⟩ = false ∧ w.heap.size + 2 ≤ w3.heap.size) := fun w3 hb3 => by
        have hlt : w.heap.size < wr.heap.size := by omega
        refine ⟨?_, ?_, ?_⟩
        · rw [hb3.cell (by simp), World.cell?_drew, World.cell?_alloc_past _ _ _ hlt, q1]
        · rw [hb3.frozen (by simp), World.frozen?_drew, World.frozen?_alloc_past _ _ _ hlt, q3]
        · have := hb3.size
          simp at this
          omega
      clear hown hb hN1 hln
      cases L
      · simp only [Bool.false_eq_true, if_false] at hj
        have hj2 : (m : Int) - 1 - (k : Int) = (j : Int) := by omega
        have HJ := Lib.hid hj
        clear hj
        go_wp2
        go_region_law (refine step_append_rd _ rfl (.tmp 32) (.tmp 38) 23 rfl (w.heap.size + 2) i0 _ Tryd.underlying23 hi0 hz0 hz1 hz2 rfl (.slice A2 n2 c2) lk (by simp [Act.eval]) HO.out (some ⟨wr.heap.size, 0, none⟩) 1 1 [u] (by simp [Act.eval]) HR.out H63.out H2.out (n2 + 1) HN1.out ?_; intro A3 c3 w3 hown3 hb3 hg3 hat3; obtain ⟨r1, r2, r3⟩ := H3.out w3 hb3)
        all_goals
          have z1 := ((HG1.out.alloc (.cells #[.int .u8 (u.toNat : Int)] 5)).drew.below hb3 (by omega)).set_ 0 (.slice A3 (n2 + 1) c3)
          have z2 := ((HG.out.alloc (.cells #[.int .u8 (u.toNat : Int)] 5)).drew.below hb3 (by omega)).far (p := ⟨w.heap.size, 0, none⟩) (by simp) (.slice A3 (n2 + 1) c3)
          have z3 := hown3.setCell (a := ⟨w.heap.size, 0, none⟩) (by simp) (.slice A3 (n2 + 1) c3)
          have z4 := ((Hb.out.alloc Hb.out.size (.cells #[.int .u8 (u.toNat : Int)] 5)).drew.trans (hb3.mono (by omega))).setCell (p := ⟨w.heap.size, 0, none⟩) (by simp) (.slice A3 (n2 + 1) c3)
          have z5 : w.heap.size + 2 ≤ (w3.setCell ⟨w.heap.size, 0, none⟩ (.slice A3 (n2 + 1) c3)).heap.size := by simp; exact r3
          rw [← HT.out] at z3
          have Z1 := Lib.hid z1
          have Z2 := Lib.hid z2
          have Z3 := Lib.hid z3
          have Z4 := Lib.hid z4
          have Z5 := Lib.hid z5
          clear z1 z2 z3 z4 z5 hg3 hat3 hown3 hb3 H3 HR HO H63 HN1 H2 HG HG1 Hb
          go_wp2
          go_roundw
          case rel => exact ⟨k + 1, A3, n2 + 1, c3, by omega, by go_num, by rw [HN2.out, Nat.add_assoc], Z1.out, Z2.out, Z3.out, Z4.out, Z5.out⟩
          case measure => simp [intOf]; omega
      · simp only [if_true] at hj
        subst hj
        go_wp2
        go_region_law (refine step_append_rd _ rfl (.tmp 32) (.tmp 38) 23 rfl (w.heap.size + 2) i0 _ Tryd.underlying23 hi0 hz0 hz1 hz2 rfl (.slice A2 n2 c2) lk (by simp [Act.eval]) HO.out (some ⟨wr.heap.size, 0, none⟩) 1 1 [u] (by simp [Act.eval]) HR.out H63.out H2.out (n2 + 1) HN1.out ?_; intro A3 c3 w3 hown3 hb3 hg3 hat3; obtain ⟨r1, r2, r3⟩ := H3.out w3 hb3)
        all_goals
          have z1 := ((HG1.out.alloc (.cells #[.int .u8 (u.toNat : Int)] 5)).drew.below hb3 (by omega)).set_ 0 (.slice A3 (n2 + 1) c3)
          have z2 := ((HG.out.alloc (.cells #[.int .u8 (u.toNat : Int)] 5)).drew.below hb3 (by omega)).far (p := ⟨w.heap.size, 0, none⟩) (by simp) (.slice A3 (n2 + 1) c3)
          have z3 := hown3.setCell (a := ⟨w.heap.size, 0, none⟩) (by simp) (.slice A3 (n2 + 1) c3)
          have z4 := ((Hb.out.alloc Hb.out.size (.cells #[.int .u8 (u.toNat : Int)] 5)).drew.trans (hb3.mono (by omega))).setCell (p := ⟨w.heap.size, 0, none⟩) (by simp) (.slice A3 (n2 + 1) c3)
          have z5 : w.heap.size + 2 ≤ (w3.setCell ⟨w.heap.size, 0, none⟩ (.slice A3 (n2 + 1) c3)).heap.size := by simp; exact r3
          rw [← HT.out] at z3
          have Z1 := Lib.hid z1
          have Z2 := Lib.hid z2
          have Z3 := Lib.hid z3
          have Z4 := Lib.hid z4
          have Z5 := Lib.hid z5
          clear z1 z2 z3 z4 z5 hg3 hat3 hown3 hb3 H3 HR HO H63 HN1 H2 HG HG1 Hb
          go_wp2
          go_roundw
          case rel => exact ⟨j + 1, A3, n2 + 1, c3, by omega, by go_num, by rw [HN2.out, Nat.add_assoc], Z1.out, Z2.out, Z3.out, Z4.out, Z5.out⟩
          case measure => simp [intOf]; omega
    · obtain rfl : k = m := by omega
      have q4 := HG.out.cell 0
      have q5 := HG.out.cell 1
      have q6 := HG.out.frozen 0
      have q7 := HG.out.frozen 1
      simp at q4 q5
      have HF := Lib.hid hown
      have Hb := Lib.hid hb
      rw [bytesOf_all] at HF
      have e := HN2.out
      subst e
      clear hown hb HN2 HN
      go_wp2
      refine bodyPost_ret (v := .agg #[.slice A2 (n + k) c2, .bool L]) (by simp [results, Tryd.results10, go_sem, q4, q5]) rfl ⟨_, _, rfl, ?_, ?_⟩
      · exact (Hb.out.setCell (by simp) _).setCell (by simp) _
      · exact ((HF.out.setCell (by simp) _).setCell (by simp) _).mono (by omega)
theorem put_any (A : Option Addr) (n c : Nat) (L : Bool) (x m : Int) (N : Nat) (l : List UInt8) (w : World) (hr : Rd w A n c l) (hx : 0 ≤ x) (h0 : 0 ≤ m) (h8 : m ≤ 8) (hn : n ≤ 140737488355320) (hN : (N : Int) = n + m) :
    Calls Tryd.prog 10 #[.agg #[.slice A n c, .bool L], .int .u64 x, .int .i64 m] w fun e w' =>
      ∃ A' c', e = .returned (.agg #[.slice A' N c', .bool L]) ∧ Below w.heap.size w w' ∧ Own w' w.heap.size (.slice A' N c') (l ++ bytesOf L m.toNat x.toNat) := by
  obtain ⟨x', rfl⟩ := Int.eq_ofNat_of_zero_le hx
  obtain ⟨m', rfl⟩ := Int.eq_ofNat_of_zero_le h0
  obtain rfl : N = n + m' := by omega
  simp only [Int.toNat_natCast]
  exact put_core A n c L x' m' l w hr (by omega) hn
theorem field_row0 (A : Option Addr) (n c : Nat) (L : Bool) (w : World) : Sem.run Tryd.prog (Instr.field 43 (.agg #[.slice A n c, .bool L]) 0) w = .ok (.slice A n c) w := by kernel_rfl
end Go.Proofs.YtdlpeljdpnohlaaDoor
