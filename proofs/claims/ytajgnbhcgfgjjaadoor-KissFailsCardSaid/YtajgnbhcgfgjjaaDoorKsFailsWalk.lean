/- KissFails, the walk: what any header fails is what the reference says. -/
import Derived.Test.YtajgnbhcgfgjjaaDoorKsWorks
import Derived.Test.YtajgnbhcgfgjjaaDoorKsRFails
import Derived.Deep.RegionHeld3
namespace Go.Proofs.YtajgnbhcgfgjjaaDoor
open Go.RowKit Go.Shelf

/-- A header's cells in a block. -/
def HdS (B : Nat) (l v m s p q rd rp a b c d rf og rc xm : Int) (w : World) : Prop :=
  w.cell? ⟨B, 0, none⟩ = some (.int .u8 l) ∧ w.cell? ⟨B, 1, none⟩ = some (.int .u8 v) ∧ w.cell? ⟨B, 2, none⟩ = some (.int .u8 m) ∧ w.cell? ⟨B, 3, none⟩ = some (.int .u8 s) ∧ w.cell? ⟨B, 4, none⟩ = some (.int .i8 p) ∧ w.cell? ⟨B, 5, none⟩ = some (.int .i8 q) ∧ w.cell? ⟨B, 6, none⟩ = some (.int .u32 rd) ∧ w.cell? ⟨B, 7, none⟩ = some (.int .u32 rp) ∧ w.cell? ⟨B, 8, none⟩ = some (.int .u8 a) ∧ w.cell? ⟨B, 9, none⟩ = some (.int .u8 b) ∧ w.cell? ⟨B, 10, none⟩ = some (.int .u8 c) ∧ w.cell? ⟨B, 11, none⟩ = some (.int .u8 d) ∧ w.cell? ⟨B, 12, none⟩ = some (.int .u64 rf) ∧ w.cell? ⟨B, 13, none⟩ = some (.int .u64 og) ∧ w.cell? ⟨B, 14, none⟩ = some (.int .u64 rc) ∧ w.cell? ⟨B, 15, none⟩ = some (.int .u64 xm)
theorem HdS.of {B : Nat} {l v m s p q rd rp a b c d rf og rc xm : Int} {w : World} (h : Blk w B 27 (hdC l v m s p q rd rp a b c d rf og rc xm)) : HdS B l v m s p q rd rp a b c d rf og rc xm w :=
  ⟨h.cell 0, h.cell 1, h.cell 2, h.cell 3, h.cell 4, h.cell 5, h.cell 6, h.cell 7, h.cell 8, h.cell 9, h.cell 10, h.cell 11, h.cell 12, h.cell 13, h.cell 14, h.cell 15⟩
theorem below_drew1 {b : Nat} {u v : World} (h : Below b u v) : Below b u v.drew := ⟨h.os, h.tape, h.output, h.size, h.block⟩

theorem bit_eq0 : ∀ b0 b1 b2 b3 b4 b5 b6 b7 : Bool, (bits BinOp.and IntKind.u8 (bitsN [b0, b1, b2, b3, b4, b5, b6, b7] 1 / 2 ^ 0) 1 == 1) = b0 := by decide +kernel
theorem bit_eq1 : ∀ b0 b1 b2 b3 b4 b5 b6 b7 : Bool, (bits BinOp.and IntKind.u8 (bitsN [b0, b1, b2, b3, b4, b5, b6, b7] 1 / 2 ^ 1) 1 == 1) = b1 := by decide +kernel
theorem bit_eq2 : ∀ b0 b1 b2 b3 b4 b5 b6 b7 : Bool, (bits BinOp.and IntKind.u8 (bitsN [b0, b1, b2, b3, b4, b5, b6, b7] 1 / 2 ^ 2) 1 == 1) = b2 := by decide +kernel
theorem bit_eq3 : ∀ b0 b1 b2 b3 b4 b5 b6 b7 : Bool, (bits BinOp.and IntKind.u8 (bitsN [b0, b1, b2, b3, b4, b5, b6, b7] 1 / 2 ^ 3) 1 == 1) = b3 := by decide +kernel
theorem bit_eq4 : ∀ b0 b1 b2 b3 b4 b5 b6 b7 : Bool, (bits BinOp.and IntKind.u8 (bitsN [b0, b1, b2, b3, b4, b5, b6, b7] 1 / 2 ^ 4) 1 == 1) = b4 := by decide +kernel
theorem bit_eq5 : ∀ b0 b1 b2 b3 b4 b5 b6 b7 : Bool, (bits BinOp.and IntKind.u8 (bitsN [b0, b1, b2, b3, b4, b5, b6, b7] 1 / 2 ^ 5) 1 == 1) = b5 := by decide +kernel
theorem bit_eq6 : ∀ b0 b1 b2 b3 b4 b5 b6 b7 : Bool, (bits BinOp.and IntKind.u8 (bitsN [b0, b1, b2, b3, b4, b5, b6, b7] 1 / 2 ^ 6) 1 == 1) = b6 := by decide +kernel
theorem bit_eq7 : ∀ b0 b1 b2 b3 b4 b5 b6 b7 : Bool, (bits BinOp.and IntKind.u8 (bitsN [b0, b1, b2, b3, b4, b5, b6, b7] 1 / 2 ^ 7) 1 == 1) = b7 := by decide +kernel
theorem bit_of (bs : List Bool) : ∀ k : Nat, k < 8 → ∀ b0 b1 b2 b3 b4 b5 b6 b7 : Bool, bs = [b0, b1, b2, b3, b4, b5, b6, b7] → (bits BinOp.and IntKind.u8 (bitsN bs 1 / 2 ^ k) 1 == 1) = bs.getD k false := by
  intro k hk b0 b1 b2 b3 b4 b5 b6 b7 h
  subst h
  obtain rfl | rfl | rfl | rfl | rfl | rfl | rfl | rfl : k = 0 ∨ k = 1 ∨ k = 2 ∨ k = 3 ∨ k = 4 ∨ k = 5 ∨ k = 6 ∨ k = 7 := by omega
  · exact bit_eq0 b0 b1 b2 b3 b4 b5 b6 b7
  · exact bit_eq1 b0 b1 b2 b3 b4 b5 b6 b7
  · exact bit_eq2 b0 b1 b2 b3 b4 b5 b6 b7
  · exact bit_eq3 b0 b1 b2 b3 b4 b5 b6 b7
  · exact bit_eq4 b0 b1 b2 b3 b4 b5 b6 b7
  · exact bit_eq5 b0 b1 b2 b3 b4 b5 b6 b7
  · exact bit_eq6 b0 b1 b2 b3 b4 b5 b6 b7
  · exact bit_eq7 b0 b1 b2 b3 b4 b5 b6 b7

set_option maxRecDepth 100000 in
set_option maxHeartbeats 16000000 in
theorem fails_law (l v m s p q rd rp a b c d rf og rc xm : Int) (w : World) (f : Int) (bs : Nat → Bool)
    (HF : Hid (∀ w, Calls Tryd.prog 8 #[.agg #[.int .u8 l, .int .u8 v, .int .u8 m, .int .u8 s, .int .i8 p, .int .i8 q, .int .u32 rd, .int .u32 rp, .int .u8 a, .int .u8 b, .int .u8 c, .int .u8 d, .int .u64 rf, .int .u64 og, .int .u64 rc, .int .u64 xm]] w fun e w' => e = .returned (.int .u8 f) ∧ Below w.heap.size w w'))
    (HR : Hid (∀ k : Nat, k < 8 → ∀ w, Calls Tryd.prog 9 #[.agg #[.int .u8 l, .int .u8 v, .int .u8 m, .int .u8 s, .int .i8 p, .int .i8 q, .int .u32 rd, .int .u32 rp, .int .u8 a, .int .u8 b, .int .u8 c, .int .u8 d, .int .u64 rf, .int .u64 og, .int .u64 rc, .int .u64 xm], .int .i64 k] w fun e w' => e = .returned (.bool (bs k)) ∧ Below w.heap.size w w'))
    (HE : Hid (∀ k : Nat, k < 8 → (bits BinOp.and IntKind.u8 (f / 2 ^ k) 1 == 1) = bs k)) :
    Calls Tryd.prog 3 #[.agg #[.int .u8 l, .int .u8 v, .int .u8 m, .int .u8 s, .int .i8 p, .int .i8 q, .int .u32 rd, .int .u32 rp, .int .u8 a, .int .u8 b, .int .u8 c, .int .u8 d, .int .u64 rf, .int .u64 og, .int .u64 rc, .int .u64 xm]] w fun e w' => e = .returned (.bool true) ∧ Below w.heap.size w w' := by
  go_enter Tryd.func3, Tryd.ntmps3
  go_wp2_with fail
  refine (HF.out _).mono ?_
  rintro e w1 ⟨rfl, hb⟩
  have K1 := Lib.hid ((Blk.new w 27 #[.int .u8 l, .int .u8 v, .int .u8 m, .int .u8 s, .int .i8 p, .int .i8 q, .int .u32 rd, .int .u32 rp, .int .u8 a, .int .u8 b, .int .u8 c, .int .u8 d, .int .u64 rf, .int .u64 og, .int .u64 rc, .int .u64 xm]).keep hb)
  have B1 := Lib.hid (((Below.refl _ w).alloc (Nat.le_refl _) _).trans (hb.mono (by simp)))
  clear hb HF
  go_wp2_with fail
  go_loopw [7] (fun i wr => ∃ k : Nat, k ≤ 8 ∧ i = .int .i64 k ∧ Hid (Blk wr w.heap.size 27 #[.int .u8 l, .int .u8 v, .int .u8 m, .int .u8 s, .int .i8 p, .int .i8 q, .int .u32 rd, .int .u32 rp, .int .u8 a, .int .u8 b, .int .u8 c, .int .u8 d, .int .u64 rf, .int .u64 og, .int .u64 rc, .int .u64 xm]) ∧ Hid (Below w.heap.size w wr)) (fun i _ => 8 - (intOf i).toNat)
  case atStart => exact ⟨0, by omega, rfl, K1, B1⟩
  case round =>
    clear K1 B1
    obtain ⟨k, hk, rfl, KB, B⟩ := hrel
    by_cases hlt : k < 8
    · have E := HE.out k hlt
      have R := Lib.hid (HR.out k hlt)
      clear HE HR
      generalize bs k = bk at *
      go_wp2_with fail
      have HS := Lib.hid (HdS.of KB.out)
      refine wp_region_held_drew (S := (fun w' => HdS w.heap.size l v m s p q rd rp a b c d rf og rc xm w')) (by kernel_rfl) (HS.out) (fun hHeld => ?_)
      refine wpAnyH_take (i := 0) (oi := _) (v := ?_) rfl (by kernel_rfl) (by kernel_rfl) (by kernel_rfl) (fun _ _ _ h => h) (Or.inl ⟨by rfl, ?_⟩) (by assumption) ?_
      case refine_2 => (intro w hSw; (try dsimp only at hSw); go_simp <;> with_reducible rfl)
      try simp only [List.getElem_toArray, List.getElem_cons_zero, Act.put, List.setIfInBounds_toArray, List.set_cons_zero, List.set_cons_succ]
      refine wpAnyH_take (i := 1) (oi := _) (v := ?_) rfl (by kernel_rfl) (by kernel_rfl) (by kernel_rfl) (fun _ _ _ h => h) (Or.inl ⟨by rfl, ?_⟩) (by assumption) ?_
      case refine_2 => (intro w hSw; (try dsimp only at hSw); go_simp <;> with_reducible rfl)
      try simp only [List.getElem_toArray, List.getElem_cons_zero, List.getElem_cons_succ, Act.put, List.setIfInBounds_toArray, List.set_cons_zero, List.set_cons_succ]
      refine wpAnyH_take (i := 2) (oi := _) (v := ?_) rfl (by kernel_rfl) (by kernel_rfl) (by kernel_rfl) (fun _ _ _ h => h) (Or.inl ⟨by rfl, ?_⟩) (by assumption) ?_
      case refine_2 => (intro w hSw; (try dsimp only at hSw); go_simp <;> with_reducible rfl)
      try simp only [List.getElem_toArray, List.getElem_cons_zero, List.getElem_cons_succ, Act.put, List.setIfInBounds_toArray, List.set_cons_zero, List.set_cons_succ]
      refine wpAnyH_take (i := 3) (oi := _) (v := ?_) rfl (by kernel_rfl) (by kernel_rfl) (by kernel_rfl) (fun _ _ _ h => h) (Or.inl ⟨by rfl, ?_⟩) (by assumption) ?_
      case refine_2 => (intro w hSw; (try dsimp only at hSw); go_simp <;> with_reducible rfl)
      try simp only [List.getElem_toArray, List.getElem_cons_zero, List.getElem_cons_succ, Act.put, List.setIfInBounds_toArray, List.set_cons_zero, List.set_cons_succ]
      refine wpAnyH_take (i := 4) (oi := _) (v := ?_) rfl (by kernel_rfl) (by kernel_rfl) (by kernel_rfl) (fun _ _ _ h => h) (Or.inl ⟨by rfl, ?_⟩) (by assumption) ?_
      case refine_2 => (intro w hSw; (try dsimp only at hSw); go_simp <;> with_reducible rfl)
      try simp only [List.getElem_toArray, List.getElem_cons_zero, List.getElem_cons_succ, Act.put, List.setIfInBounds_toArray, List.set_cons_zero, List.set_cons_succ]
      refine wpAnyH_take (i := 5) (oi := _) (v := ?_) rfl (by kernel_rfl) (by kernel_rfl) (by kernel_rfl) (fun _ _ _ h => h) (Or.inl ⟨by rfl, ?_⟩) (by assumption) ?_
      case refine_2 => (intro w hSw; (try dsimp only at hSw); unfold HdS at hSw; go_simp <;> with_reducible rfl)
      try simp only [List.getElem_toArray, List.getElem_cons_zero, List.getElem_cons_succ, Act.put, List.setIfInBounds_toArray, List.set_cons_zero, List.set_cons_succ]
      refine wpAnyH_take (i := 6) (oi := _) (v := ?_) rfl (by kernel_rfl) (by kernel_rfl) (by kernel_rfl) (fun _ _ _ h => h) (Or.inl ⟨by rfl, ?_⟩) (by assumption) ?_
      case refine_2 => (intro w hSw; (try dsimp only at hSw); go_simp <;> with_reducible rfl)
      try simp only [List.getElem_toArray, List.getElem_cons_zero, List.getElem_cons_succ, Act.put, List.setIfInBounds_toArray, List.set_cons_zero, List.set_cons_succ]
      refine wpAnyH_ready (rs := [7]) (by kernel_rfl) (by simp) ?_
      refine AllReadyH.cons (o := _) rfl (fun K hK => ?_) AllReadyH.nil
      simp only [List.getElem_toArray, List.getElem_cons_zero, List.getElem_cons_succ]
      go_simp
      refine (R.out _).mono ?_
      rintro e w3 ⟨rfl, hb3⟩
      have K3 := Lib.hid (KB.out.drew.keep hb3)
      have B3 := Lib.hid ((below_drew1 B.out).trans (hb3.mono B.out.size))
      clear hb3
      go_simp
      refine hK.out _ _ (HdS.of K3.out) (fun hHeld2 => ?_)
      clear hK K hHeld 
      have hHeld := hHeld2
      clear hHeld2
      try simp only [List.getElem_toArray, List.getElem_cons_zero, List.getElem_cons_succ, Act.put, List.setIfInBounds_toArray, List.set_cons_zero, List.set_cons_succ]
      refine wpAnyH_take (i := 8) (oi := _) (v := ?_) rfl (by kernel_rfl) (by kernel_rfl) (by kernel_rfl) (fun _ _ _ h => h) (Or.inl ⟨by rfl, ?_⟩) (by assumption) ?_
      case refine_2 => (intro w hSw; (try dsimp only at hSw); go_simp <;> with_reducible rfl)
      try simp only [List.getElem_toArray, List.getElem_cons_zero, List.getElem_cons_succ, Act.put, List.setIfInBounds_toArray, List.set_cons_zero, List.set_cons_succ]
      refine wpAnyH_done (by kernel_rfl) ?_ _
      go_wp2_with fail
      go_roundw
      case rel => exact ⟨k + 1, by omega, by go_num, K3, B3⟩
      case measure => simp [intOf]; omega
    · obtain rfl : k = 8 := by omega
      go_wp2_with fail
      refine (works_any _).mono ?_
      rintro e w3 ⟨rfl, hb3⟩
      have B3 := Lib.hid (B.out.trans (hb3.mono B.out.size))
      clear hb3
      go_wp2_with fail
      go_ret
      exact ⟨rfl, B3.out⟩
end Go.Proofs.YtajgnbhcgfgjjaaDoor
