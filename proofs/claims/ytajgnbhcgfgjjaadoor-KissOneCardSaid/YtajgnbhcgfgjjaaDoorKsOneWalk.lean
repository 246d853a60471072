/- KissOne, the walk. -/
import Derived.Test.YtajgnbhcgfgjjaaDoorKsWorks
import Derived.Test.YtajgnbhcgfgjjaaDoorLoad
import Derived.Deep.DeepCutAuto
import Derived.Deep.RegionHeld3
namespace Go.Proofs.YtajgnbhcgfgjjaaDoor
open Go.RowKit Go.Shelf

theorem below_drew1 {b : Nat} {u v : World} (h : Below b u v) : Below b u v.drew := ⟨h.os, h.tape, h.output, h.size, h.block⟩
theorem below_var {B : Nat} {w0 w w' : World} {o : Obj} (h : Below B w0 w) (hB : B ≤ w.heap.size) (hg : (w.alloc o).grownBy w' (some w.heap.size)) : Below B w0 w' :=
  (h.alloc hB o).grown hg (by simp; omega) (fun k e => by cases e; exact hB)
theorem Blk.var {w w' : World} {g : Nat} {t : TypeId} {cs : Array Value} {o : Obj} (h : Blk w g t cs) (hg : (w.alloc o).grownBy w' (some w.heap.size)) : Blk w' g t cs :=
  (h.alloc o).grown hg (fun e => by have := h.lt; cases e; omega)
/-- A header's cells in a block. -/
def HdS (B : Nat) (cs : Array Value) (w : World) : Prop := Blk w B 27 cs
theorem headSize : (Tryd.prog.info? 27).map (·.size) = some 16 := by kernel_rfl
set_option maxRecDepth 100000 in
set_option maxHeartbeats 4000000 in
theorem kissOne_core (recv way since turn delay disp X F W : Int) (B : Bool) (w : World)
    (h0 : 0 ≤ recv) (h0' : recv ≤ 18446744073709551615) (h1 : 0 ≤ way) (h1' : way ≤ 18446744073709551615) (h2 : 0 ≤ since) (h2' : since ≤ 18446744073709551615) (h3 : 0 ≤ turn) (h3' : turn ≤ 18446744073709551615)
    (h4 : 0 ≤ delay) (h4' : delay ≤ 4294967295) (h5 : 0 ≤ disp) (h5' : disp ≤ 4294967295)
    (HX : Hid (X = IntKind.u64.wrap (recv + way / 2))) (HF : Hid (F = IntKind.u64.wrap (X - since / 2)))
    (HW : Hid (W = if 2097152 ≤ delay + 2 * disp then 16 else 0))
    (HB : Hid (B = (recv == 0 || X == 0 || recv == IntKind.u64.wrap (-turn) || X == IntKind.u64.wrap (-turn) || F == 0 || F == IntKind.u64.wrap (-turn))))
    (C0 : Hid (B = false → ∀ w, Calls Tryd.prog 8 #[.agg #[.int .u8 0, .int .u8 4, .int .u8 4, .int .u8 1, .int .i8 0, .int .i8 0, .int .u32 delay, .int .u32 disp, .int .u8 0, .int .u8 0, .int .u8 0, .int .u8 0, .int .u64 F, .int .u64 0, .int .u64 recv, .int .u64 X]] w fun e w' => e = .returned (.int .u8 W) ∧ Below w.heap.size w w'))
    (CM : Hid (B = false → ∀ R' X' F' : Int, R' = IntKind.u64.wrap (recv + turn) → X' = IntKind.u64.wrap (X + turn) → F' = IntKind.u64.wrap (F + turn) → ∀ w, Calls Tryd.prog 8 #[.agg #[.int .u8 0, .int .u8 4, .int .u8 4, .int .u8 1, .int .i8 0, .int .i8 0, .int .u32 delay, .int .u32 disp, .int .u8 0, .int .u8 0, .int .u8 0, .int .u8 0, .int .u64 F', .int .u64 0, .int .u64 R', .int .u64 X']] w fun e w' => e = .returned (.int .u8 W) ∧ Below w.heap.size w w'))
    (C1 : Hid (B = false → ∀ w, Calls Tryd.prog 8 #[.agg #[.int .u8 0, .int .u8 5, .int .u8 4, .int .u8 1, .int .i8 0, .int .i8 0, .int .u32 delay, .int .u32 disp, .int .u8 0, .int .u8 0, .int .u8 0, .int .u8 0, .int .u64 F, .int .u64 0, .int .u64 recv, .int .u64 X]] w fun e w' => e = .returned (.int .u8 (bits BinOp.or IntKind.u8 W 1)) ∧ Below w.heap.size w w'))
    (C2 : Hid (B = false → ∀ w, Calls Tryd.prog 8 #[.agg #[.int .u8 0, .int .u8 4, .int .u8 3, .int .u8 1, .int .i8 0, .int .i8 0, .int .u32 delay, .int .u32 disp, .int .u8 0, .int .u8 0, .int .u8 0, .int .u8 0, .int .u64 F, .int .u64 0, .int .u64 recv, .int .u64 X]] w fun e w' => e = .returned (.int .u8 (bits BinOp.or IntKind.u8 W 2)) ∧ Below w.heap.size w w'))
    (C3 : Hid (B = false → ∀ w, Calls Tryd.prog 8 #[.agg #[.int .u8 3, .int .u8 4, .int .u8 4, .int .u8 1, .int .i8 0, .int .i8 0, .int .u32 delay, .int .u32 disp, .int .u8 0, .int .u8 0, .int .u8 0, .int .u8 0, .int .u64 F, .int .u64 0, .int .u64 recv, .int .u64 X]] w fun e w' => e = .returned (.int .u8 (bits BinOp.or IntKind.u8 W 4)) ∧ Below w.heap.size w w'))
    (C4 : Hid (B = false → ∀ w, Calls Tryd.prog 8 #[.agg #[.int .u8 0, .int .u8 4, .int .u8 4, .int .u8 16, .int .i8 0, .int .i8 0, .int .u32 delay, .int .u32 disp, .int .u8 0, .int .u8 0, .int .u8 0, .int .u8 0, .int .u64 F, .int .u64 0, .int .u64 recv, .int .u64 X]] w fun e w' => e = .returned (.int .u8 (bits BinOp.or IntKind.u8 W 8)) ∧ Below w.heap.size w w'))
    (C5 : Hid (B = false → ∀ P : Int, P = IntKind.u64.wrap (recv - 1) → (P != 0) = true → ∀ w, Calls Tryd.prog 8 #[.agg #[.int .u8 0, .int .u8 4, .int .u8 4, .int .u8 1, .int .i8 0, .int .i8 0, .int .u32 delay, .int .u32 disp, .int .u8 0, .int .u8 0, .int .u8 0, .int .u8 0, .int .u64 0, .int .u64 0, .int .u64 recv, .int .u64 P]] w fun e w' => e = .returned (.int .u8 (bits BinOp.or IntKind.u8 W 64)) ∧ Below w.heap.size w w'))
    (C6 : Hid (B = false → ∀ G : Int, G = IntKind.u64.wrap (X + 1) → (G == 0) = false → ∀ w, Calls Tryd.prog 8 #[.agg #[.int .u8 0, .int .u8 4, .int .u8 4, .int .u8 1, .int .i8 0, .int .i8 0, .int .u32 delay, .int .u32 disp, .int .u8 0, .int .u8 0, .int .u8 0, .int .u8 0, .int .u64 G, .int .u64 0, .int .u64 recv, .int .u64 X]] w fun e w' => e = .returned (.int .u8 (bits BinOp.or IntKind.u8 W 128)) ∧ Below w.heap.size w w'))
    : Calls Tryd.prog 5 #[.int .u64 recv, .int .u64 way, .int .u64 since, .int .u64 turn, .int .u32 delay, .int .u32 disp] w fun e w' => e = .returned (.bool true) ∧ Below w.heap.size w w' := by
  have HS := Lib.hid sound_any
  unfold hdC at HS
  go_enter Tryd.func5, Tryd.ntmps5
  go_wp2_with fail
  refine (HS.out _).mono ?_
  rintro e w1 ⟨rfl, b⟩
  have B1 := Lib.hid b
  clear b HS
  go_upto_region 4 with fail
  rw [← HX.out, ← HF.out]
  have K2 := Lib.hid (Blk.new w1 27 #[.int .u8 0, .int .u8 4, .int .u8 4, .int .u8 1, .int .i8 0, .int .i8 0, .int .u32 delay, .int .u32 disp, .int .u8 0, .int .u8 0, .int .u8 0, .int .u8 0, .int .u64 F, .int .u64 0, .int .u64 recv, .int .u64 X])
  have B2 := Lib.hid (B1.out.alloc B1.out.size (.cells #[.int .u8 0, .int .u8 4, .int .u8 4, .int .u8 1, .int .i8 0, .int .i8 0, .int .u32 delay, .int .u32 disp, .int .u8 0, .int .u8 0, .int .u8 0, .int .u8 0, .int .u64 F, .int .u64 0, .int .u64 recv, .int .u64 X] 27))
  generalize w1.alloc (.cells #[.int .u8 0, .int .u8 4, .int .u8 4, .int .u8 1, .int .i8 0, .int .i8 0, .int .u32 delay, .int .u32 disp, .int .u8 0, .int .u8 0, .int .u8 0, .int .u8 0, .int .u64 F, .int .u64 0, .int .u64 recv, .int .u64 X] 27) = w2 at *
  generalize w1.heap.size = n at *
  clear B1 HX HF
  go_cut [74] (fun v wx => v = .bool B ∧ w2 = wx)
  case first =>
    have q12 := K2.out.cell 12
    have q14 := K2.out.cell 14
    have q15 := K2.out.cell 15
    simp at q12 q14 q15
    rcases Bool.eq_false_or_eq_true (recv == 0) with g0 | g0
    · have HE := Lib.hid (show B = true by rw [HB.out, g0]; simp)
      go_wp2_with fail
      go_meet
      exact ⟨by rw [HE.out], rfl⟩
    rcases Bool.eq_false_or_eq_true (X == 0) with g1 | g1
    · have HE := Lib.hid (show B = true by rw [HB.out, g1]; simp)
      go_wp2_with fail
      go_meet
      exact ⟨by rw [HE.out], rfl⟩
    rcases Bool.eq_false_or_eq_true (recv == IntKind.u64.wrap (-turn)) with g2 | g2
    · have HE := Lib.hid (show B = true by rw [HB.out, g2]; simp)
      go_wp2_with fail
      go_meet
      exact ⟨by rw [HE.out], rfl⟩
    rcases Bool.eq_false_or_eq_true (X == IntKind.u64.wrap (-turn)) with g3 | g3
    · have HE := Lib.hid (show B = true by rw [HB.out, g3]; simp)
      go_wp2_with fail
      go_meet
      exact ⟨by rw [HE.out], rfl⟩
    rcases Bool.eq_false_or_eq_true (F == 0) with g4 | g4
    · have HE := Lib.hid (show B = true by rw [HB.out, g4]; simp)
      go_wp2_with fail
      go_meet
      exact ⟨by rw [HE.out], rfl⟩
    rcases Bool.eq_false_or_eq_true (F == IntKind.u64.wrap (-turn)) with g5 | g5
    · have HE := Lib.hid (show B = true by rw [HB.out, g5]; simp)
      go_wp2_with fail
      go_meet
      exact ⟨by rw [HE.out], rfl⟩
    have HE := Lib.hid (show B = false by rw [HB.out, g0, g1, g2, g3, g4, g5]; rfl)
    go_wp2_with fail
    go_meet
    exact ⟨by rw [HE.out], rfl⟩
  case rest =>
    obtain ⟨rfl, rfl⟩ := hcut
    clear HB
    rcases Bool.eq_false_or_eq_true B with hB | hB
    · rw [hB]
      clear hB C0 CM C1 C2 C3 C4 C5 C6
      go_wp2_with fail
      refine (works_any _).mono ?_
      rintro e w3 ⟨rfl, b⟩
      have B3 := Lib.hid (B2.out.trans (b.mono B2.out.size))
      clear b
      go_wp2_with fail
      go_ret
      exact ⟨rfl, B3.out⟩
    replace C0 := Lib.hid (C0.out hB)
    replace CM := Lib.hid (CM.out hB)
    replace C1 := Lib.hid (C1.out hB)
    replace C2 := Lib.hid (C2.out hB)
    replace C3 := Lib.hid (C3.out hB)
    replace C4 := Lib.hid (C4.out hB)
    replace C5 := Lib.hid (C5.out hB)
    replace C6 := Lib.hid (C6.out hB)
    rw [hB]
    clear hB
    go_upto_if 83 with fail
    go_cut [15] (fun v wx => v = .int .u8 W ∧ w2 = wx)
    case first =>
      by_cases hf : 2097152 ≤ delay + 2 * disp
      · have HE := Lib.hid (show W = 16 by rw [HW.out, if_pos hf])
        go_wp2_with fail
        go_meet
        exact ⟨by rw [HE.out], rfl⟩
      · have HE := Lib.hid (show W = 0 by rw [HW.out, if_neg hf])
        go_wp2_with fail
        go_meet
        exact ⟨by rw [HE.out], rfl⟩
    case rest =>
      obtain ⟨rfl, rfl⟩ := hcut
      clear HW
      go_wp2_with (refine wpList_load_blk 27 (.tmp 13) n 27 #[.int .u8 0, .int .u8 4, .int .u8 4, .int .u8 1, .int .i8 0, .int .i8 0, .int .u32 delay, .int .u32 disp, .int .u8 0, .int .u8 0, .int .u8 0, .int .u8 0, .int .u64 F, .int .u64 0, .int .u64 recv, .int .u64 X] _ K2.out rfl rfl Tryd.underlying27 rfl headSize rfl ?_)
      refine (C0.out _).mono ?_
      rintro e w3 ⟨rfl, b⟩
      have K3 := Lib.hid (K2.out.keep b)
      have B3 := Lib.hid (B2.out.trans (b.mono B2.out.size))
      clear b K2 B2 C0
      have hnm := K3.out.lt
      go_upto_region 13 with (first | (refine wpList_load_blk 27 (.tmp 13) n 27 #[.int .u8 0, .int .u8 4, .int .u8 4, .int .u8 1, .int .i8 0, .int .i8 0, .int .u32 delay, .int .u32 disp, .int .u8 0, .int .u8 0, .int .u8 0, .int .u8 0, .int .u64 F, .int .u64 0, .int .u64 recv, .int .u64 X] _ K3.out (by rfl) (by rfl) Tryd.underlying27 rfl headSize (by rfl) ?_) | ((with_reducible refine at_store 27 (.tmp 16) (.tmp 88) ?_); refine wpList_store_blk 27 (.tmp 16) (.tmp 88) w3.heap.size 27 #[.int .u8 0, .int .u8 0, .int .u8 0, .int .u8 0, .int .i8 0, .int .i8 0, .int .u32 0, .int .u32 0, .int .u8 0, .int .u8 0, .int .u8 0, .int .u8 0, .int .u64 0, .int .u64 0, .int .u64 0, .int .u64 0] #[.int .u8 0, .int .u8 4, .int .u8 4, .int .u8 1, .int .i8 0, .int .i8 0, .int .u32 delay, .int .u32 disp, .int .u8 0, .int .u8 0, .int .u8 0, .int .u8 0, .int .u64 F, .int .u64 0, .int .u64 recv, .int .u64 X] (Blk.new w3 27 #[.int .u8 0, .int .u8 0, .int .u8 0, .int .u8 0, .int .i8 0, .int .i8 0, .int .u32 0, .int .u32 0, .int .u8 0, .int .u8 0, .int .u8 0, .int .u8 0, .int .u64 0, .int .u64 0, .int .u64 0, .int .u64 0]) (by rfl) (by rfl) (by rfl) (by rfl) headSize rfl (by rfl) (by rfl) ?_; intro w4 hk4 hg4 hs4; have V4 := Lib.hid hk4; have G4 := Lib.hid (And.intro hg4 hs4); clear hk4 hg4 hs4))
      have K4 := Lib.hid (K3.out.var G4.out.1)
      have B4 := Lib.hid (below_var B3.out B3.out.size G4.out.1)
      have hm4 := V4.out.lt
      have hmw : w.heap.size ≤ w3.heap.size := B3.out.size
      generalize w3.heap.size = m at *
      clear K3 B3 G4
      have e1 : ¬ m = n := by omega
      have e2 : ¬ n = m := by omega
      have q12 := K4.out.cell 12
      have q14 := K4.out.cell 14
      have q15 := K4.out.cell 15
      have z12 := V4.out.cell 12
      have z14 := V4.out.cell 14
      have z15 := V4.out.cell 15
      have f12 := V4.out.frozen 12
      have f14 := V4.out.frozen 14
      have f15 := V4.out.frozen 15
      simp at q12 q14 q15 z12 z14 z15
      go_cut [] (fun wx => ∃ R' X' F' : Int, Hid (R' = IntKind.u64.wrap (recv + turn)) ∧ Hid (X' = IntKind.u64.wrap (X + turn)) ∧ Hid (F' = IntKind.u64.wrap (F + turn)) ∧ Hid (Blk wx m 27 #[.int .u8 0, .int .u8 4, .int .u8 4, .int .u8 1, .int .i8 0, .int .i8 0, .int .u32 delay, .int .u32 disp, .int .u8 0, .int .u8 0, .int .u8 0, .int .u8 0, .int .u64 F', .int .u64 0, .int .u64 R', .int .u64 X']) ∧ Hid (Blk wx n 27 #[.int .u8 0, .int .u8 4, .int .u8 4, .int .u8 1, .int .i8 0, .int .i8 0, .int .u32 delay, .int .u32 disp, .int .u8 0, .int .u8 0, .int .u8 0, .int .u8 0, .int .u64 F, .int .u64 0, .int .u64 recv, .int .u64 X]) ∧ Hid (Below w.heap.size w wx))
      case first =>
        go_region
        go_wp2_with fail
        go_meet
        refine ⟨_, _, _, Lib.hid rfl, Lib.hid rfl, Lib.hid rfl, Lib.hid (Blk.drew ?_), Lib.hid (Blk.drew (((K4.out.far e2 _).far e2 _).far e2 _)), Lib.hid (below_drew1 (((B4.out.setCell hmw _).setCell hmw _).setCell hmw _))⟩
        simpa using ((V4.out.set_ 14 (.int .u64 (IntKind.u64.wrap (recv + turn)))).set_ 15 (.int .u64 (IntKind.u64.wrap (X + turn)))).set_ 12 (.int .u64 (IntKind.u64.wrap (F + turn)))
      case rest =>
        obtain ⟨R', X', F', hR, hX, hF, KM, K4, B4⟩ := hcut
        have CN := Lib.hid (CM.out R' X' F' hR.out hX.out hF.out)
        clear CM hR hX hF q12 q14 q15 z12 z14 z15 f12 f14 f15 e1 e2 V4 hm4 hnm
        go_wp2_with (refine wpList_load_blk 27 (.tmp 16) m 27 #[.int .u8 0, .int .u8 4, .int .u8 4, .int .u8 1, .int .i8 0, .int .i8 0, .int .u32 delay, .int .u32 disp, .int .u8 0, .int .u8 0, .int .u8 0, .int .u8 0, .int .u64 F', .int .u64 0, .int .u64 R', .int .u64 X'] _ KM.out (by rfl) (by rfl) Tryd.underlying27 rfl headSize (by rfl) ?_)
        refine (CN.out _).mono ?_
        rintro e w5 ⟨rfl, b⟩
        have K5 := Lib.hid (K4.out.keep b)
        have B5 := Lib.hid (B4.out.trans (b.mono B4.out.size))
        clear b K4 B4 CN KM
        go_wp2_with fail
        have KL := Lib.hid (Blk.new w5 27 #[.int .u8 0, .int .u8 5, .int .u8 0, .int .u8 0, .int .i8 0, .int .i8 0, .int .u32 0, .int .u32 0, .int .u8 0, .int .u8 0, .int .u8 0, .int .u8 0, .int .u64 0, .int .u64 0, .int .u64 0, .int .u64 0, .int .u8 0, .int .u8 0, .int .u8 3, .int .u8 0, .int .i8 0, .int .i8 0, .int .u32 0, .int .u32 0, .int .u8 0, .int .u8 0, .int .u8 0, .int .u8 0, .int .u64 0, .int .u64 0, .int .u64 0, .int .u64 0, .int .u8 3, .int .u8 0, .int .u8 0, .int .u8 0, .int .i8 0, .int .i8 0, .int .u32 0, .int .u32 0, .int .u8 0, .int .u8 0, .int .u8 0, .int .u8 0, .int .u64 0, .int .u64 0, .int .u64 0, .int .u64 0, .int .u8 0, .int .u8 0, .int .u8 0, .int .u8 16, .int .i8 0, .int .i8 0, .int .u32 0, .int .u32 0, .int .u8 0, .int .u8 0, .int .u8 0, .int .u8 0, .int .u64 0, .int .u64 0, .int .u64 0, .int .u64 0])
        have K6 := Lib.hid (K5.out.alloc (.cells #[.int .u8 0, .int .u8 5, .int .u8 0, .int .u8 0, .int .i8 0, .int .i8 0, .int .u32 0, .int .u32 0, .int .u8 0, .int .u8 0, .int .u8 0, .int .u8 0, .int .u64 0, .int .u64 0, .int .u64 0, .int .u64 0, .int .u8 0, .int .u8 0, .int .u8 3, .int .u8 0, .int .i8 0, .int .i8 0, .int .u32 0, .int .u32 0, .int .u8 0, .int .u8 0, .int .u8 0, .int .u8 0, .int .u64 0, .int .u64 0, .int .u64 0, .int .u64 0, .int .u8 3, .int .u8 0, .int .u8 0, .int .u8 0, .int .i8 0, .int .i8 0, .int .u32 0, .int .u32 0, .int .u8 0, .int .u8 0, .int .u8 0, .int .u8 0, .int .u64 0, .int .u64 0, .int .u64 0, .int .u64 0, .int .u8 0, .int .u8 0, .int .u8 0, .int .u8 16, .int .i8 0, .int .i8 0, .int .u32 0, .int .u32 0, .int .u8 0, .int .u8 0, .int .u8 0, .int .u8 0, .int .u64 0, .int .u64 0, .int .u64 0, .int .u64 0] 27))
        have B6 := Lib.hid (B5.out.alloc B5.out.size (.cells #[.int .u8 0, .int .u8 5, .int .u8 0, .int .u8 0, .int .i8 0, .int .i8 0, .int .u32 0, .int .u32 0, .int .u8 0, .int .u8 0, .int .u8 0, .int .u8 0, .int .u64 0, .int .u64 0, .int .u64 0, .int .u64 0, .int .u8 0, .int .u8 0, .int .u8 3, .int .u8 0, .int .i8 0, .int .i8 0, .int .u32 0, .int .u32 0, .int .u8 0, .int .u8 0, .int .u8 0, .int .u8 0, .int .u64 0, .int .u64 0, .int .u64 0, .int .u64 0, .int .u8 3, .int .u8 0, .int .u8 0, .int .u8 0, .int .i8 0, .int .i8 0, .int .u32 0, .int .u32 0, .int .u8 0, .int .u8 0, .int .u8 0, .int .u8 0, .int .u64 0, .int .u64 0, .int .u64 0, .int .u64 0, .int .u8 0, .int .u8 0, .int .u8 0, .int .u8 16, .int .i8 0, .int .i8 0, .int .u32 0, .int .u32 0, .int .u8 0, .int .u8 0, .int .u8 0, .int .u8 0, .int .u64 0, .int .u64 0, .int .u64 0, .int .u64 0] 27))
        generalize w5.alloc (.cells #[.int .u8 0, .int .u8 5, .int .u8 0, .int .u8 0, .int .i8 0, .int .i8 0, .int .u32 0, .int .u32 0, .int .u8 0, .int .u8 0, .int .u8 0, .int .u8 0, .int .u64 0, .int .u64 0, .int .u64 0, .int .u64 0, .int .u8 0, .int .u8 0, .int .u8 3, .int .u8 0, .int .i8 0, .int .i8 0, .int .u32 0, .int .u32 0, .int .u8 0, .int .u8 0, .int .u8 0, .int .u8 0, .int .u64 0, .int .u64 0, .int .u64 0, .int .u64 0, .int .u8 3, .int .u8 0, .int .u8 0, .int .u8 0, .int .i8 0, .int .i8 0, .int .u32 0, .int .u32 0, .int .u8 0, .int .u8 0, .int .u8 0, .int .u8 0, .int .u64 0, .int .u64 0, .int .u64 0, .int .u64 0, .int .u8 0, .int .u8 0, .int .u8 0, .int .u8 16, .int .i8 0, .int .i8 0, .int .u32 0, .int .u32 0, .int .u8 0, .int .u8 0, .int .u8 0, .int .u8 0, .int .u64 0, .int .u64 0, .int .u64 0, .int .u64 0] 27) = w6 at *
        generalize w5.heap.size = mL at *
        clear K5 B5
        go_loopw [114] (fun i wr => ∃ k : Nat, k ≤ 4 ∧ i = .int .i64 k ∧ Hid (Blk wr n 27 #[.int .u8 0, .int .u8 4, .int .u8 4, .int .u8 1, .int .i8 0, .int .i8 0, .int .u32 delay, .int .u32 disp, .int .u8 0, .int .u8 0, .int .u8 0, .int .u8 0, .int .u64 F, .int .u64 0, .int .u64 recv, .int .u64 X]) ∧ Hid (Blk wr mL 27 #[.int .u8 0, .int .u8 5, .int .u8 0, .int .u8 0, .int .i8 0, .int .i8 0, .int .u32 0, .int .u32 0, .int .u8 0, .int .u8 0, .int .u8 0, .int .u8 0, .int .u64 0, .int .u64 0, .int .u64 0, .int .u64 0, .int .u8 0, .int .u8 0, .int .u8 3, .int .u8 0, .int .i8 0, .int .i8 0, .int .u32 0, .int .u32 0, .int .u8 0, .int .u8 0, .int .u8 0, .int .u8 0, .int .u64 0, .int .u64 0, .int .u64 0, .int .u64 0, .int .u8 3, .int .u8 0, .int .u8 0, .int .u8 0, .int .i8 0, .int .i8 0, .int .u32 0, .int .u32 0, .int .u8 0, .int .u8 0, .int .u8 0, .int .u8 0, .int .u64 0, .int .u64 0, .int .u64 0, .int .u64 0, .int .u8 0, .int .u8 0, .int .u8 0, .int .u8 16, .int .i8 0, .int .i8 0, .int .u32 0, .int .u32 0, .int .u8 0, .int .u8 0, .int .u8 0, .int .u8 0, .int .u64 0, .int .u64 0, .int .u64 0, .int .u64 0]) ∧ Hid (Below w.heap.size w wr)) (fun i _ => 4 - (intOf i).toNat)
        case atStart => exact ⟨0, by omega, rfl, K6, KL, B6⟩
        case round =>
          clear K6 KL B6
          obtain ⟨k, hk, rfl, K6, KL, B6⟩ := hrel
          obtain rfl | rfl | rfl | rfl | rfl : k = 0 ∨ k = 1 ∨ k = 2 ∨ k = 3 ∨ k = 4 := by omega
          · have C := C1.out
            replace C := Lib.hid C
            clear C1 C2 C3 C4 C5 C6
            go_upto_region 19 with (first | (refine wpList_load_part 27 (.tmp 117) mL 0 27 #[.int .u8 0, .int .u8 5, .int .u8 0, .int .u8 0, .int .i8 0, .int .i8 0, .int .u32 0, .int .u32 0, .int .u8 0, .int .u8 0, .int .u8 0, .int .u8 0, .int .u64 0, .int .u64 0, .int .u64 0, .int .u64 0, .int .u8 0, .int .u8 0, .int .u8 3, .int .u8 0, .int .i8 0, .int .i8 0, .int .u32 0, .int .u32 0, .int .u8 0, .int .u8 0, .int .u8 0, .int .u8 0, .int .u64 0, .int .u64 0, .int .u64 0, .int .u64 0, .int .u8 3, .int .u8 0, .int .u8 0, .int .u8 0, .int .i8 0, .int .i8 0, .int .u32 0, .int .u32 0, .int .u8 0, .int .u8 0, .int .u8 0, .int .u8 0, .int .u64 0, .int .u64 0, .int .u64 0, .int .u64 0, .int .u8 0, .int .u8 0, .int .u8 0, .int .u8 16, .int .i8 0, .int .i8 0, .int .u32 0, .int .u32 0, .int .u8 0, .int .u8 0, .int .u8 0, .int .u8 0, .int .u64 0, .int .u64 0, .int .u64 0, .int .u64 0] [.int .u8 0, .int .u8 5, .int .u8 0, .int .u8 0, .int .i8 0, .int .i8 0, .int .u32 0, .int .u32 0, .int .u8 0, .int .u8 0, .int .u8 0, .int .u8 0, .int .u64 0, .int .u64 0, .int .u64 0, .int .u64 0] _ KL.out (by rfl) (by rfl) (by rfl) Tryd.underlying27 rfl headSize (by rfl) ?_) | ((with_reducible refine at_store 27 (.tmp 18) (.tmp 118) ?_); refine wpList_store_blk 27 (.tmp 18) (.tmp 118) wr.heap.size 27 #[.int .u8 0, .int .u8 0, .int .u8 0, .int .u8 0, .int .i8 0, .int .i8 0, .int .u32 0, .int .u32 0, .int .u8 0, .int .u8 0, .int .u8 0, .int .u8 0, .int .u64 0, .int .u64 0, .int .u64 0, .int .u64 0] #[.int .u8 0, .int .u8 5, .int .u8 0, .int .u8 0, .int .i8 0, .int .i8 0, .int .u32 0, .int .u32 0, .int .u8 0, .int .u8 0, .int .u8 0, .int .u8 0, .int .u64 0, .int .u64 0, .int .u64 0, .int .u64 0] (Blk.new wr 27 #[.int .u8 0, .int .u8 0, .int .u8 0, .int .u8 0, .int .i8 0, .int .i8 0, .int .u32 0, .int .u32 0, .int .u8 0, .int .u8 0, .int .u8 0, .int .u8 0, .int .u64 0, .int .u64 0, .int .u64 0, .int .u64 0]) (by rfl) (by rfl) (by rfl) (by rfl) headSize rfl (by rfl) (by rfl) ?_; intro w7 hk7 hg7 hs7; have V7 := Lib.hid hk7; have G7 := Lib.hid (And.intro hg7 hs7); clear hk7 hg7 hs7))
            have K7 := Lib.hid (K6.out.var G7.out.1)
            have L7 := Lib.hid (KL.out.var G7.out.1)
            have B7 := Lib.hid (below_var B6.out B6.out.size G7.out.1)
            have hg7 := V7.out.lt
            clear K6 KL B6 G7
            generalize wr.heap.size = g7 at *
            go_upto_region 20 with (first | (refine wpList_load_blk 27 (.tmp 13) n 27 #[.int .u8 0, .int .u8 4, .int .u8 4, .int .u8 1, .int .i8 0, .int .i8 0, .int .u32 delay, .int .u32 disp, .int .u8 0, .int .u8 0, .int .u8 0, .int .u8 0, .int .u64 F, .int .u64 0, .int .u64 recv, .int .u64 X] _ K7.out (by rfl) (by rfl) Tryd.underlying27 rfl headSize (by rfl) ?_) | ((with_reducible refine at_store 27 (.tmp 19) (.tmp 119) ?_); refine wpList_store_blk 27 (.tmp 19) (.tmp 119) w7.heap.size 27 #[.int .u8 0, .int .u8 0, .int .u8 0, .int .u8 0, .int .i8 0, .int .i8 0, .int .u32 0, .int .u32 0, .int .u8 0, .int .u8 0, .int .u8 0, .int .u8 0, .int .u64 0, .int .u64 0, .int .u64 0, .int .u64 0] #[.int .u8 0, .int .u8 4, .int .u8 4, .int .u8 1, .int .i8 0, .int .i8 0, .int .u32 delay, .int .u32 disp, .int .u8 0, .int .u8 0, .int .u8 0, .int .u8 0, .int .u64 F, .int .u64 0, .int .u64 recv, .int .u64 X] (Blk.new w7 27 #[.int .u8 0, .int .u8 0, .int .u8 0, .int .u8 0, .int .i8 0, .int .i8 0, .int .u32 0, .int .u32 0, .int .u8 0, .int .u8 0, .int .u8 0, .int .u8 0, .int .u64 0, .int .u64 0, .int .u64 0, .int .u64 0]) (by rfl) (by rfl) (by rfl) (by rfl) headSize rfl (by rfl) (by rfl) ?_; intro w8 hk8 hg8 hs8; have V8 := Lib.hid hk8; have G8 := Lib.hid (And.intro hg8 hs8); clear hk8 hg8 hs8))
            have K8 := Lib.hid (K7.out.var G8.out.1)
            have L8 := Lib.hid (L7.out.var G8.out.1)
            have W8 := Lib.hid (V7.out.var G8.out.1)
            have B8 := Lib.hid (below_var B7.out B7.out.size G8.out.1)
            have n8 := K7.out.lt
            have m8 := L7.out.lt
            have b8 := B7.out.size
            have hz := G8.out.2
            simp at hz
            have HZ := Lib.hid hz
            clear K7 L7 V7 B7 G8 hz
            generalize w7.heap.size = g8 at *
            have q := W8.out.cell 1
            have z := V8.out.cell 1
            have fz := V8.out.frozen 1
            simp at q z
            go_upto_region 29 with fail
            have V9 := Lib.hid (show Blk (w8.setCell ⟨g8, 1, none⟩ (.int .u8 5)) g8 27 #[.int .u8 0, .int .u8 5, .int .u8 4, .int .u8 1, .int .i8 0, .int .i8 0, .int .u32 delay, .int .u32 disp, .int .u8 0, .int .u8 0, .int .u8 0, .int .u8 0, .int .u64 F, .int .u64 0, .int .u64 recv, .int .u64 X] by simpa using V8.out.set_ 1 (.int .u8 5))
            have K9 := Lib.hid (K8.out.far (p := ⟨g8, 1, none⟩) (by show n ≠ g8; omega) (.int .u8 5))
            have L9 := Lib.hid (L8.out.far (p := ⟨g8, 1, none⟩) (by show mL ≠ g8; omega) (.int .u8 5))
            have B9 := Lib.hid (B8.out.setCell (p := ⟨g8, 1, none⟩) (by show w.heap.size ≤ g8; omega) (.int .u8 5))
            generalize w8.setCell ⟨g8, 1, none⟩ (.int .u8 5) = w9 at *
            clear q z fz W8 K8 L8 B8 V8 HZ
            have hw : IntKind.u8.wrap 1 = 1 := by decide
            refine wp_region_held_drew (S := (fun w' => Blk w' g8 27 #[.int .u8 0, .int .u8 5, .int .u8 4, .int .u8 1, .int .i8 0, .int .i8 0, .int .u32 delay, .int .u32 disp, .int .u8 0, .int .u8 0, .int .u8 0, .int .u8 0, .int .u64 F, .int .u64 0, .int .u64 recv, .int .u64 X])) (by kernel_rfl) (V9.out) (fun hHeld => ?_)
            refine wpAnyH_take (i := 0) (oi := _) (v := _) rfl (by kernel_rfl) (by kernel_rfl) (by kernel_rfl) (fun _ _ _ h => h) (yieldsIf_load_blk 27 (.tmp 19) g8 27 #[.int .u8 0, .int .u8 5, .int .u8 4, .int .u8 1, .int .i8 0, .int .i8 0, .int .u32 delay, .int .u32 disp, .int .u8 0, .int .u8 0, .int .u8 0, .int .u8 0, .int .u64 F, .int .u64 0, .int .u64 recv, .int .u64 X] _ (fun _ h => h) (by rfl) (by rfl) Tryd.underlying27 rfl headSize (by rfl)) (by assumption) ?_
            try simp only [List.getElem_toArray, List.getElem_cons_zero, Act.put, List.setIfInBounds_toArray, List.set_cons_zero, List.set_cons_succ]
            refine wpAnyH_take (i := 2) (oi := _) (v := ?_) rfl (by kernel_rfl) (by kernel_rfl) (by kernel_rfl) (fun _ _ _ h => h) (Or.inl ⟨by rfl, ?_⟩) (by assumption) ?_
            case refine_2 => (intro w hSw; (try dsimp only at hSw); go_simp <;> with_reducible rfl)
            try simp only [List.getElem_toArray, List.getElem_cons_zero, List.getElem_cons_succ, Act.put, List.setIfInBounds_toArray, List.set_cons_zero, List.set_cons_succ]
            refine wpAnyH_take (i := 3) (oi := _) (v := ?_) rfl (by kernel_rfl) (by kernel_rfl) (by kernel_rfl) (fun _ _ _ h => h) (Or.inl ⟨by rfl, ?_⟩) (by assumption) ?_
            case refine_2 => (intro w hSw; (try dsimp only at hSw); go_simp <;> with_reducible rfl)
            try simp only [List.getElem_toArray, List.getElem_cons_zero, List.getElem_cons_succ, Act.put, List.setIfInBounds_toArray, List.set_cons_zero, List.set_cons_succ]
            refine wpAnyH_take (i := 4) (oi := _) (v := ?_) rfl (by kernel_rfl) (by kernel_rfl) (by kernel_rfl) (fun _ _ _ h => h) (Or.inl ⟨by rfl, ?_⟩) (by assumption) ?_
            case refine_2 => (intro w hSw; (try dsimp only at hSw); go_simp <;> with_reducible rfl)
            try simp only [List.getElem_toArray, List.getElem_cons_zero, List.getElem_cons_succ, Act.put, List.setIfInBounds_toArray, List.set_cons_zero, List.set_cons_succ]
            refine wpAnyH_take (i := 5) (oi := _) (v := ?_) rfl (by kernel_rfl) (by kernel_rfl) (by kernel_rfl) (fun _ _ _ h => h) (Or.inl ⟨by rfl, ?_⟩) (by assumption) ?_
            case refine_2 => (intro w hSw; (try dsimp only at hSw); go_simp <;> with_reducible rfl)
            try simp only [List.getElem_toArray, List.getElem_cons_zero, List.getElem_cons_succ, Act.put, List.setIfInBounds_toArray, List.set_cons_zero, List.set_cons_succ]
            refine wpAnyH_ready (rs := [1]) (by kernel_rfl) (by simp) ?_
            refine AllReadyH.cons (o := _) rfl (fun K hK => ?_) AllReadyH.nil
            simp only [List.getElem_toArray, List.getElem_cons_zero, List.getElem_cons_succ]
            go_simp
            refine (C.out _).mono ?_
            rintro e wA ⟨rfl, b⟩
            have KA := Lib.hid (K9.out.drew.keep b)
            have LA := Lib.hid (L9.out.drew.keep b)
            have VA := Lib.hid (V9.out.drew.keep b)
            have BA := Lib.hid ((below_drew1 B9.out).trans (b.mono B9.out.size))
            clear b
            go_simp
            refine hK.out _ _ (VA.out) (fun hHeld2 => ?_)
            clear hK K hHeld 
            have hHeld := hHeld2
            clear hHeld2
            try simp only [List.getElem_toArray, List.getElem_cons_zero, List.getElem_cons_succ, Act.put, List.setIfInBounds_toArray, List.set_cons_zero, List.set_cons_succ]
            refine wpAnyH_take (i := 6) (oi := _) (v := ?_) rfl (by kernel_rfl) (by kernel_rfl) (by kernel_rfl) (fun _ _ _ h => h) (Or.inl ⟨by rfl, ?_⟩) (by assumption) ?_
            case refine_2 => (intro w hSw; (try dsimp only at hSw); go_simp <;> with_reducible rfl)
            try simp only [List.getElem_toArray, List.getElem_cons_zero, List.getElem_cons_succ, Act.put, List.setIfInBounds_toArray, List.set_cons_zero, List.set_cons_succ]
            refine wpAnyH_done (by kernel_rfl) ?_ _
            go_wp2_with fail
            go_roundw
            case rel => exact ⟨1, by omega, rfl, KA, LA, BA⟩
            case measure => simp [intOf]
          · have C := C2.out
            replace C := Lib.hid C
            clear C1 C2 C3 C4 C5 C6
            go_upto_region 19 with (first | (refine wpList_load_part 27 (.tmp 117) mL 16 27 #[.int .u8 0, .int .u8 5, .int .u8 0, .int .u8 0, .int .i8 0, .int .i8 0, .int .u32 0, .int .u32 0, .int .u8 0, .int .u8 0, .int .u8 0, .int .u8 0, .int .u64 0, .int .u64 0, .int .u64 0, .int .u64 0, .int .u8 0, .int .u8 0, .int .u8 3, .int .u8 0, .int .i8 0, .int .i8 0, .int .u32 0, .int .u32 0, .int .u8 0, .int .u8 0, .int .u8 0, .int .u8 0, .int .u64 0, .int .u64 0, .int .u64 0, .int .u64 0, .int .u8 3, .int .u8 0, .int .u8 0, .int .u8 0, .int .i8 0, .int .i8 0, .int .u32 0, .int .u32 0, .int .u8 0, .int .u8 0, .int .u8 0, .int .u8 0, .int .u64 0, .int .u64 0, .int .u64 0, .int .u64 0, .int .u8 0, .int .u8 0, .int .u8 0, .int .u8 16, .int .i8 0, .int .i8 0, .int .u32 0, .int .u32 0, .int .u8 0, .int .u8 0, .int .u8 0, .int .u8 0, .int .u64 0, .int .u64 0, .int .u64 0, .int .u64 0] [.int .u8 0, .int .u8 0, .int .u8 3, .int .u8 0, .int .i8 0, .int .i8 0, .int .u32 0, .int .u32 0, .int .u8 0, .int .u8 0, .int .u8 0, .int .u8 0, .int .u64 0, .int .u64 0, .int .u64 0, .int .u64 0] _ KL.out (by rfl) (by rfl) (by rfl) Tryd.underlying27 rfl headSize (by rfl) ?_) | ((with_reducible refine at_store 27 (.tmp 18) (.tmp 118) ?_); refine wpList_store_blk 27 (.tmp 18) (.tmp 118) wr.heap.size 27 #[.int .u8 0, .int .u8 0, .int .u8 0, .int .u8 0, .int .i8 0, .int .i8 0, .int .u32 0, .int .u32 0, .int .u8 0, .int .u8 0, .int .u8 0, .int .u8 0, .int .u64 0, .int .u64 0, .int .u64 0, .int .u64 0] #[.int .u8 0, .int .u8 0, .int .u8 3, .int .u8 0, .int .i8 0, .int .i8 0, .int .u32 0, .int .u32 0, .int .u8 0, .int .u8 0, .int .u8 0, .int .u8 0, .int .u64 0, .int .u64 0, .int .u64 0, .int .u64 0] (Blk.new wr 27 #[.int .u8 0, .int .u8 0, .int .u8 0, .int .u8 0, .int .i8 0, .int .i8 0, .int .u32 0, .int .u32 0, .int .u8 0, .int .u8 0, .int .u8 0, .int .u8 0, .int .u64 0, .int .u64 0, .int .u64 0, .int .u64 0]) (by rfl) (by rfl) (by rfl) (by rfl) headSize rfl (by rfl) (by rfl) ?_; intro w7 hk7 hg7 hs7; have V7 := Lib.hid hk7; have G7 := Lib.hid (And.intro hg7 hs7); clear hk7 hg7 hs7))
            have K7 := Lib.hid (K6.out.var G7.out.1)
            have L7 := Lib.hid (KL.out.var G7.out.1)
            have B7 := Lib.hid (below_var B6.out B6.out.size G7.out.1)
            have hg7 := V7.out.lt
            clear K6 KL B6 G7
            generalize wr.heap.size = g7 at *
            go_upto_region 20 with (first | (refine wpList_load_blk 27 (.tmp 13) n 27 #[.int .u8 0, .int .u8 4, .int .u8 4, .int .u8 1, .int .i8 0, .int .i8 0, .int .u32 delay, .int .u32 disp, .int .u8 0, .int .u8 0, .int .u8 0, .int .u8 0, .int .u64 F, .int .u64 0, .int .u64 recv, .int .u64 X] _ K7.out (by rfl) (by rfl) Tryd.underlying27 rfl headSize (by rfl) ?_) | ((with_reducible refine at_store 27 (.tmp 19) (.tmp 119) ?_); refine wpList_store_blk 27 (.tmp 19) (.tmp 119) w7.heap.size 27 #[.int .u8 0, .int .u8 0, .int .u8 0, .int .u8 0, .int .i8 0, .int .i8 0, .int .u32 0, .int .u32 0, .int .u8 0, .int .u8 0, .int .u8 0, .int .u8 0, .int .u64 0, .int .u64 0, .int .u64 0, .int .u64 0] #[.int .u8 0, .int .u8 4, .int .u8 4, .int .u8 1, .int .i8 0, .int .i8 0, .int .u32 delay, .int .u32 disp, .int .u8 0, .int .u8 0, .int .u8 0, .int .u8 0, .int .u64 F, .int .u64 0, .int .u64 recv, .int .u64 X] (Blk.new w7 27 #[.int .u8 0, .int .u8 0, .int .u8 0, .int .u8 0, .int .i8 0, .int .i8 0, .int .u32 0, .int .u32 0, .int .u8 0, .int .u8 0, .int .u8 0, .int .u8 0, .int .u64 0, .int .u64 0, .int .u64 0, .int .u64 0]) (by rfl) (by rfl) (by rfl) (by rfl) headSize rfl (by rfl) (by rfl) ?_; intro w8 hk8 hg8 hs8; have V8 := Lib.hid hk8; have G8 := Lib.hid (And.intro hg8 hs8); clear hk8 hg8 hs8))
            have K8 := Lib.hid (K7.out.var G8.out.1)
            have L8 := Lib.hid (L7.out.var G8.out.1)
            have W8 := Lib.hid (V7.out.var G8.out.1)
            have B8 := Lib.hid (below_var B7.out B7.out.size G8.out.1)
            have n8 := K7.out.lt
            have m8 := L7.out.lt
            have b8 := B7.out.size
            have hz := G8.out.2
            simp at hz
            have HZ := Lib.hid hz
            clear K7 L7 V7 B7 G8 hz
            generalize w7.heap.size = g8 at *
            have q := W8.out.cell 2
            have z := V8.out.cell 2
            have fz := V8.out.frozen 2
            simp at q z
            go_upto_region 29 with fail
            have V9 := Lib.hid (show Blk (w8.setCell ⟨g8, 2, none⟩ (.int .u8 3)) g8 27 #[.int .u8 0, .int .u8 4, .int .u8 3, .int .u8 1, .int .i8 0, .int .i8 0, .int .u32 delay, .int .u32 disp, .int .u8 0, .int .u8 0, .int .u8 0, .int .u8 0, .int .u64 F, .int .u64 0, .int .u64 recv, .int .u64 X] by simpa using V8.out.set_ 2 (.int .u8 3))
            have K9 := Lib.hid (K8.out.far (p := ⟨g8, 2, none⟩) (by show n ≠ g8; omega) (.int .u8 3))
            have L9 := Lib.hid (L8.out.far (p := ⟨g8, 2, none⟩) (by show mL ≠ g8; omega) (.int .u8 3))
            have B9 := Lib.hid (B8.out.setCell (p := ⟨g8, 2, none⟩) (by show w.heap.size ≤ g8; omega) (.int .u8 3))
            generalize w8.setCell ⟨g8, 2, none⟩ (.int .u8 3) = w9 at *
            clear q z fz W8 K8 L8 B8 V8 HZ
            have hw : IntKind.u8.wrap 2 = 2 := by decide
            refine wp_region_held_drew (S := (fun w' => Blk w' g8 27 #[.int .u8 0, .int .u8 4, .int .u8 3, .int .u8 1, .int .i8 0, .int .i8 0, .int .u32 delay, .int .u32 disp, .int .u8 0, .int .u8 0, .int .u8 0, .int .u8 0, .int .u64 F, .int .u64 0, .int .u64 recv, .int .u64 X])) (by kernel_rfl) (V9.out) (fun hHeld => ?_)
            refine wpAnyH_take (i := 0) (oi := _) (v := _) rfl (by kernel_rfl) (by kernel_rfl) (by kernel_rfl) (fun _ _ _ h => h) (yieldsIf_load_blk 27 (.tmp 19) g8 27 #[.int .u8 0, .int .u8 4, .int .u8 3, .int .u8 1, .int .i8 0, .int .i8 0, .int .u32 delay, .int .u32 disp, .int .u8 0, .int .u8 0, .int .u8 0, .int .u8 0, .int .u64 F, .int .u64 0, .int .u64 recv, .int .u64 X] _ (fun _ h => h) (by rfl) (by rfl) Tryd.underlying27 rfl headSize (by rfl)) (by assumption) ?_
            try simp only [List.getElem_toArray, List.getElem_cons_zero, Act.put, List.setIfInBounds_toArray, List.set_cons_zero, List.set_cons_succ]
            refine wpAnyH_take (i := 2) (oi := _) (v := ?_) rfl (by kernel_rfl) (by kernel_rfl) (by kernel_rfl) (fun _ _ _ h => h) (Or.inl ⟨by rfl, ?_⟩) (by assumption) ?_
            case refine_2 => (intro w hSw; (try dsimp only at hSw); go_simp <;> with_reducible rfl)
            try simp only [List.getElem_toArray, List.getElem_cons_zero, List.getElem_cons_succ, Act.put, List.setIfInBounds_toArray, List.set_cons_zero, List.set_cons_succ]
            refine wpAnyH_take (i := 3) (oi := _) (v := ?_) rfl (by kernel_rfl) (by kernel_rfl) (by kernel_rfl) (fun _ _ _ h => h) (Or.inl ⟨by rfl, ?_⟩) (by assumption) ?_
            case refine_2 => (intro w hSw; (try dsimp only at hSw); go_simp <;> with_reducible rfl)
            try simp only [List.getElem_toArray, List.getElem_cons_zero, List.getElem_cons_succ, Act.put, List.setIfInBounds_toArray, List.set_cons_zero, List.set_cons_succ]
            refine wpAnyH_take (i := 4) (oi := _) (v := ?_) rfl (by kernel_rfl) (by kernel_rfl) (by kernel_rfl) (fun _ _ _ h => h) (Or.inl ⟨by rfl, ?_⟩) (by assumption) ?_
            case refine_2 => (intro w hSw; (try dsimp only at hSw); go_simp <;> with_reducible rfl)
            try simp only [List.getElem_toArray, List.getElem_cons_zero, List.getElem_cons_succ, Act.put, List.setIfInBounds_toArray, List.set_cons_zero, List.set_cons_succ]
            refine wpAnyH_take (i := 5) (oi := _) (v := ?_) rfl (by kernel_rfl) (by kernel_rfl) (by kernel_rfl) (fun _ _ _ h => h) (Or.inl ⟨by rfl, ?_⟩) (by assumption) ?_
            case refine_2 => (intro w hSw; (try dsimp only at hSw); go_simp <;> with_reducible rfl)
            try simp only [List.getElem_toArray, List.getElem_cons_zero, List.getElem_cons_succ, Act.put, List.setIfInBounds_toArray, List.set_cons_zero, List.set_cons_succ]
            refine wpAnyH_ready (rs := [1]) (by kernel_rfl) (by simp) ?_
            refine AllReadyH.cons (o := _) rfl (fun K hK => ?_) AllReadyH.nil
            simp only [List.getElem_toArray, List.getElem_cons_zero, List.getElem_cons_succ]
            go_simp
            refine (C.out _).mono ?_
            rintro e wA ⟨rfl, b⟩
            have KA := Lib.hid (K9.out.drew.keep b)
            have LA := Lib.hid (L9.out.drew.keep b)
            have VA := Lib.hid (V9.out.drew.keep b)
            have BA := Lib.hid ((below_drew1 B9.out).trans (b.mono B9.out.size))
            clear b
            go_simp
            refine hK.out _ _ (VA.out) (fun hHeld2 => ?_)
            clear hK K hHeld 
            have hHeld := hHeld2
            clear hHeld2
            try simp only [List.getElem_toArray, List.getElem_cons_zero, List.getElem_cons_succ, Act.put, List.setIfInBounds_toArray, List.set_cons_zero, List.set_cons_succ]
            refine wpAnyH_take (i := 6) (oi := _) (v := ?_) rfl (by kernel_rfl) (by kernel_rfl) (by kernel_rfl) (fun _ _ _ h => h) (Or.inl ⟨by rfl, ?_⟩) (by assumption) ?_
            case refine_2 => (intro w hSw; (try dsimp only at hSw); go_simp <;> with_reducible rfl)
            try simp only [List.getElem_toArray, List.getElem_cons_zero, List.getElem_cons_succ, Act.put, List.setIfInBounds_toArray, List.set_cons_zero, List.set_cons_succ]
            refine wpAnyH_done (by kernel_rfl) ?_ _
            go_wp2_with fail
            go_roundw
            case rel => exact ⟨2, by omega, rfl, KA, LA, BA⟩
            case measure => simp [intOf]
          · have C := C3.out
            replace C := Lib.hid C
            clear C1 C2 C3 C4 C5 C6
            go_upto_region 19 with (first | (refine wpList_load_part 27 (.tmp 117) mL 32 27 #[.int .u8 0, .int .u8 5, .int .u8 0, .int .u8 0, .int .i8 0, .int .i8 0, .int .u32 0, .int .u32 0, .int .u8 0, .int .u8 0, .int .u8 0, .int .u8 0, .int .u64 0, .int .u64 0, .int .u64 0, .int .u64 0, .int .u8 0, .int .u8 0, .int .u8 3, .int .u8 0, .int .i8 0, .int .i8 0, .int .u32 0, .int .u32 0, .int .u8 0, .int .u8 0, .int .u8 0, .int .u8 0, .int .u64 0, .int .u64 0, .int .u64 0, .int .u64 0, .int .u8 3, .int .u8 0, .int .u8 0, .int .u8 0, .int .i8 0, .int .i8 0, .int .u32 0, .int .u32 0, .int .u8 0, .int .u8 0, .int .u8 0, .int .u8 0, .int .u64 0, .int .u64 0, .int .u64 0, .int .u64 0, .int .u8 0, .int .u8 0, .int .u8 0, .int .u8 16, .int .i8 0, .int .i8 0, .int .u32 0, .int .u32 0, .int .u8 0, .int .u8 0, .int .u8 0, .int .u8 0, .int .u64 0, .int .u64 0, .int .u64 0, .int .u64 0] [.int .u8 3, .int .u8 0, .int .u8 0, .int .u8 0, .int .i8 0, .int .i8 0, .int .u32 0, .int .u32 0, .int .u8 0, .int .u8 0, .int .u8 0, .int .u8 0, .int .u64 0, .int .u64 0, .int .u64 0, .int .u64 0] _ KL.out (by rfl) (by rfl) (by rfl) Tryd.underlying27 rfl headSize (by rfl) ?_) | ((with_reducible refine at_store 27 (.tmp 18) (.tmp 118) ?_); refine wpList_store_blk 27 (.tmp 18) (.tmp 118) wr.heap.size 27 #[.int .u8 0, .int .u8 0, .int .u8 0, .int .u8 0, .int .i8 0, .int .i8 0, .int .u32 0, .int .u32 0, .int .u8 0, .int .u8 0, .int .u8 0, .int .u8 0, .int .u64 0, .int .u64 0, .int .u64 0, .int .u64 0] #[.int .u8 3, .int .u8 0, .int .u8 0, .int .u8 0, .int .i8 0, .int .i8 0, .int .u32 0, .int .u32 0, .int .u8 0, .int .u8 0, .int .u8 0, .int .u8 0, .int .u64 0, .int .u64 0, .int .u64 0, .int .u64 0] (Blk.new wr 27 #[.int .u8 0, .int .u8 0, .int .u8 0, .int .u8 0, .int .i8 0, .int .i8 0, .int .u32 0, .int .u32 0, .int .u8 0, .int .u8 0, .int .u8 0, .int .u8 0, .int .u64 0, .int .u64 0, .int .u64 0, .int .u64 0]) (by rfl) (by rfl) (by rfl) (by rfl) headSize rfl (by rfl) (by rfl) ?_; intro w7 hk7 hg7 hs7; have V7 := Lib.hid hk7; have G7 := Lib.hid (And.intro hg7 hs7); clear hk7 hg7 hs7))
            have K7 := Lib.hid (K6.out.var G7.out.1)
            have L7 := Lib.hid (KL.out.var G7.out.1)
            have B7 := Lib.hid (below_var B6.out B6.out.size G7.out.1)
            have hg7 := V7.out.lt
            clear K6 KL B6 G7
            generalize wr.heap.size = g7 at *
            go_upto_region 20 with (first | (refine wpList_load_blk 27 (.tmp 13) n 27 #[.int .u8 0, .int .u8 4, .int .u8 4, .int .u8 1, .int .i8 0, .int .i8 0, .int .u32 delay, .int .u32 disp, .int .u8 0, .int .u8 0, .int .u8 0, .int .u8 0, .int .u64 F, .int .u64 0, .int .u64 recv, .int .u64 X] _ K7.out (by rfl) (by rfl) Tryd.underlying27 rfl headSize (by rfl) ?_) | ((with_reducible refine at_store 27 (.tmp 19) (.tmp 119) ?_); refine wpList_store_blk 27 (.tmp 19) (.tmp 119) w7.heap.size 27 #[.int .u8 0, .int .u8 0, .int .u8 0, .int .u8 0, .int .i8 0, .int .i8 0, .int .u32 0, .int .u32 0, .int .u8 0, .int .u8 0, .int .u8 0, .int .u8 0, .int .u64 0, .int .u64 0, .int .u64 0, .int .u64 0] #[.int .u8 0, .int .u8 4, .int .u8 4, .int .u8 1, .int .i8 0, .int .i8 0, .int .u32 delay, .int .u32 disp, .int .u8 0, .int .u8 0, .int .u8 0, .int .u8 0, .int .u64 F, .int .u64 0, .int .u64 recv, .int .u64 X] (Blk.new w7 27 #[.int .u8 0, .int .u8 0, .int .u8 0, .int .u8 0, .int .i8 0, .int .i8 0, .int .u32 0, .int .u32 0, .int .u8 0, .int .u8 0, .int .u8 0, .int .u8 0, .int .u64 0, .int .u64 0, .int .u64 0, .int .u64 0]) (by rfl) (by rfl) (by rfl) (by rfl) headSize rfl (by rfl) (by rfl) ?_; intro w8 hk8 hg8 hs8; have V8 := Lib.hid hk8; have G8 := Lib.hid (And.intro hg8 hs8); clear hk8 hg8 hs8))
            have K8 := Lib.hid (K7.out.var G8.out.1)
            have L8 := Lib.hid (L7.out.var G8.out.1)
            have W8 := Lib.hid (V7.out.var G8.out.1)
            have B8 := Lib.hid (below_var B7.out B7.out.size G8.out.1)
            have n8 := K7.out.lt
            have m8 := L7.out.lt
            have b8 := B7.out.size
            have hz := G8.out.2
            simp at hz
            have HZ := Lib.hid hz
            clear K7 L7 V7 B7 G8 hz
            generalize w7.heap.size = g8 at *
            have q := W8.out.cell 0
            have z := V8.out.cell 0
            have fz := V8.out.frozen 0
            simp at q z
            go_upto_region 29 with fail
            have V9 := Lib.hid (show Blk (w8.setCell ⟨g8, 0, none⟩ (.int .u8 3)) g8 27 #[.int .u8 3, .int .u8 4, .int .u8 4, .int .u8 1, .int .i8 0, .int .i8 0, .int .u32 delay, .int .u32 disp, .int .u8 0, .int .u8 0, .int .u8 0, .int .u8 0, .int .u64 F, .int .u64 0, .int .u64 recv, .int .u64 X] by simpa using V8.out.set_ 0 (.int .u8 3))
            have K9 := Lib.hid (K8.out.far (p := ⟨g8, 0, none⟩) (by show n ≠ g8; omega) (.int .u8 3))
            have L9 := Lib.hid (L8.out.far (p := ⟨g8, 0, none⟩) (by show mL ≠ g8; omega) (.int .u8 3))
            have B9 := Lib.hid (B8.out.setCell (p := ⟨g8, 0, none⟩) (by show w.heap.size ≤ g8; omega) (.int .u8 3))
            generalize w8.setCell ⟨g8, 0, none⟩ (.int .u8 3) = w9 at *
            clear q z fz W8 K8 L8 B8 V8 HZ
            have hw : IntKind.u8.wrap 4 = 4 := by decide
            refine wp_region_held_drew (S := (fun w' => Blk w' g8 27 #[.int .u8 3, .int .u8 4, .int .u8 4, .int .u8 1, .int .i8 0, .int .i8 0, .int .u32 delay, .int .u32 disp, .int .u8 0, .int .u8 0, .int .u8 0, .int .u8 0, .int .u64 F, .int .u64 0, .int .u64 recv, .int .u64 X])) (by kernel_rfl) (V9.out) (fun hHeld => ?_)
            refine wpAnyH_take (i := 0) (oi := _) (v := _) rfl (by kernel_rfl) (by kernel_rfl) (by kernel_rfl) (fun _ _ _ h => h) (yieldsIf_load_blk 27 (.tmp 19) g8 27 #[.int .u8 3, .int .u8 4, .int .u8 4, .int .u8 1, .int .i8 0, .int .i8 0, .int .u32 delay, .int .u32 disp, .int .u8 0, .int .u8 0, .int .u8 0, .int .u8 0, .int .u64 F, .int .u64 0, .int .u64 recv, .int .u64 X] _ (fun _ h => h) (by rfl) (by rfl) Tryd.underlying27 rfl headSize (by rfl)) (by assumption) ?_
            try simp only [List.getElem_toArray, List.getElem_cons_zero, Act.put, List.setIfInBounds_toArray, List.set_cons_zero, List.set_cons_succ]
            refine wpAnyH_take (i := 2) (oi := _) (v := ?_) rfl (by kernel_rfl) (by kernel_rfl) (by kernel_rfl) (fun _ _ _ h => h) (Or.inl ⟨by rfl, ?_⟩) (by assumption) ?_
            case refine_2 => (intro w hSw; (try dsimp only at hSw); go_simp <;> with_reducible rfl)
            try simp only [List.getElem_toArray, List.getElem_cons_zero, List.getElem_cons_succ, Act.put, List.setIfInBounds_toArray, List.set_cons_zero, List.set_cons_succ]
            refine wpAnyH_take (i := 3) (oi := _) (v := ?_) rfl (by kernel_rfl) (by kernel_rfl) (by kernel_rfl) (fun _ _ _ h => h) (Or.inl ⟨by rfl, ?_⟩) (by assumption) ?_
            case refine_2 => (intro w hSw; (try dsimp only at hSw); go_simp <;> with_reducible rfl)
            try simp only [List.getElem_toArray, List.getElem_cons_zero, List.getElem_cons_succ, Act.put, List.setIfInBounds_toArray, List.set_cons_zero, List.set_cons_succ]
            refine wpAnyH_take (i := 4) (oi := _) (v := ?_) rfl (by kernel_rfl) (by kernel_rfl) (by kernel_rfl) (fun _ _ _ h => h) (Or.inl ⟨by rfl, ?_⟩) (by assumption) ?_
            case refine_2 => (intro w hSw; (try dsimp only at hSw); go_simp <;> with_reducible rfl)
            try simp only [List.getElem_toArray, List.getElem_cons_zero, List.getElem_cons_succ, Act.put, List.setIfInBounds_toArray, List.set_cons_zero, List.set_cons_succ]
            refine wpAnyH_take (i := 5) (oi := _) (v := ?_) rfl (by kernel_rfl) (by kernel_rfl) (by kernel_rfl) (fun _ _ _ h => h) (Or.inl ⟨by rfl, ?_⟩) (by assumption) ?_
            case refine_2 => (intro w hSw; (try dsimp only at hSw); go_simp <;> with_reducible rfl)
            try simp only [List.getElem_toArray, List.getElem_cons_zero, List.getElem_cons_succ, Act.put, List.setIfInBounds_toArray, List.set_cons_zero, List.set_cons_succ]
            refine wpAnyH_ready (rs := [1]) (by kernel_rfl) (by simp) ?_
            refine AllReadyH.cons (o := _) rfl (fun K hK => ?_) AllReadyH.nil
            simp only [List.getElem_toArray, List.getElem_cons_zero, List.getElem_cons_succ]
            go_simp
            refine (C.out _).mono ?_
            rintro e wA ⟨rfl, b⟩
            have KA := Lib.hid (K9.out.drew.keep b)
            have LA := Lib.hid (L9.out.drew.keep b)
            have VA := Lib.hid (V9.out.drew.keep b)
            have BA := Lib.hid ((below_drew1 B9.out).trans (b.mono B9.out.size))
            clear b
            go_simp
            refine hK.out _ _ (VA.out) (fun hHeld2 => ?_)
            clear hK K hHeld 
            have hHeld := hHeld2
            clear hHeld2
            try simp only [List.getElem_toArray, List.getElem_cons_zero, List.getElem_cons_succ, Act.put, List.setIfInBounds_toArray, List.set_cons_zero, List.set_cons_succ]
            refine wpAnyH_take (i := 6) (oi := _) (v := ?_) rfl (by kernel_rfl) (by kernel_rfl) (by kernel_rfl) (fun _ _ _ h => h) (Or.inl ⟨by rfl, ?_⟩) (by assumption) ?_
            case refine_2 => (intro w hSw; (try dsimp only at hSw); go_simp <;> with_reducible rfl)
            try simp only [List.getElem_toArray, List.getElem_cons_zero, List.getElem_cons_succ, Act.put, List.setIfInBounds_toArray, List.set_cons_zero, List.set_cons_succ]
            refine wpAnyH_done (by kernel_rfl) ?_ _
            go_wp2_with fail
            go_roundw
            case rel => exact ⟨3, by omega, rfl, KA, LA, BA⟩
            case measure => simp [intOf]
          · have C := C4.out
            replace C := Lib.hid C
            clear C1 C2 C3 C4 C5 C6
            go_upto_region 19 with (first | (refine wpList_load_part 27 (.tmp 117) mL 48 27 #[.int .u8 0, .int .u8 5, .int .u8 0, .int .u8 0, .int .i8 0, .int .i8 0, .int .u32 0, .int .u32 0, .int .u8 0, .int .u8 0, .int .u8 0, .int .u8 0, .int .u64 0, .int .u64 0, .int .u64 0, .int .u64 0, .int .u8 0, .int .u8 0, .int .u8 3, .int .u8 0, .int .i8 0, .int .i8 0, .int .u32 0, .int .u32 0, .int .u8 0, .int .u8 0, .int .u8 0, .int .u8 0, .int .u64 0, .int .u64 0, .int .u64 0, .int .u64 0, .int .u8 3, .int .u8 0, .int .u8 0, .int .u8 0, .int .i8 0, .int .i8 0, .int .u32 0, .int .u32 0, .int .u8 0, .int .u8 0, .int .u8 0, .int .u8 0, .int .u64 0, .int .u64 0, .int .u64 0, .int .u64 0, .int .u8 0, .int .u8 0, .int .u8 0, .int .u8 16, .int .i8 0, .int .i8 0, .int .u32 0, .int .u32 0, .int .u8 0, .int .u8 0, .int .u8 0, .int .u8 0, .int .u64 0, .int .u64 0, .int .u64 0, .int .u64 0] [.int .u8 0, .int .u8 0, .int .u8 0, .int .u8 16, .int .i8 0, .int .i8 0, .int .u32 0, .int .u32 0, .int .u8 0, .int .u8 0, .int .u8 0, .int .u8 0, .int .u64 0, .int .u64 0, .int .u64 0, .int .u64 0] _ KL.out (by rfl) (by rfl) (by rfl) Tryd.underlying27 rfl headSize (by rfl) ?_) | ((with_reducible refine at_store 27 (.tmp 18) (.tmp 118) ?_); refine wpList_store_blk 27 (.tmp 18) (.tmp 118) wr.heap.size 27 #[.int .u8 0, .int .u8 0, .int .u8 0, .int .u8 0, .int .i8 0, .int .i8 0, .int .u32 0, .int .u32 0, .int .u8 0, .int .u8 0, .int .u8 0, .int .u8 0, .int .u64 0, .int .u64 0, .int .u64 0, .int .u64 0] #[.int .u8 0, .int .u8 0, .int .u8 0, .int .u8 16, .int .i8 0, .int .i8 0, .int .u32 0, .int .u32 0, .int .u8 0, .int .u8 0, .int .u8 0, .int .u8 0, .int .u64 0, .int .u64 0, .int .u64 0, .int .u64 0] (Blk.new wr 27 #[.int .u8 0, .int .u8 0, .int .u8 0, .int .u8 0, .int .i8 0, .int .i8 0, .int .u32 0, .int .u32 0, .int .u8 0, .int .u8 0, .int .u8 0, .int .u8 0, .int .u64 0, .int .u64 0, .int .u64 0, .int .u64 0]) (by rfl) (by rfl) (by rfl) (by rfl) headSize rfl (by rfl) (by rfl) ?_; intro w7 hk7 hg7 hs7; have V7 := Lib.hid hk7; have G7 := Lib.hid (And.intro hg7 hs7); clear hk7 hg7 hs7))
            have K7 := Lib.hid (K6.out.var G7.out.1)
            have L7 := Lib.hid (KL.out.var G7.out.1)
            have B7 := Lib.hid (below_var B6.out B6.out.size G7.out.1)
            have hg7 := V7.out.lt
            clear K6 KL B6 G7
            generalize wr.heap.size = g7 at *
            go_upto_region 20 with (first | (refine wpList_load_blk 27 (.tmp 13) n 27 #[.int .u8 0, .int .u8 4, .int .u8 4, .int .u8 1, .int .i8 0, .int .i8 0, .int .u32 delay, .int .u32 disp, .int .u8 0, .int .u8 0, .int .u8 0, .int .u8 0, .int .u64 F, .int .u64 0, .int .u64 recv, .int .u64 X] _ K7.out (by rfl) (by rfl) Tryd.underlying27 rfl headSize (by rfl) ?_) | ((with_reducible refine at_store 27 (.tmp 19) (.tmp 119) ?_); refine wpList_store_blk 27 (.tmp 19) (.tmp 119) w7.heap.size 27 #[.int .u8 0, .int .u8 0, .int .u8 0, .int .u8 0, .int .i8 0, .int .i8 0, .int .u32 0, .int .u32 0, .int .u8 0, .int .u8 0, .int .u8 0, .int .u8 0, .int .u64 0, .int .u64 0, .int .u64 0, .int .u64 0] #[.int .u8 0, .int .u8 4, .int .u8 4, .int .u8 1, .int .i8 0, .int .i8 0, .int .u32 delay, .int .u32 disp, .int .u8 0, .int .u8 0, .int .u8 0, .int .u8 0, .int .u64 F, .int .u64 0, .int .u64 recv, .int .u64 X] (Blk.new w7 27 #[.int .u8 0, .int .u8 0, .int .u8 0, .int .u8 0, .int .i8 0, .int .i8 0, .int .u32 0, .int .u32 0, .int .u8 0, .int .u8 0, .int .u8 0, .int .u8 0, .int .u64 0, .int .u64 0, .int .u64 0, .int .u64 0]) (by rfl) (by rfl) (by rfl) (by rfl) headSize rfl (by rfl) (by rfl) ?_; intro w8 hk8 hg8 hs8; have V8 := Lib.hid hk8; have G8 := Lib.hid (And.intro hg8 hs8); clear hk8 hg8 hs8))
            have K8 := Lib.hid (K7.out.var G8.out.1)
            have L8 := Lib.hid (L7.out.var G8.out.1)
            have W8 := Lib.hid (V7.out.var G8.out.1)
            have B8 := Lib.hid (below_var B7.out B7.out.size G8.out.1)
            have n8 := K7.out.lt
            have m8 := L7.out.lt
            have b8 := B7.out.size
            have hz := G8.out.2
            simp at hz
            have HZ := Lib.hid hz
            clear K7 L7 V7 B7 G8 hz
            generalize w7.heap.size = g8 at *
            have q := W8.out.cell 3
            have z := V8.out.cell 3
            have fz := V8.out.frozen 3
            simp at q z
            go_upto_region 29 with fail
            have V9 := Lib.hid (show Blk (w8.setCell ⟨g8, 3, none⟩ (.int .u8 16)) g8 27 #[.int .u8 0, .int .u8 4, .int .u8 4, .int .u8 16, .int .i8 0, .int .i8 0, .int .u32 delay, .int .u32 disp, .int .u8 0, .int .u8 0, .int .u8 0, .int .u8 0, .int .u64 F, .int .u64 0, .int .u64 recv, .int .u64 X] by simpa using V8.out.set_ 3 (.int .u8 16))
            have K9 := Lib.hid (K8.out.far (p := ⟨g8, 3, none⟩) (by show n ≠ g8; omega) (.int .u8 16))
            have L9 := Lib.hid (L8.out.far (p := ⟨g8, 3, none⟩) (by show mL ≠ g8; omega) (.int .u8 16))
            have B9 := Lib.hid (B8.out.setCell (p := ⟨g8, 3, none⟩) (by show w.heap.size ≤ g8; omega) (.int .u8 16))
            generalize w8.setCell ⟨g8, 3, none⟩ (.int .u8 16) = w9 at *
            clear q z fz W8 K8 L8 B8 V8 HZ
            have hw : IntKind.u8.wrap 8 = 8 := by decide
            refine wp_region_held_drew (S := (fun w' => Blk w' g8 27 #[.int .u8 0, .int .u8 4, .int .u8 4, .int .u8 16, .int .i8 0, .int .i8 0, .int .u32 delay, .int .u32 disp, .int .u8 0, .int .u8 0, .int .u8 0, .int .u8 0, .int .u64 F, .int .u64 0, .int .u64 recv, .int .u64 X])) (by kernel_rfl) (V9.out) (fun hHeld => ?_)
            refine wpAnyH_take (i := 0) (oi := _) (v := _) rfl (by kernel_rfl) (by kernel_rfl) (by kernel_rfl) (fun _ _ _ h => h) (yieldsIf_load_blk 27 (.tmp 19) g8 27 #[.int .u8 0, .int .u8 4, .int .u8 4, .int .u8 16, .int .i8 0, .int .i8 0, .int .u32 delay, .int .u32 disp, .int .u8 0, .int .u8 0, .int .u8 0, .int .u8 0, .int .u64 F, .int .u64 0, .int .u64 recv, .int .u64 X] _ (fun _ h => h) (by rfl) (by rfl) Tryd.underlying27 rfl headSize (by rfl)) (by assumption) ?_
            try simp only [List.getElem_toArray, List.getElem_cons_zero, Act.put, List.setIfInBounds_toArray, List.set_cons_zero, List.set_cons_succ]
            refine wpAnyH_take (i := 2) (oi := _) (v := ?_) rfl (by kernel_rfl) (by kernel_rfl) (by kernel_rfl) (fun _ _ _ h => h) (Or.inl ⟨by rfl, ?_⟩) (by assumption) ?_
            case refine_2 => (intro w hSw; (try dsimp only at hSw); go_simp <;> with_reducible rfl)
            try simp only [List.getElem_toArray, List.getElem_cons_zero, List.getElem_cons_succ, Act.put, List.setIfInBounds_toArray, List.set_cons_zero, List.set_cons_succ]
            refine wpAnyH_take (i := 3) (oi := _) (v := ?_) rfl (by kernel_rfl) (by kernel_rfl) (by kernel_rfl) (fun _ _ _ h => h) (Or.inl ⟨by rfl, ?_⟩) (by assumption) ?_
            case refine_2 => (intro w hSw; (try dsimp only at hSw); go_simp <;> with_reducible rfl)
            try simp only [List.getElem_toArray, List.getElem_cons_zero, List.getElem_cons_succ, Act.put, List.setIfInBounds_toArray, List.set_cons_zero, List.set_cons_succ]
            refine wpAnyH_take (i := 4) (oi := _) (v := ?_) rfl (by kernel_rfl) (by kernel_rfl) (by kernel_rfl) (fun _ _ _ h => h) (Or.inl ⟨by rfl, ?_⟩) (by assumption) ?_
            case refine_2 => (intro w hSw; (try dsimp only at hSw); go_simp <;> with_reducible rfl)
            try simp only [List.getElem_toArray, List.getElem_cons_zero, List.getElem_cons_succ, Act.put, List.setIfInBounds_toArray, List.set_cons_zero, List.set_cons_succ]
            refine wpAnyH_take (i := 5) (oi := _) (v := ?_) rfl (by kernel_rfl) (by kernel_rfl) (by kernel_rfl) (fun _ _ _ h => h) (Or.inl ⟨by rfl, ?_⟩) (by assumption) ?_
            case refine_2 => (intro w hSw; (try dsimp only at hSw); go_simp <;> with_reducible rfl)
            try simp only [List.getElem_toArray, List.getElem_cons_zero, List.getElem_cons_succ, Act.put, List.setIfInBounds_toArray, List.set_cons_zero, List.set_cons_succ]
            refine wpAnyH_ready (rs := [1]) (by kernel_rfl) (by simp) ?_
            refine AllReadyH.cons (o := _) rfl (fun K hK => ?_) AllReadyH.nil
            simp only [List.getElem_toArray, List.getElem_cons_zero, List.getElem_cons_succ]
            go_simp
            refine (C.out _).mono ?_
            rintro e wA ⟨rfl, b⟩
            have KA := Lib.hid (K9.out.drew.keep b)
            have LA := Lib.hid (L9.out.drew.keep b)
            have VA := Lib.hid (V9.out.drew.keep b)
            have BA := Lib.hid ((below_drew1 B9.out).trans (b.mono B9.out.size))
            clear b
            go_simp
            refine hK.out _ _ (VA.out) (fun hHeld2 => ?_)
            clear hK K hHeld 
            have hHeld := hHeld2
            clear hHeld2
            try simp only [List.getElem_toArray, List.getElem_cons_zero, List.getElem_cons_succ, Act.put, List.setIfInBounds_toArray, List.set_cons_zero, List.set_cons_succ]
            refine wpAnyH_take (i := 6) (oi := _) (v := ?_) rfl (by kernel_rfl) (by kernel_rfl) (by kernel_rfl) (fun _ _ _ h => h) (Or.inl ⟨by rfl, ?_⟩) (by assumption) ?_
            case refine_2 => (intro w hSw; (try dsimp only at hSw); go_simp <;> with_reducible rfl)
            try simp only [List.getElem_toArray, List.getElem_cons_zero, List.getElem_cons_succ, Act.put, List.setIfInBounds_toArray, List.set_cons_zero, List.set_cons_succ]
            refine wpAnyH_done (by kernel_rfl) ?_ _
            go_wp2_with fail
            go_roundw
            case rel => exact ⟨4, by omega, rfl, KA, LA, BA⟩
            case measure => simp [intOf]
          · clear C1 C2 C3 C4 KL
            go_upto_region 33 with (first | (refine wpList_load_blk 27 (.tmp 13) n 27 #[.int .u8 0, .int .u8 4, .int .u8 4, .int .u8 1, .int .i8 0, .int .i8 0, .int .u32 delay, .int .u32 disp, .int .u8 0, .int .u8 0, .int .u8 0, .int .u8 0, .int .u64 F, .int .u64 0, .int .u64 recv, .int .u64 X] _ K6.out (by rfl) (by rfl) Tryd.underlying27 rfl headSize (by rfl) ?_) | ((with_reducible refine at_store 27 (.tmp 20) (.tmp 149) ?_); refine wpList_store_blk 27 (.tmp 20) (.tmp 149) wr.heap.size 27 #[.int .u8 0, .int .u8 0, .int .u8 0, .int .u8 0, .int .i8 0, .int .i8 0, .int .u32 0, .int .u32 0, .int .u8 0, .int .u8 0, .int .u8 0, .int .u8 0, .int .u64 0, .int .u64 0, .int .u64 0, .int .u64 0] #[.int .u8 0, .int .u8 4, .int .u8 4, .int .u8 1, .int .i8 0, .int .i8 0, .int .u32 delay, .int .u32 disp, .int .u8 0, .int .u8 0, .int .u8 0, .int .u8 0, .int .u64 F, .int .u64 0, .int .u64 recv, .int .u64 X] (Blk.new wr 27 #[.int .u8 0, .int .u8 0, .int .u8 0, .int .u8 0, .int .i8 0, .int .i8 0, .int .u32 0, .int .u32 0, .int .u8 0, .int .u8 0, .int .u8 0, .int .u8 0, .int .u64 0, .int .u64 0, .int .u64 0, .int .u64 0]) (by rfl) (by rfl) (by rfl) (by rfl) headSize rfl (by rfl) (by rfl) ?_; intro w7 hk7 hg7 hs7; have V7 := Lib.hid hk7; have G7 := Lib.hid (And.intro hg7 hs7); clear hk7 hg7 hs7))
            have K7 := Lib.hid (K6.out.var G7.out.1)
            have B7 := Lib.hid (below_var B6.out B6.out.size G7.out.1)
            have n7 := K6.out.lt
            have b7 := B6.out.size
            clear K6 B6 G7
            generalize wr.heap.size = g7 at *
            have q := V7.out.cell 14
            have z12 := V7.out.cell 12
            have z15 := V7.out.cell 15
            have f12 := V7.out.frozen 12
            have f15 := V7.out.frozen 15
            simp at q z12 z15
            have e1 : ¬ g7 = n := by omega
            have e2 : ¬ n = g7 := by omega
            go_upto_region 35 with fail
            replace C5 := Lib.hid (C5.out _ rfl)
            generalize IntKind.u64.wrap (recv - 1) = P at *
            have V9 := Lib.hid (show Blk ((w7.setCell ⟨g7, 15, none⟩ (.int .u64 P)).setCell ⟨g7, 12, none⟩ (.int .u64 0)) g7 27 #[.int .u8 0, .int .u8 4, .int .u8 4, .int .u8 1, .int .i8 0, .int .i8 0, .int .u32 delay, .int .u32 disp, .int .u8 0, .int .u8 0, .int .u8 0, .int .u8 0, .int .u64 0, .int .u64 0, .int .u64 recv, .int .u64 P] by simpa using (V7.out.set_ 15 (.int .u64 P)).set_ 12 (.int .u64 0))
            have K9 := Lib.hid ((K7.out.far (p := ⟨g7, 15, none⟩) (by show n ≠ g7; omega) (.int .u64 P)).far (p := ⟨g7, 12, none⟩) (by show n ≠ g7; omega) (.int .u64 0))
            have B9 := Lib.hid ((B7.out.setCell (p := ⟨g7, 15, none⟩) (by show w.heap.size ≤ g7; omega) (.int .u64 P)).setCell (p := ⟨g7, 12, none⟩) (by show w.heap.size ≤ g7; omega) (.int .u64 0))
            generalize (w7.setCell ⟨g7, 15, none⟩ (.int .u64 P)).setCell ⟨g7, 12, none⟩ (.int .u64 0) = w9 at *
            clear q z12 z15 f12 f15 K7 B7 V7 e1 e2
            go_cut [164] (fun v wx => v = .bool false ∧ Hid (Blk wx n 27 #[.int .u8 0, .int .u8 4, .int .u8 4, .int .u8 1, .int .i8 0, .int .i8 0, .int .u32 delay, .int .u32 disp, .int .u8 0, .int .u8 0, .int .u8 0, .int .u8 0, .int .u64 F, .int .u64 0, .int .u64 recv, .int .u64 X]) ∧ Hid (Blk wx g7 27 #[.int .u8 0, .int .u8 4, .int .u8 4, .int .u8 1, .int .i8 0, .int .i8 0, .int .u32 delay, .int .u32 disp, .int .u8 0, .int .u8 0, .int .u8 0, .int .u8 0, .int .u64 0, .int .u64 0, .int .u64 recv, .int .u64 P]) ∧ Hid (Below w.heap.size w wx))
            case first =>
              have q := V9.out.cell 15
              simp at q
              rcases Bool.eq_false_or_eq_true (P != 0) with hp | hp
              · have C := Lib.hid (C5.out hp)
                clear C5 C6
                go_wp2_with (refine wpList_load_blk 27 (.tmp 20) g7 27 #[.int .u8 0, .int .u8 4, .int .u8 4, .int .u8 1, .int .i8 0, .int .i8 0, .int .u32 delay, .int .u32 disp, .int .u8 0, .int .u8 0, .int .u8 0, .int .u8 0, .int .u64 0, .int .u64 0, .int .u64 recv, .int .u64 P] _ V9.out (by rfl) (by rfl) Tryd.underlying27 rfl headSize (by rfl) ?_)
                refine (C.out _).mono ?_
                rintro e wA ⟨rfl, b⟩
                have KA := Lib.hid (K9.out.keep b)
                have VA := Lib.hid (V9.out.keep b)
                have BA := Lib.hid (B9.out.trans (b.mono B9.out.size))
                clear b
                go_wp2_with fail
                go_meet
                exact ⟨rfl, KA, VA, BA⟩
              · clear C5 C6
                go_wp2_with fail
                go_meet
                exact ⟨rfl, K9, V9, B9⟩
            case rest =>
              clear C5 K9 V9 B9
              obtain ⟨rfl, K9, V9, B9⟩ := hcut
              go_upto_region 38 with (first | (refine wpList_load_blk 27 (.tmp 13) n 27 #[.int .u8 0, .int .u8 4, .int .u8 4, .int .u8 1, .int .i8 0, .int .i8 0, .int .u32 delay, .int .u32 disp, .int .u8 0, .int .u8 0, .int .u8 0, .int .u8 0, .int .u64 F, .int .u64 0, .int .u64 recv, .int .u64 X] _ K9.out (by rfl) (by rfl) Tryd.underlying27 rfl headSize (by rfl) ?_) | ((with_reducible refine at_store 27 (.tmp 20) (.tmp 165) ?_); refine wpList_store_blk 27 (.tmp 20) (.tmp 165) g7 27 #[.int .u8 0, .int .u8 4, .int .u8 4, .int .u8 1, .int .i8 0, .int .i8 0, .int .u32 delay, .int .u32 disp, .int .u8 0, .int .u8 0, .int .u8 0, .int .u8 0, .int .u64 0, .int .u64 0, .int .u64 recv, .int .u64 P] #[.int .u8 0, .int .u8 4, .int .u8 4, .int .u8 1, .int .i8 0, .int .i8 0, .int .u32 delay, .int .u32 disp, .int .u8 0, .int .u8 0, .int .u8 0, .int .u8 0, .int .u64 F, .int .u64 0, .int .u64 recv, .int .u64 X] V9.out (by rfl) (by rfl) (by rfl) (by rfl) headSize rfl (by rfl) (by rfl) ?_; intro w10 hk10 hg10 hs10; have V10 := Lib.hid hk10; have G10 := Lib.hid (And.intro hg10 hs10); clear hk10 hg10 hs10))
              have K10 := Lib.hid (K9.out.grown G10.out.1 (fun e => by have := Option.some.inj e; omega))
              have hb9 := B9.out.size
              have B10 := Lib.hid (B9.out.grown G10.out.1 hb9 (fun k e => by cases e; exact b7))
              have q := V10.out.cell 15
              have z12 := V10.out.cell 12
              have f12 := V10.out.frozen 12
              simp at q z12
              clear K9 V9 B9 hb9
              go_upto_region 39 with fail
              replace C6 := Lib.hid (C6.out _ rfl)
              generalize IntKind.u64.wrap (X + 1) = G at *
              clear G10
              have V11 := Lib.hid (show Blk (w10.setCell ⟨g7, 12, none⟩ (.int .u64 G)) g7 27 #[.int .u8 0, .int .u8 4, .int .u8 4, .int .u8 1, .int .i8 0, .int .i8 0, .int .u32 delay, .int .u32 disp, .int .u8 0, .int .u8 0, .int .u8 0, .int .u8 0, .int .u64 G, .int .u64 0, .int .u64 recv, .int .u64 X] by simpa using V10.out.set_ 12 (.int .u64 G))
              have B11 := Lib.hid (B10.out.setCell (p := ⟨g7, 12, none⟩) (by show w.heap.size ≤ g7; omega) (.int .u64 G))
              generalize w10.setCell ⟨g7, 12, none⟩ (.int .u64 G) = w11 at *
              clear q z12 f12 K10 V10 B10
              have q := V11.out.cell 12
              simp at q
              rcases Bool.eq_false_or_eq_true (G == 0) with hg | hg
              · clear C6
                go_wp2_with fail
                refine (works_any _).mono ?_
                rintro e wB ⟨rfl, b⟩
                have BB := Lib.hid (B11.out.trans (b.mono B11.out.size))
                clear b
                go_wp2_with fail
                go_ret
                exact ⟨rfl, BB.out⟩
              · have C := Lib.hid (C6.out hg)
                clear C6
                go_wp2_with (refine wpList_load_blk 27 (.tmp 20) g7 27 #[.int .u8 0, .int .u8 4, .int .u8 4, .int .u8 1, .int .i8 0, .int .i8 0, .int .u32 delay, .int .u32 disp, .int .u8 0, .int .u8 0, .int .u8 0, .int .u8 0, .int .u64 G, .int .u64 0, .int .u64 recv, .int .u64 X] _ V11.out (by rfl) (by rfl) Tryd.underlying27 rfl headSize (by rfl) ?_)
                refine (C.out _).mono ?_
                rintro e wA ⟨rfl, b⟩
                have BA := Lib.hid (B11.out.trans (b.mono B11.out.size))
                clear b
                go_wp2_with fail
                refine (works_any _).mono ?_
                rintro e wB ⟨rfl, b⟩
                have BB := Lib.hid (BA.out.trans (b.mono BA.out.size))
                clear b
                go_wp2_with fail
                go_ret
                exact ⟨rfl, BB.out⟩
end Go.Proofs.YtajgnbhcgfgjjaaDoor
