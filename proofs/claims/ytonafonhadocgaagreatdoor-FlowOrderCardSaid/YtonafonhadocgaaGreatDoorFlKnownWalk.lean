/- flow.Mirror; the walk of horologelaw28.FlowKnown. -/
import Derived.Test.YtonafonhadocgaaGreatDoorQM
import Derived.Test.YtonafonhadocgaaGreatDoorQS
import Derived.Test.YtonafonhadocgaaGreatDoorQV
import Derived.Test.YtonafonhadocgaaGreatDoorQU
import Derived.Test.YtonafonhadocgaaGreatDoorQR
namespace Go.Proofs.YtonafonhadocgaaGreatDoor
open Go.RowKit Go.Shelf

theorem built_flL (a b : En) (ha : a.2.1.length = 16) (hb : b.2.1.length = 16) : Tryz.prog.built 30 [(0, .agg (enL a).toArray), (1, .agg (enL b).toArray)] = some (flC a b) := built_fl a b ha hb
set_option maxRecDepth 100000 in
set_option maxHeartbeats 4000000 in
theorem mirror_any (a b : En) (ha : a.2.1.length = 16) (hb : b.2.1.length = 16) (w : World) :
    Calls Tryz.prog 16 #[.agg (flC a b)] w fun e w' => e = .returned (.agg (flC b a)) ∧ Below w.heap.size w w' := by
  have hz : (w.alloc (.cells (flC a b) 30)).heap.size = w.heap.size + 1 := by simp
  have k1 := (Blk.new w 30 (flC a b)).alloc (.cells (flC zE zE) 30)
  have k2 := Blk.new (w.alloc (.cells (flC a b) 30)) 30 (flC zE zE)
  rw [hz] at k2
  have K1 := Lib.hid (And.intro k1 k2)
  have B1 := Lib.hid (((Below.refl _ w).alloc (Nat.le_refl _) (.cells (flC a b) 30)).alloc (by simp) (.cells (flC zE zE) 30))
  have HC := Lib.hid (flL_client a b)
  have HS := Lib.hid (flL_server a b ha)
  have I1 := Lib.hid (en_infoL a ha)
  have I2 := Lib.hid (en_infoL b hb)
  have HBU := Lib.hid (built_flL b a hb ha)
  have HFS := Lib.hid (show (Tryz.prog.info? 30).map (·.size) = some (flC b a).size by rw [flC_size _ _ hb ha]; exact flSize)
  have HFZ := Lib.hid (show (flC zE zE).size = (flC b a).size by rw [flC_size _ _ hb ha]; rfl)
  have HFO := Lib.hid (flC_one b a)
  have HFN := Lib.hid (flC_size b a hb ha)
  clear k1 k2 hz
  generalize flC a b = cf at *
  generalize flC b a = cg at *
  generalize enL a = e1 at *
  generalize enL b = e2 at *
  clear ha hb
  go_enter Tryz.func16, Tryz.ntmps16
  go_wp2_with (first | (refine wpList_load_part 28 (.tmp 3) w.heap.size 18 30 cf e2 _ K1.out.1 HS.out (by rfl) (by rfl) Tryz.underlying28 rfl I2.out (by rfl) ?_) | (refine wpList_load_part 28 (.tmp 5) w.heap.size 0 30 cf e1 _ K1.out.1 HC.out (by rfl) (by rfl) Tryz.underlying28 rfl I1.out (by rfl) ?_) | ((with_reducible refine at_build 30 #[(0, .tmp 4), (1, .tmp 6)] ?_); refine wpList_build_eq 30 #[(0, .tmp 4), (1, .tmp 6)] cg (by rfl) HBU.out (by rfl) ?_) | ((with_reducible refine at_store 30 (.tmp 2) (.tmp 7) ?_); refine wpList_store_blk 30 (.tmp 2) (.tmp 7) (w.heap.size + 1) 30 (flC zE zE) cg K1.out.2 (by rfl) (by rfl) (by rfl) (by rfl) HFS.out HFZ.out HFO.out (by rfl) ?_; intro w9 hk hg hs; have V9 := Lib.hid hk; have G9 := Lib.hid (And.intro hg hs); clear hk hg hs))
  exact bodyPost_ret (v := .agg cg) (results_fl1 Tryz.results16 _ _ (w.heap.size + 1) cg rfl V9.out HFN.out) rfl ⟨rfl, B1.out.grown G9.out.1 B1.out.size (fun k e => by cases e; exact Nat.le_succ _)⟩

theorem yieldsIf_build {P : Program} {ops : Array Oper} {o : Oper} {a : Act} {S : World → Prop} (t : TypeId) (parts : Array (Nat × Operand)) (cells : Array Value) (ho : o.op = .build t parts)
    (hc : P.built t (parts.toList.map fun p => (p.1, a.eval p.2)) = some cells) (hw : Region.wanted o (yielded ops a.tmps) = true) : YieldsIf P ops S o (.agg cells) a :=
  .inl ⟨hw, fun w _ => by
    have hc' : P.built t (parts.map fun (i, x) => (i, a.eval x)).toList = some cells := by rw [Array.toList_map]; exact hc
    unfold execOp
    simp only [ho, Sem.run_bind, run_build w t _ cells hc', Result.andThen_ok]
    rfl⟩
abbrev twoA : En := (false, ip 2, 1025)
abbrev twoB : En := (false, ip 1, 124)
abbrev sixA : En := (true, ip 2, 1024)
abbrev badB : En := (false, [10, 0, 0, 1, 0, 0, 0, 0, 0, 1, 0, 0, 0, 0, 0, 0], 123)
abbrev lo1 : En := (true, [0, 0, 0, 0, 0, 0, 0, 0, 0, 0, 0, 0, 0, 0, 0, 1], 5)
theorem kn_b : (flC oneA oneB).setIfInBounds 17 (.int .u16 1025) = flC twoA oneB := by kernel_rfl
theorem kn_c : (flC oneA oneB).setIfInBounds 35 (.int .u16 124) = flC oneA twoB := by kernel_rfl
theorem kn_d : (flC oneA oneB).setIfInBounds 0 (.bool true) = flC sixA oneB := by kernel_rfl
theorem kn_bad : (flC oneA oneB).setIfInBounds 28 (.int .u8 1) = flC oneA badB := by kernel_rfl
theorem kn_t : flowV oneA badB = .tuple #[.string ⟨#[]⟩, .int .i64 2] := by
  have h : (mayB oneA.1 oneA.2.1 && mayB badB.1 badB.2.1) = false := by decide +kernel
  rw [flowV, h]
  rfl
theorem kn_k : keyV oneA badB 0 = .tuple #[.string ⟨#[]⟩, .int .i64 2] := by
  have h : (mayB oneA.1 oneA.2.1 && mayB badB.1 badB.2.1) = false := by decide +kernel
  rw [keyV, h]
  rfl
theorem kn_p1 : flowPV [58, 58, 49, 58, 53, 32, 62, 32, 49, 48, 46, 48, 46, 48, 46, 49, 58, 49, 50, 51] = .tuple #[.agg (flC zE zE), .int .i64 9] := by
  have h : flowP [58, 58, 49, 58, 53, 32, 62, 32, 49, 48, 46, 48, 46, 48, 46, 49, 58, 49, 50, 51] = none := by decide +kernel
  rw [flowPV, h]
theorem kn_p2 : flowPV [91, 58, 58, 49, 93, 58, 53, 32, 62, 32, 49, 48, 46, 48, 46, 48, 46, 49, 58, 49, 50, 51] = .tuple #[.agg (flC lo1 oneB), .int .i64 0] := by
  have h : flowP [91, 58, 58, 49, 93, 58, 53, 32, 62, 32, 49, 48, 46, 48, 46, 48, 46, 49, 58, 49, 50, 51] = some (lo1, oneB) := by decide +kernel
  rw [flowPV, h]
theorem kn_k0 : keyPV [49, 48, 46, 48, 46, 48, 46, 50, 58, 49, 48, 50, 52, 32, 62, 32, 49, 48, 46, 48, 46, 48, 46, 49, 58, 49, 50, 51, 32, 48, 48, 48, 48, 48, 48, 48, 48, 48, 48, 48, 48, 48, 48, 70, 70] = .tuple #[.agg (keC zE zE 0), .int .i64 9] := by
  have h : keyP [49, 48, 46, 48, 46, 48, 46, 50, 58, 49, 48, 50, 52, 32, 62, 32, 49, 48, 46, 48, 46, 48, 46, 49, 58, 49, 50, 51, 32, 48, 48, 48, 48, 48, 48, 48, 48, 48, 48, 48, 48, 48, 48, 70, 70] = none := by decide +kernel
  rw [keyPV, h]
theorem kn_k1 : keyPV [49, 48, 46, 48, 46, 48, 46, 50, 58, 49, 48, 50, 52, 32, 62, 32, 49, 48, 46, 48, 46, 48, 46, 49, 58, 49, 50, 51, 32, 48, 48, 48, 48, 48, 48, 48, 48, 48, 48, 48, 48, 48, 102, 102] = .tuple #[.agg (keC zE zE 0), .int .i64 9] := by
  have h : keyP [49, 48, 46, 48, 46, 48, 46, 50, 58, 49, 48, 50, 52, 32, 62, 32, 49, 48, 46, 48, 46, 48, 46, 49, 58, 49, 50, 51, 32, 48, 48, 48, 48, 48, 48, 48, 48, 48, 48, 48, 48, 48, 102, 102] = none := by decide +kernel
  rw [keyPV, h]
theorem kn_k2 : keyPV [49, 48, 46, 48, 46, 48, 46, 50, 58, 49, 48, 50, 52, 32, 62, 32, 49, 48, 46, 48, 46, 48, 46, 49, 58, 49, 50, 51] = .tuple #[.agg (keC zE zE 0), .int .i64 9] := by
  have h : keyP [49, 48, 46, 48, 46, 48, 46, 50, 58, 49, 48, 50, 52, 32, 62, 32, 49, 48, 46, 48, 46, 48, 46, 49, 58, 49, 50, 51] = none := by decide +kernel
  rw [keyPV, h]
theorem kn_k3 : keyPV [] = .tuple #[.agg (keC zE zE 0), .int .i64 9] := by
  have h : keyP [] = none := by decide +kernel
  rw [keyPV, h]
theorem kn_less : lessF (oneA, oneB) (oneA, twoB) = true ∧ lessF (oneA, twoB) (twoA, oneB) = true ∧ lessF (twoA, oneB) (sixA, oneB) = true ∧ lessF (oneA, oneB) (oneA, oneB) = false := by
  refine ⟨?_, ?_, ?_, ?_⟩ <;> decide +kernel

set_option maxRecDepth 100000 in
set_option maxHeartbeats 16000000 in
theorem known_walk (w : World) (env : Env w) : Calls Tryz.prog 4 #[] w fun e w' => e = .returned (.bool true) ∧ Below w.heap.size w w' := by
  have E := Lib.hid env
  clear env
  have B0 := Lib.hid (Below.refl w.heap.size w)
  have HFS := Lib.hid (fun (a b : En) (ha : a.2.1.length = 16) (hb : b.2.1.length = 16) => (show (Tryz.prog.info? 30).map (·.size) = some (flC a b).size by rw [flC_size _ _ ha hb]; exact flSize))
  have HYZ := Lib.hid (show (Tryz.prog.info? 36).map (·.size) = some (keC zE zE 0).size from kySize)
  have HOZ := Lib.hid (keC_one zE zE 0)
  have HBK := Lib.hid (built_ke oneA badB rfl rfl)
  have HQ := Lib.hid (show ∀ W, (Op.equalIn 10000 30 (.agg (flC oneB oneA)) (.agg (flC oneB oneA))).run Tryz.prog W = .ok true W from fun W => (eq_flow (oneB, oneA) (oneB, oneA) rfl rfl rfl rfl W).trans (congrArg (fun v => Result.ok v W) (decide_eq_true rfl)))
  go_enter Tryz.func4, Tryz.ntmps4
  go_wp2_with fail
  refine (one_any _).mono ?_
  rintro e w1 ⟨rfl, b⟩
  have B1 := Lib.hid (B0.out.trans (b.mono B0.out.size))
  clear b B0 
  go_wp2_with fail
  refine (one_any _).mono ?_
  rintro e w2 ⟨rfl, b⟩
  have B2 := Lib.hid (B1.out.trans (b.mono B1.out.size))
  clear b B1 
  go_wp2_with fail
  refine (one_any _).mono ?_
  rintro e w3 ⟨rfl, b⟩
  have B3 := Lib.hid (B2.out.trans (b.mono B2.out.size))
  clear b B2 
  go_wp2_with fail
  refine (one_any _).mono ?_
  rintro e w4 ⟨rfl, b⟩
  have B4 := Lib.hid (B3.out.trans (b.mono B3.out.size))
  clear b B3 
  have hz1 : (w4.alloc (.cells (flC zE zE) 30)).heap.size = w4.heap.size + 1 := by simp
  have hz2 : ((w4.alloc (.cells (flC zE zE) 30)).alloc (.cells (flC zE zE) 30)).heap.size = w4.heap.size + 2 := by simp
  have hz3 : (((w4.alloc (.cells (flC zE zE) 30)).alloc (.cells (flC zE zE) 30)).alloc (.cells (flC zE zE) 30)).heap.size = w4.heap.size + 3 := by simp
  have n0 := (((Blk.new w4 30 (flC zE zE)).alloc (.cells (flC zE zE) 30)).alloc (.cells (flC zE zE) 30)).alloc (.cells (flC zE zE) 30)
  have n1 := ((Blk.new (w4.alloc (.cells (flC zE zE) 30)) 30 (flC zE zE)).alloc (.cells (flC zE zE) 30)).alloc (.cells (flC zE zE) 30)
  have n2 := (Blk.new ((w4.alloc (.cells (flC zE zE) 30)).alloc (.cells (flC zE zE) 30)) 30 (flC zE zE)).alloc (.cells (flC zE zE) 30)
  have n3 := Blk.new (((w4.alloc (.cells (flC zE zE) 30)).alloc (.cells (flC zE zE) 30)).alloc (.cells (flC zE zE) 30)) 30 (flC zE zE)
  rw [hz1] at n1
  rw [hz2] at n2
  rw [hz3] at n3
  have N0 := Lib.hid n0
  have N1 := Lib.hid n1
  have N2 := Lib.hid n2
  have N3 := Lib.hid n3
  have BA := Lib.hid ((((B4.out.alloc B4.out.size (.cells (flC zE zE) 30)).alloc (by have := B4.out.size; simp; omega) (.cells (flC zE zE) 30)).alloc (by have := B4.out.size; simp; omega) (.cells (flC zE zE) 30)).alloc (by have := B4.out.size; simp; omega) (.cells (flC zE zE) 30))
  have hwz := B4.out.size
  clear hz1 hz2 hz3 n0 n1 n2 n3 B4
  go_upto_region 2 with (first | ((with_reducible refine at_store 30 (.tmp 1) (.tmp 23) ?_); refine wpList_store_blk 30 (.tmp 1) (.tmp 23) w4.heap.size 30 (flC zE zE) (flC oneA oneB) N0.out (by rfl) (by rfl) (by rfl) (by rfl) (HFS.out _ _ rfl rfl) (by rfl) (flC_one oneA oneB) (by rfl) ?_; intro x0 hk hg hs; have BS0 := Lib.hid (BA.out.grown hg (by have := BA.out.size; omega) (fun k e => by injection e with e; omega)); have S0_0 := Lib.hid hk; have S0_1 := Lib.hid (N1.out.grown hg (fun e => by have := Option.some.inj e; omega)); have S0_2 := Lib.hid (N2.out.grown hg (fun e => by have := Option.some.inj e; omega)); have S0_3 := Lib.hid (N3.out.grown hg (fun e => by have := Option.some.inj e; omega)); clear hk hg hs) | ((with_reducible refine at_store 30 (.tmp 2) (.tmp 24) ?_); refine wpList_store_blk 30 (.tmp 2) (.tmp 24) (w4.heap.size + 1) 30 (flC zE zE) (flC oneA oneB) S0_1.out (by rfl) (by rfl) (by rfl) (by rfl) (HFS.out _ _ rfl rfl) (by rfl) (flC_one oneA oneB) (by rfl) ?_; intro x1 hk hg hs; have BS1 := Lib.hid (BS0.out.grown hg (by have := BS0.out.size; omega) (fun k e => by injection e with e; omega)); have S1_0 := Lib.hid (S0_0.out.grown hg (fun e => by have := Option.some.inj e; omega)); have S1_1 := Lib.hid hk; have S1_2 := Lib.hid (S0_2.out.grown hg (fun e => by have := Option.some.inj e; omega)); have S1_3 := Lib.hid (S0_3.out.grown hg (fun e => by have := Option.some.inj e; omega)); clear hk hg hs) | ((with_reducible refine at_store 30 (.tmp 3) (.tmp 25) ?_); refine wpList_store_blk 30 (.tmp 3) (.tmp 25) (w4.heap.size + 2) 30 (flC zE zE) (flC oneA oneB) S1_2.out (by rfl) (by rfl) (by rfl) (by rfl) (HFS.out _ _ rfl rfl) (by rfl) (flC_one oneA oneB) (by rfl) ?_; intro x2 hk hg hs; have BS2 := Lib.hid (BS1.out.grown hg (by have := BS1.out.size; omega) (fun k e => by injection e with e; omega)); have S2_0 := Lib.hid (S1_0.out.grown hg (fun e => by have := Option.some.inj e; omega)); have S2_1 := Lib.hid (S1_1.out.grown hg (fun e => by have := Option.some.inj e; omega)); have S2_2 := Lib.hid hk; have S2_3 := Lib.hid (S1_3.out.grown hg (fun e => by have := Option.some.inj e; omega)); clear hk hg hs) | ((with_reducible refine at_store 30 (.tmp 4) (.tmp 26) ?_); refine wpList_store_blk 30 (.tmp 4) (.tmp 26) (w4.heap.size + 3) 30 (flC zE zE) (flC oneA oneB) S2_3.out (by rfl) (by rfl) (by rfl) (by rfl) (HFS.out _ _ rfl rfl) (by rfl) (flC_one oneA oneB) (by rfl) ?_; intro x3 hk hg hs; have BS3 := Lib.hid (BS2.out.grown hg (by have := BS2.out.size; omega) (fun k e => by injection e with e; omega)); have S3_0 := Lib.hid (S2_0.out.grown hg (fun e => by have := Option.some.inj e; omega)); have S3_1 := Lib.hid (S2_1.out.grown hg (fun e => by have := Option.some.inj e; omega)); have S3_2 := Lib.hid (S2_2.out.grown hg (fun e => by have := Option.some.inj e; omega)); have S3_3 := Lib.hid hk; clear hk hg hs))
  clear BA BS0 BS1 BS2 N0 N1 N2 N3 S0_0 S0_1 S0_2 S0_3 S1_0 S1_1 S1_2 S1_3 S2_0 S2_1 S2_2 S2_3
  have q1 := S3_1.out.cell 17
  have q2 := S3_2.out.cell 35
  have q3 := S3_3.out.cell 0
  have f1 := S3_1.out.frozen 17
  have f2 := S3_2.out.frozen 35
  have f3 := S3_3.out.frozen 0
  rw [show (flC oneA oneB)[17]? = some (.int .u16 1024) by kernel_rfl] at q1
  rw [show (flC oneA oneB)[35]? = some (.int .u16 123) by kernel_rfl] at q2
  rw [show (flC oneA oneB)[0]? = some (.bool false) by kernel_rfl] at q3
  have q2' : (x3.setCell ⟨w4.heap.size + 1, 17, none⟩ (.int .u16 1025)).cell? ⟨w4.heap.size + 2, 35, none⟩ = some (.int .u16 123) := (cell_far (by show w4.heap.size + 2 ≠ w4.heap.size + 1; omega) _).trans q2
  have f2' : (x3.setCell ⟨w4.heap.size + 1, 17, none⟩ (.int .u16 1025)).frozen? ⟨w4.heap.size + 2, 35, none⟩ = false := (frozen_far (by show w4.heap.size + 2 ≠ w4.heap.size + 1; omega) _).trans f2
  have q3' : ((x3.setCell ⟨w4.heap.size + 1, 17, none⟩ (.int .u16 1025)).setCell ⟨w4.heap.size + 2, 35, none⟩ (.int .u16 124)).cell? ⟨w4.heap.size + 3, 0, none⟩ = some (.bool false) := (cell_far (by show w4.heap.size + 3 ≠ w4.heap.size + 2; omega) _).trans ((cell_far (by show w4.heap.size + 3 ≠ w4.heap.size + 1; omega) _).trans q3)
  have f3' : ((x3.setCell ⟨w4.heap.size + 1, 17, none⟩ (.int .u16 1025)).setCell ⟨w4.heap.size + 2, 35, none⟩ (.int .u16 124)).frozen? ⟨w4.heap.size + 3, 0, none⟩ = false := (frozen_far (by show w4.heap.size + 3 ≠ w4.heap.size + 2; omega) _).trans ((frozen_far (by show w4.heap.size + 3 ≠ w4.heap.size + 1; omega) _).trans f3)
  clear q2 f2 q3 f3
  have TA := Lib.hid (((S3_0.out.far (p := ⟨w4.heap.size + 1, 17, none⟩) (by show w4.heap.size ≠ w4.heap.size + 1; omega) (.int .u16 1025)).far (p := ⟨w4.heap.size + 2, 35, none⟩) (by show w4.heap.size ≠ w4.heap.size + 2; omega) (.int .u16 124)).far (p := ⟨w4.heap.size + 3, 0, none⟩) (by show w4.heap.size ≠ w4.heap.size + 3; omega) (.bool true))
  have TB := Lib.hid (((S3_1.out.set_ 17 (.int .u16 1025)).far (p := ⟨w4.heap.size + 2, 35, none⟩) (by show w4.heap.size + 1 ≠ w4.heap.size + 2; omega) (.int .u16 124)).far (p := ⟨w4.heap.size + 3, 0, none⟩) (by show w4.heap.size + 1 ≠ w4.heap.size + 3; omega) (.bool true))
  have TC := Lib.hid (((S3_2.out.far (p := ⟨w4.heap.size + 1, 17, none⟩) (by show w4.heap.size + 2 ≠ w4.heap.size + 1; omega) (.int .u16 1025)).set_ 35 (.int .u16 124)).far (p := ⟨w4.heap.size + 3, 0, none⟩) (by show w4.heap.size + 2 ≠ w4.heap.size + 3; omega) (.bool true))
  have TD := Lib.hid (((S3_3.out.far (p := ⟨w4.heap.size + 1, 17, none⟩) (by show w4.heap.size + 3 ≠ w4.heap.size + 1; omega) (.int .u16 1025)).far (p := ⟨w4.heap.size + 2, 35, none⟩) (by show w4.heap.size + 3 ≠ w4.heap.size + 2; omega) (.int .u16 124)).set_ 0 (.bool true))
  rw [kn_b] at TB
  rw [kn_c] at TC
  rw [kn_d] at TD
  have BT := Lib.hid (((BS3.out.setCell (p := ⟨w4.heap.size + 1, 17, none⟩) (by show w.heap.size ≤ w4.heap.size + 1; omega) (.int .u16 1025)).setCell (p := ⟨w4.heap.size + 2, 35, none⟩) (by show w.heap.size ≤ w4.heap.size + 2; omega) (.int .u16 124)).setCell (p := ⟨w4.heap.size + 3, 0, none⟩) (by show w.heap.size ≤ w4.heap.size + 3; omega) (.bool true))
  clear BS3 S3_0 S3_1 S3_2 S3_3
  go_upto_region 5 with fail
  generalize ((x3.setCell ⟨w4.heap.size + 1, 17, none⟩ (.int .u16 1025)).setCell ⟨w4.heap.size + 2, 35, none⟩ (.int .u16 124)).setCell ⟨w4.heap.size + 3, 0, none⟩ (.bool true) = wT at *
  clear q1 f1 q2' f2' q3' f3'
  go_wp2_with fail
  refine (one_any _).mono ?_
  rintro e w5 ⟨rfl, b⟩
  have B5 := Lib.hid (BT.out.trans (b.mono BT.out.size))
  have KA_5 := Lib.hid (TA.out.keep b)
  have KB_5 := Lib.hid (TB.out.keep b)
  have KC_5 := Lib.hid (TC.out.keep b)
  have KD_5 := Lib.hid (TD.out.keep b)
  clear b BT TA TB TC TD
  have LT5 := KD_5.out.lt
  have G5L := B5.out.size
  go_upto_region 6 with ((with_reducible refine at_store 30 (.tmp 5) (.tmp 42) ?_); refine wpList_store_blk 30 (.tmp 5) (.tmp 42) w5.heap.size 30 (flC zE zE) (flC oneA oneB) (Blk.new w5 30 (flC zE zE)) (by rfl) (by rfl) (by rfl) (by rfl) (HFS.out _ _ rfl rfl) (by rfl) (flC_one oneA oneB) (by rfl) ?_; intro w6 hk hg hs; have B6 := Lib.hid (print_world B5.out B5.out.size hg); have KA_6 := Lib.hid ((KA_5.out.alloc _).grown hg (fun e => by have := Option.some.inj e; have := KA_5.out.lt; omega)); have KB_6 := Lib.hid ((KB_5.out.alloc _).grown hg (fun e => by have := Option.some.inj e; have := KB_5.out.lt; omega)); have KC_6 := Lib.hid ((KC_5.out.alloc _).grown hg (fun e => by have := Option.some.inj e; have := KC_5.out.lt; omega)); have KD_6 := Lib.hid ((KD_5.out.alloc _).grown hg (fun e => by have := Option.some.inj e; have := KD_5.out.lt; omega)); have KE_6 := Lib.hid hk; clear hk hg hs)
  clear B5 KA_5 KB_5 KC_5 KD_5
  have q5 := KE_6.out.cell 28
  have f5 := KE_6.out.frozen 28
  rw [show (flC oneA oneB)[28]? = some (.int .u8 0) by kernel_rfl] at q5
  have hmm := KE_6.out.lt
  have UE := Lib.hid (KE_6.out.set_ 28 (.int .u8 1))
  rw [kn_bad] at UE
  have hgd : w4.heap.size + 3 < w5.heap.size := LT5
  have UA := Lib.hid (KA_6.out.far (p := ⟨w5.heap.size, 28, none⟩) (by show w4.heap.size ≠ w5.heap.size; omega) (.int .u8 1))
  have UB := Lib.hid (KB_6.out.far (p := ⟨w5.heap.size, 28, none⟩) (by show w4.heap.size + 1 ≠ w5.heap.size; omega) (.int .u8 1))
  have UC := Lib.hid (KC_6.out.far (p := ⟨w5.heap.size, 28, none⟩) (by show w4.heap.size + 2 ≠ w5.heap.size; omega) (.int .u8 1))
  have UD := Lib.hid (KD_6.out.far (p := ⟨w5.heap.size, 28, none⟩) (by show w4.heap.size + 3 ≠ w5.heap.size; omega) (.int .u8 1))
  have BU := Lib.hid (B6.out.setCell (p := ⟨w5.heap.size, 28, none⟩) (by show w.heap.size ≤ w5.heap.size; exact G5L) (.int .u8 1))
  go_upto_region 7 with fail
  generalize w6.setCell ⟨w5.heap.size, 28, none⟩ (.int .u8 1) = wU at *
  clear q5 f5 hgd hmm B6 KA_6 KB_6 KC_6 KD_6 KE_6
  go_wp2_with (refine wpList_load_blk 30 (.tmp 5) w5.heap.size 30 (flC oneA badB) _ UE.out (by rfl) (by rfl) Tryz.underlying30 rfl (HFS.out _ _ rfl rfl) (by rfl) ?_)
  refine (text_any oneA badB rfl rfl (by decide) (by decide) _ (E.out.below BU.out)).mono ?_
  rintro e w7 ⟨rfl, b⟩
  have B7 := Lib.hid (BU.out.trans (b.mono BU.out.size))
  have KA_7 := Lib.hid (UA.out.keep b)
  have KB_7 := Lib.hid (UB.out.keep b)
  have KC_7 := Lib.hid (UC.out.keep b)
  have KD_7 := Lib.hid (UD.out.keep b)
  have KE_7 := Lib.hid (UE.out.keep b)
  clear b BU UA UB UC UD UE
  rw [kn_t]
  go_wp2_with (first | (refine wpList_load_blk 30 (.tmp 5) w5.heap.size 30 (flC oneA badB) _ KE_7.out (by rfl) (by rfl) Tryz.underlying30 rfl (HFS.out _ _ rfl rfl) (by rfl) ?_) | ((with_reducible refine at_build 36 #[(0, .tmp 53)] ?_); refine wpList_build_eq 36 #[(0, .tmp 53)] (keC oneA badB 0) (by rfl) HBK.out (by rfl) ?_))
  refine (ktext_any oneA badB 0 rfl rfl (by decide) (by decide) (by decide) _ (E.out.below B7.out)).mono ?_
  rintro e w8 ⟨rfl, b⟩
  have B8 := Lib.hid (B7.out.trans (b.mono B7.out.size))
  have KA_8 := Lib.hid (KA_7.out.keep b)
  have KB_8 := Lib.hid (KB_7.out.keep b)
  have KC_8 := Lib.hid (KC_7.out.keep b)
  have KD_8 := Lib.hid (KD_7.out.keep b)
  have KE_8 := Lib.hid (KE_7.out.keep b)
  clear b B7 KA_7 KB_7 KC_7 KD_7 KE_7
  rw [kn_k]
  go_wp2_with fail
  refine (fparse_any ⟨#[58, 58, 49, 58, 53, 32, 62, 32, 49, 48, 46, 48, 46, 48, 46, 49, 58, 49, 50, 51]⟩ (by decide) _ (E.out.below B8.out)).mono ?_
  rintro e w9 ⟨rfl, b⟩
  have B9 := Lib.hid (B8.out.trans (b.mono B8.out.size))
  have KA_9 := Lib.hid (KA_8.out.keep b)
  have KB_9 := Lib.hid (KB_8.out.keep b)
  have KC_9 := Lib.hid (KC_8.out.keep b)
  have KD_9 := Lib.hid (KD_8.out.keep b)
  clear b B8 KA_8 KB_8 KC_8 KD_8
  rw [show (⟨#[58, 58, 49, 58, 53, 32, 62, 32, 49, 48, 46, 48, 46, 48, 46, 49, 58, 49, 50, 51]⟩ : ByteArray).data.toList = [58, 58, 49, 58, 53, 32, 62, 32, 49, 48, 46, 48, 46, 48, 46, 49, 58, 49, 50, 51] from rfl, kn_p1]
  go_upto_region 10 with ((with_reducible refine at_store 30 (.tmp 10) (.tmp 60) ?_); refine wpList_store_blk 30 (.tmp 10) (.tmp 60) w9.heap.size 30 (flC zE zE) (flC zE zE) (Blk.new w9 30 (flC zE zE)) (by rfl) (by rfl) (by rfl) (by rfl) (HFS.out _ _ rfl rfl) (by rfl) (flC_one zE zE) (by rfl) ?_; intro w10 hk hg hs; have B10 := Lib.hid (print_world B9.out B9.out.size hg); have KA_10 := Lib.hid ((KA_9.out.alloc _).grown hg (fun e => by have := Option.some.inj e; have := KA_9.out.lt; omega)); have KB_10 := Lib.hid ((KB_9.out.alloc _).grown hg (fun e => by have := Option.some.inj e; have := KB_9.out.lt; omega)); have KC_10 := Lib.hid ((KC_9.out.alloc _).grown hg (fun e => by have := Option.some.inj e; have := KC_9.out.lt; omega)); have KD_10 := Lib.hid ((KD_9.out.alloc _).grown hg (fun e => by have := Option.some.inj e; have := KD_9.out.lt; omega)); clear hk hg hs)
  clear B9 KA_9 KB_9 KC_9 KD_9
  go_wp2_with fail
  refine (fparse_any ⟨#[91, 58, 58, 49, 93, 58, 53, 32, 62, 32, 49, 48, 46, 48, 46, 48, 46, 49, 58, 49, 50, 51]⟩ (by decide) _ (E.out.below B10.out)).mono ?_
  rintro e w11 ⟨rfl, b⟩
  have B11 := Lib.hid (B10.out.trans (b.mono B10.out.size))
  have KA_11 := Lib.hid (KA_10.out.keep b)
  have KB_11 := Lib.hid (KB_10.out.keep b)
  have KC_11 := Lib.hid (KC_10.out.keep b)
  have KD_11 := Lib.hid (KD_10.out.keep b)
  clear b B10 KA_10 KB_10 KC_10 KD_10
  rw [show (⟨#[91, 58, 58, 49, 93, 58, 53, 32, 62, 32, 49, 48, 46, 48, 46, 48, 46, 49, 58, 49, 50, 51]⟩ : ByteArray).data.toList = [91, 58, 58, 49, 93, 58, 53, 32, 62, 32, 49, 48, 46, 48, 46, 48, 46, 49, 58, 49, 50, 51] from rfl, kn_p2]
  go_upto_region 11 with ((with_reducible refine at_store 30 (.tmp 12) (.tmp 64) ?_); refine wpList_store_blk 30 (.tmp 12) (.tmp 64) w11.heap.size 30 (flC zE zE) (flC lo1 oneB) (Blk.new w11 30 (flC zE zE)) (by rfl) (by rfl) (by rfl) (by rfl) (HFS.out _ _ rfl rfl) (by rfl) (flC_one lo1 oneB) (by rfl) ?_; intro w12 hk hg hs; have B12 := Lib.hid (print_world B11.out B11.out.size hg); have KA_12 := Lib.hid ((KA_11.out.alloc _).grown hg (fun e => by have := Option.some.inj e; have := KA_11.out.lt; omega)); have KB_12 := Lib.hid ((KB_11.out.alloc _).grown hg (fun e => by have := Option.some.inj e; have := KB_11.out.lt; omega)); have KC_12 := Lib.hid ((KC_11.out.alloc _).grown hg (fun e => by have := Option.some.inj e; have := KC_11.out.lt; omega)); have KD_12 := Lib.hid ((KD_11.out.alloc _).grown hg (fun e => by have := Option.some.inj e; have := KD_11.out.lt; omega)); have KX_12 := Lib.hid hk; clear hk hg hs)
  clear B11 KA_11 KB_11 KC_11 KD_11
  go_wp2_with fail
  refine (pkey_any ⟨#[49, 48, 46, 48, 46, 48, 46, 50, 58, 49, 48, 50, 52, 32, 62, 32, 49, 48, 46, 48, 46, 48, 46, 49, 58, 49, 50, 51, 32, 48, 48, 48, 48, 48, 48, 48, 48, 48, 48, 48, 48, 48, 48, 70, 70]⟩ (by decide) _ (E.out.below B12.out)).mono ?_
  rintro e w13 ⟨rfl, b⟩
  have B13 := Lib.hid (B12.out.trans (b.mono B12.out.size))
  have KA_13 := Lib.hid (KA_12.out.keep b)
  have KB_13 := Lib.hid (KB_12.out.keep b)
  have KC_13 := Lib.hid (KC_12.out.keep b)
  have KD_13 := Lib.hid (KD_12.out.keep b)
  have KX_13 := Lib.hid (KX_12.out.keep b)
  clear b B12 KA_12 KB_12 KC_12 KD_12 KX_12
  rw [show (⟨#[49, 48, 46, 48, 46, 48, 46, 50, 58, 49, 48, 50, 52, 32, 62, 32, 49, 48, 46, 48, 46, 48, 46, 49, 58, 49, 50, 51, 32, 48, 48, 48, 48, 48, 48, 48, 48, 48, 48, 48, 48, 48, 48, 70, 70]⟩ : ByteArray).data.toList = [49, 48, 46, 48, 46, 48, 46, 50, 58, 49, 48, 50, 52, 32, 62, 32, 49, 48, 46, 48, 46, 48, 46, 49, 58, 49, 50, 51, 32, 48, 48, 48, 48, 48, 48, 48, 48, 48, 48, 48, 48, 48, 48, 70, 70] from rfl, kn_k0]
  go_upto_region 12 with ((with_reducible refine at_store 36 (.tmp 14) (.tmp 68) ?_); refine wpList_store_blk 36 (.tmp 14) (.tmp 68) w13.heap.size 36 (keC zE zE 0) (keC zE zE 0) (Blk.new w13 36 (keC zE zE 0)) (by rfl) (by rfl) (by rfl) (by rfl) HYZ.out (by rfl) HOZ.out (by rfl) ?_; intro w14 hk hg hs; have B14 := Lib.hid (print_world B13.out B13.out.size hg); have KA_14 := Lib.hid ((KA_13.out.alloc _).grown hg (fun e => by have := Option.some.inj e; have := KA_13.out.lt; omega)); have KB_14 := Lib.hid ((KB_13.out.alloc _).grown hg (fun e => by have := Option.some.inj e; have := KB_13.out.lt; omega)); have KC_14 := Lib.hid ((KC_13.out.alloc _).grown hg (fun e => by have := Option.some.inj e; have := KC_13.out.lt; omega)); have KD_14 := Lib.hid ((KD_13.out.alloc _).grown hg (fun e => by have := Option.some.inj e; have := KD_13.out.lt; omega)); have KX_14 := Lib.hid ((KX_13.out.alloc _).grown hg (fun e => by have := Option.some.inj e; have := KX_13.out.lt; omega)); clear hk hg hs)
  clear B13 KA_13 KB_13 KC_13 KD_13 KX_13
  go_wp2_with fail
  refine (pkey_any ⟨#[49, 48, 46, 48, 46, 48, 46, 50, 58, 49, 48, 50, 52, 32, 62, 32, 49, 48, 46, 48, 46, 48, 46, 49, 58, 49, 50, 51, 32, 48, 48, 48, 48, 48, 48, 48, 48, 48, 48, 48, 48, 48, 102, 102]⟩ (by decide) _ (E.out.below B14.out)).mono ?_
  rintro e w15 ⟨rfl, b⟩
  have B15 := Lib.hid (B14.out.trans (b.mono B14.out.size))
  have KA_15 := Lib.hid (KA_14.out.keep b)
  have KB_15 := Lib.hid (KB_14.out.keep b)
  have KC_15 := Lib.hid (KC_14.out.keep b)
  have KD_15 := Lib.hid (KD_14.out.keep b)
  have KX_15 := Lib.hid (KX_14.out.keep b)
  clear b B14 KA_14 KB_14 KC_14 KD_14 KX_14
  rw [show (⟨#[49, 48, 46, 48, 46, 48, 46, 50, 58, 49, 48, 50, 52, 32, 62, 32, 49, 48, 46, 48, 46, 48, 46, 49, 58, 49, 50, 51, 32, 48, 48, 48, 48, 48, 48, 48, 48, 48, 48, 48, 48, 48, 102, 102]⟩ : ByteArray).data.toList = [49, 48, 46, 48, 46, 48, 46, 50, 58, 49, 48, 50, 52, 32, 62, 32, 49, 48, 46, 48, 46, 48, 46, 49, 58, 49, 50, 51, 32, 48, 48, 48, 48, 48, 48, 48, 48, 48, 48, 48, 48, 48, 102, 102] from rfl, kn_k1]
  go_upto_region 13 with ((with_reducible refine at_store 36 (.tmp 16) (.tmp 72) ?_); refine wpList_store_blk 36 (.tmp 16) (.tmp 72) w15.heap.size 36 (keC zE zE 0) (keC zE zE 0) (Blk.new w15 36 (keC zE zE 0)) (by rfl) (by rfl) (by rfl) (by rfl) HYZ.out (by rfl) HOZ.out (by rfl) ?_; intro w16 hk hg hs; have B16 := Lib.hid (print_world B15.out B15.out.size hg); have KA_16 := Lib.hid ((KA_15.out.alloc _).grown hg (fun e => by have := Option.some.inj e; have := KA_15.out.lt; omega)); have KB_16 := Lib.hid ((KB_15.out.alloc _).grown hg (fun e => by have := Option.some.inj e; have := KB_15.out.lt; omega)); have KC_16 := Lib.hid ((KC_15.out.alloc _).grown hg (fun e => by have := Option.some.inj e; have := KC_15.out.lt; omega)); have KD_16 := Lib.hid ((KD_15.out.alloc _).grown hg (fun e => by have := Option.some.inj e; have := KD_15.out.lt; omega)); have KX_16 := Lib.hid ((KX_15.out.alloc _).grown hg (fun e => by have := Option.some.inj e; have := KX_15.out.lt; omega)); clear hk hg hs)
  clear B15 KA_15 KB_15 KC_15 KD_15 KX_15
  go_wp2_with fail
  refine (pkey_any ⟨#[49, 48, 46, 48, 46, 48, 46, 50, 58, 49, 48, 50, 52, 32, 62, 32, 49, 48, 46, 48, 46, 48, 46, 49, 58, 49, 50, 51]⟩ (by decide) _ (E.out.below B16.out)).mono ?_
  rintro e w17 ⟨rfl, b⟩
  have B17 := Lib.hid (B16.out.trans (b.mono B16.out.size))
  have KA_17 := Lib.hid (KA_16.out.keep b)
  have KB_17 := Lib.hid (KB_16.out.keep b)
  have KC_17 := Lib.hid (KC_16.out.keep b)
  have KD_17 := Lib.hid (KD_16.out.keep b)
  have KX_17 := Lib.hid (KX_16.out.keep b)
  clear b B16 KA_16 KB_16 KC_16 KD_16 KX_16
  rw [show (⟨#[49, 48, 46, 48, 46, 48, 46, 50, 58, 49, 48, 50, 52, 32, 62, 32, 49, 48, 46, 48, 46, 48, 46, 49, 58, 49, 50, 51]⟩ : ByteArray).data.toList = [49, 48, 46, 48, 46, 48, 46, 50, 58, 49, 48, 50, 52, 32, 62, 32, 49, 48, 46, 48, 46, 48, 46, 49, 58, 49, 50, 51] from rfl, kn_k2]
  go_upto_region 14 with ((with_reducible refine at_store 36 (.tmp 18) (.tmp 76) ?_); refine wpList_store_blk 36 (.tmp 18) (.tmp 76) w17.heap.size 36 (keC zE zE 0) (keC zE zE 0) (Blk.new w17 36 (keC zE zE 0)) (by rfl) (by rfl) (by rfl) (by rfl) HYZ.out (by rfl) HOZ.out (by rfl) ?_; intro w18 hk hg hs; have B18 := Lib.hid (print_world B17.out B17.out.size hg); have KA_18 := Lib.hid ((KA_17.out.alloc _).grown hg (fun e => by have := Option.some.inj e; have := KA_17.out.lt; omega)); have KB_18 := Lib.hid ((KB_17.out.alloc _).grown hg (fun e => by have := Option.some.inj e; have := KB_17.out.lt; omega)); have KC_18 := Lib.hid ((KC_17.out.alloc _).grown hg (fun e => by have := Option.some.inj e; have := KC_17.out.lt; omega)); have KD_18 := Lib.hid ((KD_17.out.alloc _).grown hg (fun e => by have := Option.some.inj e; have := KD_17.out.lt; omega)); have KX_18 := Lib.hid ((KX_17.out.alloc _).grown hg (fun e => by have := Option.some.inj e; have := KX_17.out.lt; omega)); clear hk hg hs)
  clear B17 KA_17 KB_17 KC_17 KD_17 KX_17
  go_wp2_with fail
  refine (pkey_any ⟨#[]⟩ (by decide) _ (E.out.below B18.out)).mono ?_
  rintro e w19 ⟨rfl, b⟩
  have B19 := Lib.hid (B18.out.trans (b.mono B18.out.size))
  have KA_19 := Lib.hid (KA_18.out.keep b)
  have KB_19 := Lib.hid (KB_18.out.keep b)
  have KC_19 := Lib.hid (KC_18.out.keep b)
  have KD_19 := Lib.hid (KD_18.out.keep b)
  have KX_19 := Lib.hid (KX_18.out.keep b)
  clear b B18 KA_18 KB_18 KC_18 KD_18 KX_18
  rw [show (⟨#[]⟩ : ByteArray).data.toList = [] from rfl, kn_k3]
  go_upto_region 15 with ((with_reducible refine at_store 36 (.tmp 20) (.tmp 80) ?_); refine wpList_store_blk 36 (.tmp 20) (.tmp 80) w19.heap.size 36 (keC zE zE 0) (keC zE zE 0) (Blk.new w19 36 (keC zE zE 0)) (by rfl) (by rfl) (by rfl) (by rfl) HYZ.out (by rfl) HOZ.out (by rfl) ?_; intro w20 hk hg hs; have B20 := Lib.hid (print_world B19.out B19.out.size hg); have KA_20 := Lib.hid ((KA_19.out.alloc _).grown hg (fun e => by have := Option.some.inj e; have := KA_19.out.lt; omega)); have KB_20 := Lib.hid ((KB_19.out.alloc _).grown hg (fun e => by have := Option.some.inj e; have := KB_19.out.lt; omega)); have KC_20 := Lib.hid ((KC_19.out.alloc _).grown hg (fun e => by have := Option.some.inj e; have := KC_19.out.lt; omega)); have KD_20 := Lib.hid ((KD_19.out.alloc _).grown hg (fun e => by have := Option.some.inj e; have := KD_19.out.lt; omega)); have KX_20 := Lib.hid ((KX_19.out.alloc _).grown hg (fun e => by have := Option.some.inj e; have := KX_19.out.lt; omega)); clear hk hg hs)
  clear B19 KA_19 KB_19 KC_19 KD_19 KX_19
  go_wp2_with (first | (refine wpList_load_blk 30 (.tmp 1) w4.heap.size 30 (flC oneA oneB) _ KA_20.out (by rfl) (by rfl) Tryz.underlying30 rfl (HFS.out _ _ rfl rfl) (by rfl) ?_) | (refine wpList_load_blk 30 (.tmp 3) (w4.heap.size + 2) 30 (flC oneA twoB) _ KC_20.out (by rfl) (by rfl) Tryz.underlying30 rfl (HFS.out _ _ rfl rfl) (by rfl) ?_))
  refine (fless_any (oneA, oneB) (oneA, twoB) rfl rfl rfl rfl (by decide) (by decide) (by decide) (by decide) _).mono ?_
  rintro e w21 ⟨rfl, b⟩
  have B21 := Lib.hid (B20.out.trans (b.mono B20.out.size))
  have KA_21 := Lib.hid (KA_20.out.keep b)
  have KB_21 := Lib.hid (KB_20.out.keep b)
  have KC_21 := Lib.hid (KC_20.out.keep b)
  have KD_21 := Lib.hid (KD_20.out.keep b)
  have KX_21 := Lib.hid (KX_20.out.keep b)
  clear b B20 KA_20 KB_20 KC_20 KD_20 KX_20
  rw [kn_less.1]
  go_wp2_with (first | (refine wpList_load_blk 30 (.tmp 3) (w4.heap.size + 2) 30 (flC oneA twoB) _ KC_21.out (by rfl) (by rfl) Tryz.underlying30 rfl (HFS.out _ _ rfl rfl) (by rfl) ?_) | (refine wpList_load_blk 30 (.tmp 2) (w4.heap.size + 1) 30 (flC twoA oneB) _ KB_21.out (by rfl) (by rfl) Tryz.underlying30 rfl (HFS.out _ _ rfl rfl) (by rfl) ?_))
  refine (fless_any (oneA, twoB) (twoA, oneB) rfl rfl rfl rfl (by decide) (by decide) (by decide) (by decide) _).mono ?_
  rintro e w22 ⟨rfl, b⟩
  have B22 := Lib.hid (B21.out.trans (b.mono B21.out.size))
  have KA_22 := Lib.hid (KA_21.out.keep b)
  have KB_22 := Lib.hid (KB_21.out.keep b)
  have KC_22 := Lib.hid (KC_21.out.keep b)
  have KD_22 := Lib.hid (KD_21.out.keep b)
  have KX_22 := Lib.hid (KX_21.out.keep b)
  clear b B21 KA_21 KB_21 KC_21 KD_21 KX_21
  rw [kn_less.2.1]
  go_wp2_with (first | (refine wpList_load_blk 30 (.tmp 2) (w4.heap.size + 1) 30 (flC twoA oneB) _ KB_22.out (by rfl) (by rfl) Tryz.underlying30 rfl (HFS.out _ _ rfl rfl) (by rfl) ?_) | (refine wpList_load_blk 30 (.tmp 4) (w4.heap.size + 3) 30 (flC sixA oneB) _ KD_22.out (by rfl) (by rfl) Tryz.underlying30 rfl (HFS.out _ _ rfl rfl) (by rfl) ?_))
  refine (fless_any (twoA, oneB) (sixA, oneB) rfl rfl rfl rfl (by decide) (by decide) (by decide) (by decide) _).mono ?_
  rintro e w23 ⟨rfl, b⟩
  have B23 := Lib.hid (B22.out.trans (b.mono B22.out.size))
  have KA_23 := Lib.hid (KA_22.out.keep b)
  have KB_23 := Lib.hid (KB_22.out.keep b)
  have KC_23 := Lib.hid (KC_22.out.keep b)
  have KD_23 := Lib.hid (KD_22.out.keep b)
  have KX_23 := Lib.hid (KX_22.out.keep b)
  clear b B22 KA_22 KB_22 KC_22 KD_22 KX_22
  rw [kn_less.2.2.1]
  go_wp2_with (first | (refine wpList_load_blk 30 (.tmp 1) w4.heap.size 30 (flC oneA oneB) _ KA_23.out (by rfl) (by rfl) Tryz.underlying30 rfl (HFS.out _ _ rfl rfl) (by rfl) ?_))
  refine (fless_any (oneA, oneB) (oneA, oneB) rfl rfl rfl rfl (by decide) (by decide) (by decide) (by decide) _).mono ?_
  rintro e w24 ⟨rfl, b⟩
  have B24 := Lib.hid (B23.out.trans (b.mono B23.out.size))
  have KA_24 := Lib.hid (KA_23.out.keep b)
  have KB_24 := Lib.hid (KB_23.out.keep b)
  have KC_24 := Lib.hid (KC_23.out.keep b)
  have KD_24 := Lib.hid (KD_23.out.keep b)
  have KX_24 := Lib.hid (KX_23.out.keep b)
  clear b B23 KA_23 KB_23 KC_23 KD_23 KX_23
  rw [kn_less.2.2.2]
  have q12 := KX_24.out.cell 0
  have p12 := KX_24.out.cell 17
  rw [show (flC lo1 oneB)[0]? = some (.bool true) by kernel_rfl] at q12
  rw [show (flC lo1 oneB)[17]? = some (.int .u16 5) by kernel_rfl] at p12
  go_upto_region 16 with fail
  clear q12 p12
  have hq := HQ.out
  refine wp_region_held_drew (S := fun W => Blk W w4.heap.size 30 (flC oneA oneB)) (by kernel_rfl) (KA_24.out) (fun hHeld => ?_)
  have BB := Lib.hid (below_drew B24.out)
  have EE := E
  clear B24 KA_24 KB_24 KC_24 KD_24 KX_24
  refine wpAnyH_take (i := 0) (oi := _) (v := ?_) rfl (by kernel_rfl) (by kernel_rfl) (by kernel_rfl) (fun _ _ _ h => h) (Or.inl ⟨by rfl, ?_⟩) (by assumption) ?_
  case refine_2 => (intro w hSw; go_simp <;> with_reducible rfl)
  try simp only [List.getElem_toArray, List.getElem_cons_zero, Act.put, List.setIfInBounds_toArray, List.set_cons_zero, List.set_cons_succ]
  refine wpAnyH_take (i := 1) (oi := _) (v := ?_) rfl (by kernel_rfl) (by kernel_rfl) (by kernel_rfl) (fun _ _ _ h => h) (Or.inl ⟨by rfl, ?_⟩) (by assumption) ?_
  case refine_2 => (intro w hSw; go_simp <;> with_reducible rfl)
  try simp only [List.getElem_toArray, List.getElem_cons_zero, List.getElem_cons_succ, Act.put, List.setIfInBounds_toArray, List.set_cons_zero, List.set_cons_succ]
  refine wpAnyH_take (i := 2) (oi := _) (v := ?_) rfl (by kernel_rfl) (by kernel_rfl) (by kernel_rfl) (fun _ _ _ h => h) (Or.inl ⟨by rfl, ?_⟩) (by assumption) ?_
  case refine_2 => (intro w hSw; go_simp <;> with_reducible rfl)
  try simp only [List.getElem_toArray, List.getElem_cons_zero, List.getElem_cons_succ, Act.put, List.setIfInBounds_toArray, List.set_cons_zero, List.set_cons_succ]
  refine wpAnyH_take (i := 3) (oi := _) (v := ?_) rfl (by kernel_rfl) (by kernel_rfl) (by kernel_rfl) (fun _ _ _ h => h) (Or.inl ⟨by rfl, ?_⟩) (by assumption) ?_
  case refine_2 => (intro w hSw; go_simp <;> with_reducible rfl)
  try simp only [List.getElem_toArray, List.getElem_cons_zero, List.getElem_cons_succ, Act.put, List.setIfInBounds_toArray, List.set_cons_zero, List.set_cons_succ]
  refine wpAnyH_take (i := 4) (oi := _) (v := ?_) rfl (by kernel_rfl) (by kernel_rfl) (by kernel_rfl) (fun _ _ _ h => h) (Or.inl ⟨by rfl, ?_⟩) (by assumption) ?_
  case refine_2 => (intro w hSw; go_simp <;> with_reducible rfl)
  try simp only [List.getElem_toArray, List.getElem_cons_zero, List.getElem_cons_succ, Act.put, List.setIfInBounds_toArray, List.set_cons_zero, List.set_cons_succ]
  refine wpAnyH_take (i := 5) (oi := _) (v := ?_) rfl (by kernel_rfl) (by kernel_rfl) (by kernel_rfl) (fun _ _ _ h => h) (Or.inl ⟨by rfl, ?_⟩) (by assumption) ?_
  case refine_2 => (intro w hSw; go_simp <;> with_reducible rfl)
  try simp only [List.getElem_toArray, List.getElem_cons_zero, List.getElem_cons_succ, Act.put, List.setIfInBounds_toArray, List.set_cons_zero, List.set_cons_succ]
  refine wpAnyH_take (i := 6) (oi := _) (v := ?_) rfl (by kernel_rfl) (by kernel_rfl) (by kernel_rfl) (fun _ _ _ h => h) (Or.inl ⟨by rfl, ?_⟩) (by assumption) ?_
  case refine_2 => (intro w hSw; go_simp <;> with_reducible rfl)
  try simp only [List.getElem_toArray, List.getElem_cons_zero, List.getElem_cons_succ, Act.put, List.setIfInBounds_toArray, List.set_cons_zero, List.set_cons_succ]
  refine wpAnyH_take (i := 7) (oi := _) (v := ?_) rfl (by kernel_rfl) (by kernel_rfl) (by kernel_rfl) (fun _ _ _ h => h) (Or.inl ⟨by rfl, ?_⟩) (by assumption) ?_
  case refine_2 => (intro w hSw; go_simp <;> with_reducible rfl)
  try simp only [List.getElem_toArray, List.getElem_cons_zero, List.getElem_cons_succ, Act.put, List.setIfInBounds_toArray, List.set_cons_zero, List.set_cons_succ]
  refine wpAnyH_take (i := 8) (oi := _) (v := ?_) rfl (by kernel_rfl) (by kernel_rfl) (by kernel_rfl) (fun _ _ _ h => h) (Or.inl ⟨by rfl, ?_⟩) (by assumption) ?_
  case refine_2 => (intro w hSw; go_simp <;> with_reducible rfl)
  try simp only [List.getElem_toArray, List.getElem_cons_zero, List.getElem_cons_succ, Act.put, List.setIfInBounds_toArray, List.set_cons_zero, List.set_cons_succ]
  refine wpAnyH_take (i := 9) (oi := _) (v := ?_) rfl (by kernel_rfl) (by kernel_rfl) (by kernel_rfl) (fun _ _ _ h => h) (Or.inl ⟨by rfl, ?_⟩) (by assumption) ?_
  case refine_2 => (intro w hSw; go_simp <;> with_reducible rfl)
  try simp only [List.getElem_toArray, List.getElem_cons_zero, List.getElem_cons_succ, Act.put, List.setIfInBounds_toArray, List.set_cons_zero, List.set_cons_succ]
  refine wpAnyH_take (i := 10) (oi := _) (v := ?_) rfl (by kernel_rfl) (by kernel_rfl) (by kernel_rfl) (fun _ _ _ h => h) (Or.inl ⟨by rfl, ?_⟩) (by assumption) ?_
  case refine_2 => (intro w hSw; go_simp <;> with_reducible rfl)
  try simp only [List.getElem_toArray, List.getElem_cons_zero, List.getElem_cons_succ, Act.put, List.setIfInBounds_toArray, List.set_cons_zero, List.set_cons_succ]
  refine wpAnyH_take (i := 11) (oi := _) (v := ?_) rfl (by kernel_rfl) (by kernel_rfl) (by kernel_rfl) (fun _ _ _ h => h) (Or.inl ⟨by rfl, ?_⟩) (by assumption) ?_
  case refine_2 => (intro w hSw; go_simp <;> with_reducible rfl)
  try simp only [List.getElem_toArray, List.getElem_cons_zero, List.getElem_cons_succ, Act.put, List.setIfInBounds_toArray, List.set_cons_zero, List.set_cons_succ]
  refine wpAnyH_take (i := 12) (oi := _) (v := ?_) rfl (by kernel_rfl) (by kernel_rfl) (by kernel_rfl) (fun _ _ _ h => h) (Or.inl ⟨by rfl, ?_⟩) (by assumption) ?_
  case refine_2 => (intro w hSw; go_simp <;> with_reducible rfl)
  try simp only [List.getElem_toArray, List.getElem_cons_zero, List.getElem_cons_succ, Act.put, List.setIfInBounds_toArray, List.set_cons_zero, List.set_cons_succ]
  refine wpAnyH_take (i := 13) (oi := _) (v := ?_) rfl (by kernel_rfl) (by kernel_rfl) (by kernel_rfl) (fun _ _ _ h => h) (Or.inl ⟨by rfl, ?_⟩) (by assumption) ?_
  case refine_2 => (intro w hSw; go_simp <;> with_reducible rfl)
  try simp only [List.getElem_toArray, List.getElem_cons_zero, List.getElem_cons_succ, Act.put, List.setIfInBounds_toArray, List.set_cons_zero, List.set_cons_succ]
  refine wpAnyH_take (i := 14) (oi := _) (v := ?_) rfl (by kernel_rfl) (by kernel_rfl) (by kernel_rfl) (fun _ _ _ h => h) (Or.inl ⟨by rfl, ?_⟩) (by assumption) ?_
  case refine_2 => (intro w hSw; go_simp <;> with_reducible rfl)
  try simp only [List.getElem_toArray, List.getElem_cons_zero, List.getElem_cons_succ, Act.put, List.setIfInBounds_toArray, List.set_cons_zero, List.set_cons_succ]
  refine wpAnyH_take (i := 15) (oi := _) (v := ?_) rfl (by kernel_rfl) (by kernel_rfl) (by kernel_rfl) (fun _ _ _ h => h) (Or.inl ⟨by rfl, ?_⟩) (by assumption) ?_
  case refine_2 => (intro w hSw; go_simp <;> with_reducible rfl)
  try simp only [List.getElem_toArray, List.getElem_cons_zero, List.getElem_cons_succ, Act.put, List.setIfInBounds_toArray, List.set_cons_zero, List.set_cons_succ]
  refine wpAnyH_take (i := 16) (oi := _) (v := ?_) rfl (by kernel_rfl) (by kernel_rfl) (by kernel_rfl) (fun _ _ _ h => h) (Or.inl ⟨by rfl, ?_⟩) (by assumption) ?_
  case refine_2 => (intro w hSw; go_simp <;> with_reducible rfl)
  try simp only [List.getElem_toArray, List.getElem_cons_zero, List.getElem_cons_succ, Act.put, List.setIfInBounds_toArray, List.set_cons_zero, List.set_cons_succ]
  refine wpAnyH_take (i := 17) (oi := _) (v := ?_) rfl (by kernel_rfl) (by kernel_rfl) (by kernel_rfl) (fun _ _ _ h => h) (Or.inl ⟨by rfl, ?_⟩) (by assumption) ?_
  case refine_2 => (intro w hSw; go_simp <;> with_reducible rfl)
  try simp only [List.getElem_toArray, List.getElem_cons_zero, List.getElem_cons_succ, Act.put, List.setIfInBounds_toArray, List.set_cons_zero, List.set_cons_succ]
  refine wpAnyH_take (i := 18) (oi := _) (v := .agg (flC oneA oneB)) rfl (by kernel_rfl) (by kernel_rfl) (by kernel_rfl) (fun _ _ _ h => h) (yieldsIf_load_blk 30 (.tmp 1) w4.heap.size 30 (flC oneA oneB) _ (fun w h => h) (by rfl) (by rfl) Tryz.underlying30 rfl (HFS.out _ _ rfl rfl) (by rfl)) (by assumption) ?_
  try simp only [List.getElem_toArray, List.getElem_cons_zero, List.getElem_cons_succ, Act.put, List.setIfInBounds_toArray, List.set_cons_zero, List.set_cons_succ]
  refine wpAnyH_take (i := 20) (oi := _) (v := ?_) rfl (by kernel_rfl) (by kernel_rfl) (by kernel_rfl) (fun _ _ _ h => h) (Or.inl ⟨by rfl, ?_⟩) (by assumption) ?_
  case refine_2 => (intro w hSw; go_simp <;> with_reducible rfl)
  try simp only [List.getElem_toArray, List.getElem_cons_zero, List.getElem_cons_succ, Act.put, List.setIfInBounds_toArray, List.set_cons_zero, List.set_cons_succ]
  refine wpAnyH_take (i := 21) (oi := _) (v := .agg (enL oneB).toArray) rfl (by kernel_rfl) (by kernel_rfl) (by kernel_rfl) (fun _ _ _ h => h) (yieldsIf_load_part 28 (.tmp 149) w4.heap.size 18 30 (flC oneA oneB) (enL oneB) _ (fun w h => h) (flL_server oneA oneB rfl) (by rfl) (by rfl) Tryz.underlying28 rfl (en_infoL oneB rfl) (by rfl)) (by assumption) ?_
  try simp only [List.getElem_toArray, List.getElem_cons_zero, List.getElem_cons_succ, Act.put, List.setIfInBounds_toArray, List.set_cons_zero, List.set_cons_succ]
  refine wpAnyH_take (i := 22) (oi := _) (v := ?_) rfl (by kernel_rfl) (by kernel_rfl) (by kernel_rfl) (fun _ _ _ h => h) (Or.inl ⟨by rfl, ?_⟩) (by assumption) ?_
  case refine_2 => (intro w hSw; go_simp <;> with_reducible rfl)
  try simp only [List.getElem_toArray, List.getElem_cons_zero, List.getElem_cons_succ, Act.put, List.setIfInBounds_toArray, List.set_cons_zero, List.set_cons_succ]
  refine wpAnyH_take (i := 23) (oi := _) (v := .agg (enL oneA).toArray) rfl (by kernel_rfl) (by kernel_rfl) (by kernel_rfl) (fun _ _ _ h => h) (yieldsIf_load_part 28 (.tmp 151) w4.heap.size 0 30 (flC oneA oneB) (enL oneA) _ (fun w h => h) (flL_client oneA oneB) (by rfl) (by rfl) Tryz.underlying28 rfl (en_infoL oneA rfl) (by rfl)) (by assumption) ?_
  try simp only [List.getElem_toArray, List.getElem_cons_zero, List.getElem_cons_succ, Act.put, List.setIfInBounds_toArray, List.set_cons_zero, List.set_cons_succ]
  refine wpAnyH_take (i := 24) (oi := _) (v := .agg (flC oneB oneA)) rfl (by kernel_rfl) (by kernel_rfl) (by kernel_rfl) (fun _ _ _ h => h) (yieldsIf_build 30 #[(0, .tmp 150), (1, .tmp 152)] (flC oneB oneA) (by rfl) (built_flL oneB oneA rfl rfl) (by rfl)) (by assumption) ?_
  try simp only [List.getElem_toArray, List.getElem_cons_zero, List.getElem_cons_succ, Act.put, List.setIfInBounds_toArray, List.set_cons_zero, List.set_cons_succ]
  refine wpAnyH_ready (rs := [19]) (by kernel_rfl) (by simp) ?_
  refine AllReadyH.cons (o := _) rfl (fun K hK => ?_) AllReadyH.nil
  simp only [List.getElem_toArray, List.getElem_cons_zero, List.getElem_cons_succ]
  go_simp
  refine (mirror_any oneA oneB rfl rfl _).mono ?_
  rintro e wn ⟨rfl, b⟩
  have Bn := Lib.hid (BB.out.trans (b.mono BB.out.size))
  have hH := hHeld.keep b
  clear b BB
  go_simp
  refine hK.out _ _ hH (fun hHeld2 => ?_)
  clear hK K hHeld hH
  have hHeld := hHeld2
  have BB := Bn
  clear hHeld2 Bn
  try simp only [List.getElem_toArray, List.getElem_cons_zero, List.getElem_cons_succ, Act.put, List.setIfInBounds_toArray, List.set_cons_zero, List.set_cons_succ]
  refine wpAnyH_take (i := 25) (oi := _) (v := ?_) rfl (by kernel_rfl) (by kernel_rfl) (by kernel_rfl) (fun _ _ _ h => h) (Or.inl ⟨by rfl, ?_⟩) (by assumption) ?_
  case refine_2 => (intro w hSw; go_simp <;> with_reducible rfl)
  try simp only [List.getElem_toArray, List.getElem_cons_zero, List.getElem_cons_succ, Act.put, List.setIfInBounds_toArray, List.set_cons_zero, List.set_cons_succ]
  refine wpAnyH_take (i := 26) (oi := _) (v := ?_) rfl (by kernel_rfl) (by kernel_rfl) (by kernel_rfl) (fun _ _ _ h => h) (Or.inl ⟨by rfl, ?_⟩) (by assumption) ?_
  case refine_2 => (intro w hSw; go_simp <;> with_reducible rfl)
  try simp only [List.getElem_toArray, List.getElem_cons_zero, List.getElem_cons_succ, Act.put, List.setIfInBounds_toArray, List.set_cons_zero, List.set_cons_succ]
  refine wpAnyH_take (i := 27) (oi := _) (v := ?_) rfl (by kernel_rfl) (by kernel_rfl) (by kernel_rfl) (fun _ _ _ h => h) (Or.inl ⟨by rfl, ?_⟩) (by assumption) ?_
  case refine_2 => (intro w hSw; go_simp <;> with_reducible rfl)
  try simp only [List.getElem_toArray, List.getElem_cons_zero, List.getElem_cons_succ, Act.put, List.setIfInBounds_toArray, List.set_cons_zero, List.set_cons_succ]
  refine wpAnyH_ready (rs := [28]) (by kernel_rfl) (by simp) ?_
  refine AllReadyH.cons (o := _) rfl (fun K hK => ?_) AllReadyH.nil
  simp only [List.getElem_toArray, List.getElem_cons_zero, List.getElem_cons_succ]
  go_simp
  refine (works_any _ (EE.out.below BB.out)).mono ?_
  rintro e wn ⟨rfl, b⟩
  have Bn := Lib.hid (BB.out.trans (b.mono BB.out.size))
  have hH := hHeld.keep b
  clear b BB
  go_simp
  refine hK.out _ _ hH (fun hHeld2 => ?_)
  clear hK K hHeld hH
  have hHeld := hHeld2
  have BB := Bn
  clear hHeld2 Bn
  try simp only [List.getElem_toArray, List.getElem_cons_zero, List.getElem_cons_succ, Act.put, List.setIfInBounds_toArray, List.set_cons_zero, List.set_cons_succ]
  refine wpAnyH_take (i := 29) (oi := _) (v := ?_) rfl (by kernel_rfl) (by kernel_rfl) (by kernel_rfl) (fun _ _ _ h => h) (Or.inl ⟨by rfl, ?_⟩) (by assumption) ?_
  case refine_2 => (intro w hSw; go_simp <;> with_reducible rfl)
  try simp only [List.getElem_toArray, List.getElem_cons_zero, List.getElem_cons_succ, Act.put, List.setIfInBounds_toArray, List.set_cons_zero, List.set_cons_succ]
  refine wpAnyH_take (i := 30) (oi := _) (v := ?_) rfl (by kernel_rfl) (by kernel_rfl) (by kernel_rfl) (fun _ _ _ h => h) (Or.inl ⟨by rfl, ?_⟩) (by assumption) ?_
  case refine_2 => (intro w hSw; go_simp <;> with_reducible rfl)
  try simp only [List.getElem_toArray, List.getElem_cons_zero, List.getElem_cons_succ, Act.put, List.setIfInBounds_toArray, List.set_cons_zero]
  refine wpAnyH_done (by kernel_rfl) ?_ _
  clear hHeld
  go_wp2_with fail
  go_ret
  exact ⟨rfl, BB.out⟩
end Go.Proofs.YtonafonhadocgaaGreatDoor
