/- The reference's Less of chapter 28. -/
import Derived.Test.YtonafonhadocgaaGreatDoorFlRank
import Derived.Test.YtonafonhadocgaaGreatDoorFlKnownWalk
namespace Go.Proofs.YtonafonhadocgaaGreatDoor
open Go.RowKit Go.Shelf

/-! ### the first number that differs -/
theorem lex_at : ∀ (X Y : List Nat) (t p q : Nat), (∀ j, j < t → X[j]? = Y[j]?) → X[t]? = some p → Y[t]? = some q → p ≠ q → lexL X Y = decide (p < q)
  | [], _, t, p, q, _, h, _, _ => by cases h
  | _ :: _, [], t, p, q, _, _, h, _ => by cases h
  | x :: X, y :: Y, 0, p, q, _, h1, h2, hn => by
    injection h1 with h1
    injection h2 with h2
    rw [lexL, if_neg (by rw [h1, h2]; exact hn), h1, h2]
  | x :: X, y :: Y, t + 1, p, q, hs, h1, h2, hn => by
    have h0 := hs 0 (by omega)
    injection h0 with h0
    rw [lexL, if_pos h0]
    exact lex_at X Y t p q (fun j hj => hs (j + 1) (by omega)) h1 h2 hn
theorem lex_same {X Y : List Nat} {n : Nat} (hx : X.length = n) (hy : Y.length = n) (hs : ∀ j, j < n → X[j]? = Y[j]?) : lexL X Y = false := by
  have : X = Y := by
    apply List.ext_getElem?
    intro j
    by_cases hj : j < n
    · exact hs j hj
    · rw [List.getElem?_eq_none (by omega), List.getElem?_eq_none (by omega)]
  rw [this]
  exact lex_self Y
theorem nineteen (l : List Nat) (h : l.length = 19) : ∃ a0 a1 a2 a3 a4 a5 a6 a7 a8 a9 a10 a11 a12 a13 a14 a15 a16 a17 a18, l = [a0, a1, a2, a3, a4, a5, a6, a7, a8, a9, a10, a11, a12, a13, a14, a15, a16, a17, a18] := by
  match l, h with
  | [a0, a1, a2, a3, a4, a5, a6, a7, a8, a9, a10, a11, a12, a13, a14, a15, a16, a17, a18], _ => exact ⟨_, _, _, _, _, _, _, _, _, _, _, _, _, _, _, _, _, _, _, rfl⟩
theorem built_rk (x y : List Nat) (hx : x.length = 19) (hy : y.length = 19) : Tryz.prog.built 75 [(0, .agg (nc x)), (1, .agg (nc y))] = some (nc (x ++ y)) := by
  obtain ⟨x0, x1, x2, x3, x4, x5, x6, x7, x8, x9, x10, x11, x12, x13, x14, x15, x16, x17, x18, rfl⟩ := nineteen x hx
  obtain ⟨y0, y1, y2, y3, y4, y5, y6, y7, y8, y9, y10, y11, y12, y13, y14, y15, y16, y17, y18, rfl⟩ := nineteen y hy
  kernel_rfl
/-- Two boxed flows, and a block more. -/
structure T2 (g : Nat) (cf cg : Array Value) (W : World) : Prop where
  f : Blk W g 30 cf
  g_ : Blk W (g + 1) 30 cg
theorem T2.keep {g : Nat} {cf cg : Array Value} {W W' : World} (h : T2 g cf cg W) (hb : Below W.heap.size W W') : T2 g cf cg W' := ⟨Blk.keep h.f hb, Blk.keep h.g_ hb⟩

structure T3 (g : Nat) (cf cg : Array Value) (n : Nat) (cx : Array Value) (W : World) : Prop where
  t : T2 g cf cg W
  x : Blk W n 75 cx
theorem T3.keep {g : Nat} {cf cg : Array Value} {n : Nat} {cx : Array Value} {W W' : World} (h : T3 g cf cg n cx W) (hb : Below W.heap.size W W') : T3 g cf cg n cx W' := ⟨h.t.keep hb, Blk.keep h.x hb⟩

set_option maxRecDepth 100000 in
set_option maxHeartbeats 8000000 in
theorem rless28_any (f g : Fl) (hf : FlOk f) (hg : FlOk g) (w : World) :
    Calls Tryz.prog 19 #[.agg (flC f.1 f.2), .agg (flC g.1 g.2)] w fun e w' => e = .returned (.bool (lessF f g)) ∧ Below w.heap.size w w' := by
  have hz : (w.alloc (.cells (flC f.1 f.2) 30)).heap.size = w.heap.size + 1 := by simp
  have k1 := (Blk.new w 30 (flC f.1 f.2)).alloc (.cells (flC g.1 g.2) 30)
  have k2 := Blk.new (w.alloc (.cells (flC f.1 f.2) 30)) 30 (flC g.1 g.2)
  rw [hz] at k2
  have K0 := Lib.hid (show T2 w.heap.size (flC f.1 f.2) (flC g.1 g.2) ((w.alloc (.cells (flC f.1 f.2) 30)).alloc (.cells (flC g.1 g.2) 30)) from ⟨k1, k2⟩)
  have B0 := Lib.hid (((Below.refl _ w).alloc (Nat.le_refl _) (.cells (flC f.1 f.2) 30)).alloc (by simp) (.cells (flC g.1 g.2) 30))
  have HF1 := Lib.hid (flL_client f.1 f.2)
  have HF2 := Lib.hid (flL_server f.1 f.2 hf.la)
  have HG1 := Lib.hid (flL_client g.1 g.2)
  have HG2 := Lib.hid (flL_server g.1 g.2 hg.la)
  have I1 := Lib.hid (en_infoL f.1 hf.la)
  have I2 := Lib.hid (en_infoL f.2 hf.lb)
  have I3 := Lib.hid (en_infoL g.1 hg.la)
  have I4 := Lib.hid (en_infoL g.2 hg.lb)
  have R1 := Lib.hid (fun W => rank_any f.1 hf.la hf.pa W)
  have R2 := Lib.hid (fun W => rank_any f.2 hf.lb hf.pb W)
  have R3 := Lib.hid (fun W => rank_any g.1 hg.la hg.pa W)
  have R4 := Lib.hid (fun W => rank_any g.2 hg.lb hg.pb W)
  have HBX := Lib.hid (built_rk (rankL f.1) (rankL f.2) (rank_len _ hf.la) (rank_len _ hf.lb))
  have HBY := Lib.hid (built_rk (rankL g.1) (rankL g.2) (rank_len _ hg.la) (rank_len _ hg.lb))
  have HX := Lib.hid (show (rankL f.1 ++ rankL f.2).length = 38 by rw [List.length_append, rank_len _ hf.la, rank_len _ hf.lb])
  have HY := Lib.hid (show (rankL g.1 ++ rankL g.2).length = 38 by rw [List.length_append, rank_len _ hg.la, rank_len _ hg.lb])
  have HIX := Lib.hid (show (Tryz.prog.info? 75).map (·.size) = some (nc (rankL f.1 ++ rankL f.2)).size by rw [nc_size, HX.out]; kernel_rfl)
  have HIY := Lib.hid (show (Tryz.prog.info? 75).map (·.size) = some (nc (rankL g.1 ++ rankL g.2)).size by rw [nc_size, HY.out]; kernel_rfl)
  have HNX := Lib.hid (show (nc (rankL f.1 ++ rankL f.2)).size = 38 by rw [nc_size, HX.out])
  have HNY := Lib.hid (show (nc (rankL g.1 ++ rankL g.2)).size = 38 by rw [nc_size, HY.out])
  have HL := Lib.hid (rless_eq (f := f) (g := g) hf.la hf.lb hg.la hg.lb)
  clear k1 k2 hz
  generalize flC f.1 f.2 = cf at *
  generalize flC g.1 g.2 = cg at *
  generalize enL f.1 = e1 at *
  generalize enL f.2 = e2 at *
  generalize enL g.1 = e3 at *
  generalize enL g.2 = e4 at *
  generalize rankL f.1 ++ rankL f.2 = X at *
  generalize rankL g.1 ++ rankL g.2 = Y at *
  generalize rankL f.1 = r1 at *
  generalize rankL f.2 = r2 at *
  generalize rankL g.1 = r3 at *
  generalize rankL g.2 = r4 at *
  generalize lessF f g = lb at *
  clear hf hg
  go_enter Tryz.func19, Tryz.ntmps19
  go_upto_region 1 with fail
  go_cut [5] (fun s wx => ∃ N : Nat, s = .pointer (some ⟨N, 0, none⟩) ∧ w.heap.size + 2 ≤ N ∧ Blk wx N 75 (nc X) ∧ T2 w.heap.size cf cg wx ∧ Below w.heap.size w wx)
  case first =>
    refine wp_region_held_drew (S := T2 w.heap.size cf cg) (by kernel_rfl) (⟨K0.out.f, K0.out.g_⟩) (fun hHeld => ?_)
    have BB := Lib.hid (below_drew B0.out)
    have hz0 : w.heap.size + 2 ≤ ((w.alloc (.cells cf 30)).alloc (.cells cg 30)).drew.heap.size := by show _ ≤ ((w.alloc (.cells cf 30)).alloc (.cells cg 30)).heap.size; simp
    clear B0 K0
    generalize ((w.alloc (.cells cf 30)).alloc (.cells cg 30)).drew = y0 at *
    refine wpAnyH_take (i := 0) (oi := _) (v := ?_) rfl (by kernel_rfl) (by kernel_rfl) (by kernel_rfl) (fun _ _ _ h => h) (Or.inl ⟨by rfl, ?_⟩) (by assumption) ?_
    case refine_2 => (intro w hSw; go_simp <;> with_reducible rfl)
    try simp only [List.getElem_toArray, List.getElem_cons_zero, Act.put, List.setIfInBounds_toArray, List.set_cons_zero, List.set_cons_succ]
    refine wpAnyH_take (i := 1) (oi := _) (v := .agg e1.toArray) rfl (by kernel_rfl) (by kernel_rfl) (by kernel_rfl) (fun _ _ _ h => h) (yieldsIf_load_part 28 (.tmp 9) w.heap.size 0 30 cf e1 _ (fun w h => h.f) HF1.out (by rfl) (by rfl) Tryz.underlying28 rfl I1.out (by rfl)) (by assumption) ?_
    try simp only [List.getElem_toArray, List.getElem_cons_zero, List.getElem_cons_succ, Act.put, List.setIfInBounds_toArray, List.set_cons_zero, List.set_cons_succ]
    refine wpAnyH_take (i := 3) (oi := _) (v := ?_) rfl (by kernel_rfl) (by kernel_rfl) (by kernel_rfl) (fun _ _ _ h => h) (Or.inl ⟨by rfl, ?_⟩) (by assumption) ?_
    case refine_2 => (intro w hSw; go_simp <;> with_reducible rfl)
    try simp only [List.getElem_toArray, List.getElem_cons_zero, List.getElem_cons_succ, Act.put, List.setIfInBounds_toArray, List.set_cons_zero, List.set_cons_succ]
    refine wpAnyH_take (i := 4) (oi := _) (v := .agg e2.toArray) rfl (by kernel_rfl) (by kernel_rfl) (by kernel_rfl) (fun _ _ _ h => h) (yieldsIf_load_part 28 (.tmp 12) w.heap.size 18 30 cf e2 _ (fun w h => h.f) HF2.out (by rfl) (by rfl) Tryz.underlying28 rfl I2.out (by rfl)) (by assumption) ?_
    try simp only [List.getElem_toArray, List.getElem_cons_zero, List.getElem_cons_succ, Act.put, List.setIfInBounds_toArray, List.set_cons_zero, List.set_cons_succ]
    refine wpAnyH_ready (rs := [2, 7]) (by kernel_rfl) (by simp) ?_
    refine AllReadyH.cons (o := _) rfl (fun K hK => ?_) (AllReadyH.cons (o := _) rfl (fun K hK => ?_) AllReadyH.nil)
    · simp only [List.getElem_toArray, List.getElem_cons_zero, List.getElem_cons_succ]
      go_simp
      refine (R1.out _).mono ?_
      rintro e y1 ⟨rfl, b⟩
      have Bn := Lib.hid (BB.out.trans (b.mono BB.out.size))
      have hH := hHeld.keep b
      clear b BB
      go_simp
      refine hK.out _ _ hH (fun hHeld2 => ?_)
      clear hK K hHeld hH
      have hHeld := hHeld2
      have BB := Bn
      clear hHeld2 Bn
      try simp only [List.getElem_toArray, List.getElem_cons_zero, List.getElem_cons_succ, Act.put, List.setIfInBounds_toArray, List.set_cons_zero, List.set_cons_succ]
      refine wpAnyH_ready (rs := [5, 7]) (by kernel_rfl) (by simp) ?_
      refine AllReadyH.cons (o := _) rfl (fun K hK => ?_) (AllReadyH.cons (o := _) rfl (fun K hK => ?_) AllReadyH.nil)
      · simp only [List.getElem_toArray, List.getElem_cons_zero, List.getElem_cons_succ]
        go_simp
        refine (R2.out _).mono ?_
        rintro e y2 ⟨rfl, b⟩
        have Bn := Lib.hid (BB.out.trans (b.mono BB.out.size))
        have hH := hHeld.keep b
        clear b BB
        go_simp
        refine hK.out _ _ hH (fun hHeld2 => ?_)
        clear hK K hHeld hH
        have hHeld := hHeld2
        have BB := Bn
        clear hHeld2 Bn
        try simp only [List.getElem_toArray, List.getElem_cons_zero, List.getElem_cons_succ, Act.put, List.setIfInBounds_toArray, List.set_cons_zero, List.set_cons_succ]
        refine wpAnyH_take (i := 6) (oi := _) (v := .agg (nc X)) rfl (by kernel_rfl) (by kernel_rfl) (by kernel_rfl) (fun _ _ _ h => h) (yieldsIf_build 75 #[(0, .tmp 11), (1, .tmp 14)] (nc X) (by rfl) HBX.out (by rfl)) (by assumption) ?_
        try simp only [List.getElem_toArray, List.getElem_cons_zero, List.getElem_cons_succ, Act.put, List.setIfInBounds_toArray, List.set_cons_zero, List.set_cons_succ]
        refine wpAnyH_ready (rs := [7]) (by kernel_rfl) (by simp) ?_
        refine AllReadyH.cons (o := _) rfl (fun K hK => ?_) AllReadyH.nil
        simp only [List.getElem_toArray, List.getElem_cons_zero, List.getElem_cons_succ]
        go_simp
        have HN2 := Lib.hid (show w.heap.size + 2 ≤ y2.heap.size from hHeld.g_.lt)
        have HA := Lib.hid (Blk.new y2 75 #[Value.int .i64 0, Value.int .i64 0, Value.int .i64 0, Value.int .i64 0, Value.int .i64 0, Value.int .i64 0, Value.int .i64 0, Value.int .i64 0, Value.int .i64 0, Value.int .i64 0, Value.int .i64 0, Value.int .i64 0, Value.int .i64 0, Value.int .i64 0, Value.int .i64 0, Value.int .i64 0, Value.int .i64 0, Value.int .i64 0, Value.int .i64 0, Value.int .i64 0, Value.int .i64 0, Value.int .i64 0, Value.int .i64 0, Value.int .i64 0, Value.int .i64 0, Value.int .i64 0, Value.int .i64 0, Value.int .i64 0, Value.int .i64 0, Value.int .i64 0, Value.int .i64 0, Value.int .i64 0, Value.int .i64 0, Value.int .i64 0, Value.int .i64 0, Value.int .i64 0, Value.int .i64 0, Value.int .i64 0])
        have Bn := Lib.hid (BB.out.alloc BB.out.size (.cells #[Value.int .i64 0, Value.int .i64 0, Value.int .i64 0, Value.int .i64 0, Value.int .i64 0, Value.int .i64 0, Value.int .i64 0, Value.int .i64 0, Value.int .i64 0, Value.int .i64 0, Value.int .i64 0, Value.int .i64 0, Value.int .i64 0, Value.int .i64 0, Value.int .i64 0, Value.int .i64 0, Value.int .i64 0, Value.int .i64 0, Value.int .i64 0, Value.int .i64 0, Value.int .i64 0, Value.int .i64 0, Value.int .i64 0, Value.int .i64 0, Value.int .i64 0, Value.int .i64 0, Value.int .i64 0, Value.int .i64 0, Value.int .i64 0, Value.int .i64 0, Value.int .i64 0, Value.int .i64 0, Value.int .i64 0, Value.int .i64 0, Value.int .i64 0, Value.int .i64 0, Value.int .i64 0, Value.int .i64 0] 75))
        have hH := hHeld.keep ((Below.refl _ y2).alloc (Nat.le_refl _) (.cells #[Value.int .i64 0, Value.int .i64 0, Value.int .i64 0, Value.int .i64 0, Value.int .i64 0, Value.int .i64 0, Value.int .i64 0, Value.int .i64 0, Value.int .i64 0, Value.int .i64 0, Value.int .i64 0, Value.int .i64 0, Value.int .i64 0, Value.int .i64 0, Value.int .i64 0, Value.int .i64 0, Value.int .i64 0, Value.int .i64 0, Value.int .i64 0, Value.int .i64 0, Value.int .i64 0, Value.int .i64 0, Value.int .i64 0, Value.int .i64 0, Value.int .i64 0, Value.int .i64 0, Value.int .i64 0, Value.int .i64 0, Value.int .i64 0, Value.int .i64 0, Value.int .i64 0, Value.int .i64 0, Value.int .i64 0, Value.int .i64 0, Value.int .i64 0, Value.int .i64 0, Value.int .i64 0, Value.int .i64 0] 75))
        clear BB
        refine hK.out _ _ hH (fun hHeld2 => ?_)
        clear hK K hHeld hH
        have hHeld := hHeld2
        have BB := Bn
        clear hHeld2 Bn
        try simp only [List.getElem_toArray, List.getElem_cons_zero, List.getElem_cons_succ, Act.put, List.setIfInBounds_toArray, List.set_cons_zero, List.set_cons_succ]
        generalize y2.alloc (.cells #[Value.int .i64 0, Value.int .i64 0, Value.int .i64 0, Value.int .i64 0, Value.int .i64 0, Value.int .i64 0, Value.int .i64 0, Value.int .i64 0, Value.int .i64 0, Value.int .i64 0, Value.int .i64 0, Value.int .i64 0, Value.int .i64 0, Value.int .i64 0, Value.int .i64 0, Value.int .i64 0, Value.int .i64 0, Value.int .i64 0, Value.int .i64 0, Value.int .i64 0, Value.int .i64 0, Value.int .i64 0, Value.int .i64 0, Value.int .i64 0, Value.int .i64 0, Value.int .i64 0, Value.int .i64 0, Value.int .i64 0, Value.int .i64 0, Value.int .i64 0, Value.int .i64 0, Value.int .i64 0, Value.int .i64 0, Value.int .i64 0, Value.int .i64 0, Value.int .i64 0, Value.int .i64 0, Value.int .i64 0] 75) = y3 at *
        refine wpAnyH_ready (rs := [8]) (by kernel_rfl) (by simp) ?_
        refine AllReadyH.cons (o := _) rfl (fun K hK => ?_) AllReadyH.nil
        simp only [List.getElem_toArray, List.getElem_cons_zero, List.getElem_cons_succ]
        refine if_wanted (by rfl) (wp_store_row 75 (.tmp 5) (.tmp 15) (by rfl) y2.heap.size (nc X) (by rfl) (by rfl) 75 #[Value.int .i64 0, Value.int .i64 0, Value.int .i64 0, Value.int .i64 0, Value.int .i64 0, Value.int .i64 0, Value.int .i64 0, Value.int .i64 0, Value.int .i64 0, Value.int .i64 0, Value.int .i64 0, Value.int .i64 0, Value.int .i64 0, Value.int .i64 0, Value.int .i64 0, Value.int .i64 0, Value.int .i64 0, Value.int .i64 0, Value.int .i64 0, Value.int .i64 0, Value.int .i64 0, Value.int .i64 0, Value.int .i64 0, Value.int .i64 0, Value.int .i64 0, Value.int .i64 0, Value.int .i64 0, Value.int .i64 0, Value.int .i64 0, Value.int .i64 0, Value.int .i64 0, Value.int .i64 0, Value.int .i64 0, Value.int .i64 0, Value.int .i64 0, Value.int .i64 0, Value.int .i64 0, Value.int .i64 0] HA.out HIX.out (by rw [HNX.out]; rfl) (by rw [← Array.all_toList]; exact nc_one _) ?_)
        have hZ := setRow_heap y3 y2.heap.size #[Value.int .i64 0, Value.int .i64 0, Value.int .i64 0, Value.int .i64 0, Value.int .i64 0, Value.int .i64 0, Value.int .i64 0, Value.int .i64 0, Value.int .i64 0, Value.int .i64 0, Value.int .i64 0, Value.int .i64 0, Value.int .i64 0, Value.int .i64 0, Value.int .i64 0, Value.int .i64 0, Value.int .i64 0, Value.int .i64 0, Value.int .i64 0, Value.int .i64 0, Value.int .i64 0, Value.int .i64 0, Value.int .i64 0, Value.int .i64 0, Value.int .i64 0, Value.int .i64 0, Value.int .i64 0, Value.int .i64 0, Value.int .i64 0, Value.int .i64 0, Value.int .i64 0, Value.int .i64 0, Value.int .i64 0, Value.int .i64 0, Value.int .i64 0, Value.int .i64 0, Value.int .i64 0, Value.int .i64 0] (nc X) 75 (0, 0) HA.out
        have hG := grownBy_setRow y3 y2.heap.size (nc X)
        have hAl := HA.out.lt
        have hH := (show T2 w.heap.size cf cg _ from ⟨hHeld.f.grown hG (fun e => by injection e with e; have := HN2.out; omega), hHeld.g_.grown hG (fun e => by injection e with e; have := HN2.out; omega)⟩)
        have Bn := Lib.hid (BB.out.grown hG BB.out.size (fun k e => by injection e with e; rw [← e]; have := HN2.out; omega))
        refine hK.out _ _ hH (fun hHeld2 => ?_)
        clear hK K hHeld hH
        try simp only [Act.put]
        have hTT := hHeld2
        refine wpAnyH_done (by kernel_rfl) ?_ _
        clear hHeld2
        go_wp2_with fail
        go_meet
        exact ⟨y2.heap.size, rfl, HN2.out, hZ, hTT, Bn.out⟩
      · simp only [List.getElem_toArray, List.getElem_cons_zero, List.getElem_cons_succ]
        go_simp
        have HN2 := Lib.hid (show w.heap.size + 2 ≤ y1.heap.size from hHeld.g_.lt)
        have HA := Lib.hid (Blk.new y1 75 #[Value.int .i64 0, Value.int .i64 0, Value.int .i64 0, Value.int .i64 0, Value.int .i64 0, Value.int .i64 0, Value.int .i64 0, Value.int .i64 0, Value.int .i64 0, Value.int .i64 0, Value.int .i64 0, Value.int .i64 0, Value.int .i64 0, Value.int .i64 0, Value.int .i64 0, Value.int .i64 0, Value.int .i64 0, Value.int .i64 0, Value.int .i64 0, Value.int .i64 0, Value.int .i64 0, Value.int .i64 0, Value.int .i64 0, Value.int .i64 0, Value.int .i64 0, Value.int .i64 0, Value.int .i64 0, Value.int .i64 0, Value.int .i64 0, Value.int .i64 0, Value.int .i64 0, Value.int .i64 0, Value.int .i64 0, Value.int .i64 0, Value.int .i64 0, Value.int .i64 0, Value.int .i64 0, Value.int .i64 0])
        have Bn := Lib.hid (BB.out.alloc BB.out.size (.cells #[Value.int .i64 0, Value.int .i64 0, Value.int .i64 0, Value.int .i64 0, Value.int .i64 0, Value.int .i64 0, Value.int .i64 0, Value.int .i64 0, Value.int .i64 0, Value.int .i64 0, Value.int .i64 0, Value.int .i64 0, Value.int .i64 0, Value.int .i64 0, Value.int .i64 0, Value.int .i64 0, Value.int .i64 0, Value.int .i64 0, Value.int .i64 0, Value.int .i64 0, Value.int .i64 0, Value.int .i64 0, Value.int .i64 0, Value.int .i64 0, Value.int .i64 0, Value.int .i64 0, Value.int .i64 0, Value.int .i64 0, Value.int .i64 0, Value.int .i64 0, Value.int .i64 0, Value.int .i64 0, Value.int .i64 0, Value.int .i64 0, Value.int .i64 0, Value.int .i64 0, Value.int .i64 0, Value.int .i64 0] 75))
        have hH := hHeld.keep ((Below.refl _ y1).alloc (Nat.le_refl _) (.cells #[Value.int .i64 0, Value.int .i64 0, Value.int .i64 0, Value.int .i64 0, Value.int .i64 0, Value.int .i64 0, Value.int .i64 0, Value.int .i64 0, Value.int .i64 0, Value.int .i64 0, Value.int .i64 0, Value.int .i64 0, Value.int .i64 0, Value.int .i64 0, Value.int .i64 0, Value.int .i64 0, Value.int .i64 0, Value.int .i64 0, Value.int .i64 0, Value.int .i64 0, Value.int .i64 0, Value.int .i64 0, Value.int .i64 0, Value.int .i64 0, Value.int .i64 0, Value.int .i64 0, Value.int .i64 0, Value.int .i64 0, Value.int .i64 0, Value.int .i64 0, Value.int .i64 0, Value.int .i64 0, Value.int .i64 0, Value.int .i64 0, Value.int .i64 0, Value.int .i64 0, Value.int .i64 0, Value.int .i64 0] 75))
        clear BB
        refine hK.out _ _ hH (fun hHeld2 => ?_)
        clear hK K hHeld hH
        have hHeld := hHeld2
        have BB := Bn
        clear hHeld2 Bn
        try simp only [List.getElem_toArray, List.getElem_cons_zero, List.getElem_cons_succ, Act.put, List.setIfInBounds_toArray, List.set_cons_zero, List.set_cons_succ]
        generalize y1.alloc (.cells #[Value.int .i64 0, Value.int .i64 0, Value.int .i64 0, Value.int .i64 0, Value.int .i64 0, Value.int .i64 0, Value.int .i64 0, Value.int .i64 0, Value.int .i64 0, Value.int .i64 0, Value.int .i64 0, Value.int .i64 0, Value.int .i64 0, Value.int .i64 0, Value.int .i64 0, Value.int .i64 0, Value.int .i64 0, Value.int .i64 0, Value.int .i64 0, Value.int .i64 0, Value.int .i64 0, Value.int .i64 0, Value.int .i64 0, Value.int .i64 0, Value.int .i64 0, Value.int .i64 0, Value.int .i64 0, Value.int .i64 0, Value.int .i64 0, Value.int .i64 0, Value.int .i64 0, Value.int .i64 0, Value.int .i64 0, Value.int .i64 0, Value.int .i64 0, Value.int .i64 0, Value.int .i64 0, Value.int .i64 0] 75) = y4 at *
        refine wpAnyH_ready (rs := [5]) (by kernel_rfl) (by simp) ?_
        refine AllReadyH.cons (o := _) rfl (fun K hK => ?_) AllReadyH.nil
        simp only [List.getElem_toArray, List.getElem_cons_zero, List.getElem_cons_succ]
        go_simp
        refine (R2.out _).mono ?_
        rintro e y5 ⟨rfl, b⟩
        have Bn := Lib.hid (BB.out.trans (b.mono BB.out.size))
        have hH := hHeld.keep b
        have HAn := Lib.hid (HA.out.keep b)
        clear HA
        have HA := HAn
        clear HAn
        clear b BB
        go_simp
        refine hK.out _ _ hH (fun hHeld2 => ?_)
        clear hK K hHeld hH
        have hHeld := hHeld2
        have BB := Bn
        clear hHeld2 Bn
        try simp only [List.getElem_toArray, List.getElem_cons_zero, List.getElem_cons_succ, Act.put, List.setIfInBounds_toArray, List.set_cons_zero, List.set_cons_succ]
        refine wpAnyH_take (i := 6) (oi := _) (v := .agg (nc X)) rfl (by kernel_rfl) (by kernel_rfl) (by kernel_rfl) (fun _ _ _ h => h) (yieldsIf_build 75 #[(0, .tmp 11), (1, .tmp 14)] (nc X) (by rfl) HBX.out (by rfl)) (by assumption) ?_
        try simp only [List.getElem_toArray, List.getElem_cons_zero, List.getElem_cons_succ, Act.put, List.setIfInBounds_toArray, List.set_cons_zero, List.set_cons_succ]
        refine wpAnyH_ready (rs := [8]) (by kernel_rfl) (by simp) ?_
        refine AllReadyH.cons (o := _) rfl (fun K hK => ?_) AllReadyH.nil
        simp only [List.getElem_toArray, List.getElem_cons_zero, List.getElem_cons_succ]
        refine if_wanted (by rfl) (wp_store_row 75 (.tmp 5) (.tmp 15) (by rfl) y1.heap.size (nc X) (by rfl) (by rfl) 75 #[Value.int .i64 0, Value.int .i64 0, Value.int .i64 0, Value.int .i64 0, Value.int .i64 0, Value.int .i64 0, Value.int .i64 0, Value.int .i64 0, Value.int .i64 0, Value.int .i64 0, Value.int .i64 0, Value.int .i64 0, Value.int .i64 0, Value.int .i64 0, Value.int .i64 0, Value.int .i64 0, Value.int .i64 0, Value.int .i64 0, Value.int .i64 0, Value.int .i64 0, Value.int .i64 0, Value.int .i64 0, Value.int .i64 0, Value.int .i64 0, Value.int .i64 0, Value.int .i64 0, Value.int .i64 0, Value.int .i64 0, Value.int .i64 0, Value.int .i64 0, Value.int .i64 0, Value.int .i64 0, Value.int .i64 0, Value.int .i64 0, Value.int .i64 0, Value.int .i64 0, Value.int .i64 0, Value.int .i64 0] HA.out HIX.out (by rw [HNX.out]; rfl) (by rw [← Array.all_toList]; exact nc_one _) ?_)
        have hZ := setRow_heap y5 y1.heap.size #[Value.int .i64 0, Value.int .i64 0, Value.int .i64 0, Value.int .i64 0, Value.int .i64 0, Value.int .i64 0, Value.int .i64 0, Value.int .i64 0, Value.int .i64 0, Value.int .i64 0, Value.int .i64 0, Value.int .i64 0, Value.int .i64 0, Value.int .i64 0, Value.int .i64 0, Value.int .i64 0, Value.int .i64 0, Value.int .i64 0, Value.int .i64 0, Value.int .i64 0, Value.int .i64 0, Value.int .i64 0, Value.int .i64 0, Value.int .i64 0, Value.int .i64 0, Value.int .i64 0, Value.int .i64 0, Value.int .i64 0, Value.int .i64 0, Value.int .i64 0, Value.int .i64 0, Value.int .i64 0, Value.int .i64 0, Value.int .i64 0, Value.int .i64 0, Value.int .i64 0, Value.int .i64 0, Value.int .i64 0] (nc X) 75 (0, 0) HA.out
        have hG := grownBy_setRow y5 y1.heap.size (nc X)
        have hAl := HA.out.lt
        have hH := (show T2 w.heap.size cf cg _ from ⟨hHeld.f.grown hG (fun e => by injection e with e; have := HN2.out; omega), hHeld.g_.grown hG (fun e => by injection e with e; have := HN2.out; omega)⟩)
        have Bn := Lib.hid (BB.out.grown hG BB.out.size (fun k e => by injection e with e; rw [← e]; have := HN2.out; omega))
        refine hK.out _ _ hH (fun hHeld2 => ?_)
        clear hK K hHeld hH
        try simp only [Act.put]
        have hTT := hHeld2
        refine wpAnyH_done (by kernel_rfl) ?_ _
        clear hHeld2
        go_wp2_with fail
        go_meet
        exact ⟨y1.heap.size, rfl, HN2.out, hZ, hTT, Bn.out⟩
    · simp only [List.getElem_toArray, List.getElem_cons_zero, List.getElem_cons_succ]
      go_simp
      have HN2 := Lib.hid (show w.heap.size + 2 ≤ y0.heap.size from hHeld.g_.lt)
      have HA := Lib.hid (Blk.new y0 75 #[Value.int .i64 0, Value.int .i64 0, Value.int .i64 0, Value.int .i64 0, Value.int .i64 0, Value.int .i64 0, Value.int .i64 0, Value.int .i64 0, Value.int .i64 0, Value.int .i64 0, Value.int .i64 0, Value.int .i64 0, Value.int .i64 0, Value.int .i64 0, Value.int .i64 0, Value.int .i64 0, Value.int .i64 0, Value.int .i64 0, Value.int .i64 0, Value.int .i64 0, Value.int .i64 0, Value.int .i64 0, Value.int .i64 0, Value.int .i64 0, Value.int .i64 0, Value.int .i64 0, Value.int .i64 0, Value.int .i64 0, Value.int .i64 0, Value.int .i64 0, Value.int .i64 0, Value.int .i64 0, Value.int .i64 0, Value.int .i64 0, Value.int .i64 0, Value.int .i64 0, Value.int .i64 0, Value.int .i64 0])
      have Bn := Lib.hid (BB.out.alloc BB.out.size (.cells #[Value.int .i64 0, Value.int .i64 0, Value.int .i64 0, Value.int .i64 0, Value.int .i64 0, Value.int .i64 0, Value.int .i64 0, Value.int .i64 0, Value.int .i64 0, Value.int .i64 0, Value.int .i64 0, Value.int .i64 0, Value.int .i64 0, Value.int .i64 0, Value.int .i64 0, Value.int .i64 0, Value.int .i64 0, Value.int .i64 0, Value.int .i64 0, Value.int .i64 0, Value.int .i64 0, Value.int .i64 0, Value.int .i64 0, Value.int .i64 0, Value.int .i64 0, Value.int .i64 0, Value.int .i64 0, Value.int .i64 0, Value.int .i64 0, Value.int .i64 0, Value.int .i64 0, Value.int .i64 0, Value.int .i64 0, Value.int .i64 0, Value.int .i64 0, Value.int .i64 0, Value.int .i64 0, Value.int .i64 0] 75))
      have hH := hHeld.keep ((Below.refl _ y0).alloc (Nat.le_refl _) (.cells #[Value.int .i64 0, Value.int .i64 0, Value.int .i64 0, Value.int .i64 0, Value.int .i64 0, Value.int .i64 0, Value.int .i64 0, Value.int .i64 0, Value.int .i64 0, Value.int .i64 0, Value.int .i64 0, Value.int .i64 0, Value.int .i64 0, Value.int .i64 0, Value.int .i64 0, Value.int .i64 0, Value.int .i64 0, Value.int .i64 0, Value.int .i64 0, Value.int .i64 0, Value.int .i64 0, Value.int .i64 0, Value.int .i64 0, Value.int .i64 0, Value.int .i64 0, Value.int .i64 0, Value.int .i64 0, Value.int .i64 0, Value.int .i64 0, Value.int .i64 0, Value.int .i64 0, Value.int .i64 0, Value.int .i64 0, Value.int .i64 0, Value.int .i64 0, Value.int .i64 0, Value.int .i64 0, Value.int .i64 0] 75))
      clear BB
      refine hK.out _ _ hH (fun hHeld2 => ?_)
      clear hK K hHeld hH
      have hHeld := hHeld2
      have BB := Bn
      clear hHeld2 Bn
      try simp only [List.getElem_toArray, List.getElem_cons_zero, List.getElem_cons_succ, Act.put, List.setIfInBounds_toArray, List.set_cons_zero, List.set_cons_succ]
      generalize y0.alloc (.cells #[Value.int .i64 0, Value.int .i64 0, Value.int .i64 0, Value.int .i64 0, Value.int .i64 0, Value.int .i64 0, Value.int .i64 0, Value.int .i64 0, Value.int .i64 0, Value.int .i64 0, Value.int .i64 0, Value.int .i64 0, Value.int .i64 0, Value.int .i64 0, Value.int .i64 0, Value.int .i64 0, Value.int .i64 0, Value.int .i64 0, Value.int .i64 0, Value.int .i64 0, Value.int .i64 0, Value.int .i64 0, Value.int .i64 0, Value.int .i64 0, Value.int .i64 0, Value.int .i64 0, Value.int .i64 0, Value.int .i64 0, Value.int .i64 0, Value.int .i64 0, Value.int .i64 0, Value.int .i64 0, Value.int .i64 0, Value.int .i64 0, Value.int .i64 0, Value.int .i64 0, Value.int .i64 0, Value.int .i64 0] 75) = y6 at *
      refine wpAnyH_ready (rs := [2]) (by kernel_rfl) (by simp) ?_
      refine AllReadyH.cons (o := _) rfl (fun K hK => ?_) AllReadyH.nil
      simp only [List.getElem_toArray, List.getElem_cons_zero, List.getElem_cons_succ]
      go_simp
      refine (R1.out _).mono ?_
      rintro e y7 ⟨rfl, b⟩
      have Bn := Lib.hid (BB.out.trans (b.mono BB.out.size))
      have hH := hHeld.keep b
      have HAn := Lib.hid (HA.out.keep b)
      clear HA
      have HA := HAn
      clear HAn
      clear b BB
      go_simp
      refine hK.out _ _ hH (fun hHeld2 => ?_)
      clear hK K hHeld hH
      have hHeld := hHeld2
      have BB := Bn
      clear hHeld2 Bn
      try simp only [List.getElem_toArray, List.getElem_cons_zero, List.getElem_cons_succ, Act.put, List.setIfInBounds_toArray, List.set_cons_zero, List.set_cons_succ]
      refine wpAnyH_ready (rs := [5]) (by kernel_rfl) (by simp) ?_
      refine AllReadyH.cons (o := _) rfl (fun K hK => ?_) AllReadyH.nil
      simp only [List.getElem_toArray, List.getElem_cons_zero, List.getElem_cons_succ]
      go_simp
      refine (R2.out _).mono ?_
      rintro e y8 ⟨rfl, b⟩
      have Bn := Lib.hid (BB.out.trans (b.mono BB.out.size))
      have hH := hHeld.keep b
      have HAn := Lib.hid (HA.out.keep b)
      clear HA
      have HA := HAn
      clear HAn
      clear b BB
      go_simp
      refine hK.out _ _ hH (fun hHeld2 => ?_)
      clear hK K hHeld hH
      have hHeld := hHeld2
      have BB := Bn
      clear hHeld2 Bn
      try simp only [List.getElem_toArray, List.getElem_cons_zero, List.getElem_cons_succ, Act.put, List.setIfInBounds_toArray, List.set_cons_zero, List.set_cons_succ]
      refine wpAnyH_take (i := 6) (oi := _) (v := .agg (nc X)) rfl (by kernel_rfl) (by kernel_rfl) (by kernel_rfl) (fun _ _ _ h => h) (yieldsIf_build 75 #[(0, .tmp 11), (1, .tmp 14)] (nc X) (by rfl) HBX.out (by rfl)) (by assumption) ?_
      try simp only [List.getElem_toArray, List.getElem_cons_zero, List.getElem_cons_succ, Act.put, List.setIfInBounds_toArray, List.set_cons_zero, List.set_cons_succ]
      refine wpAnyH_ready (rs := [8]) (by kernel_rfl) (by simp) ?_
      refine AllReadyH.cons (o := _) rfl (fun K hK => ?_) AllReadyH.nil
      simp only [List.getElem_toArray, List.getElem_cons_zero, List.getElem_cons_succ]
      refine if_wanted (by rfl) (wp_store_row 75 (.tmp 5) (.tmp 15) (by rfl) y0.heap.size (nc X) (by rfl) (by rfl) 75 #[Value.int .i64 0, Value.int .i64 0, Value.int .i64 0, Value.int .i64 0, Value.int .i64 0, Value.int .i64 0, Value.int .i64 0, Value.int .i64 0, Value.int .i64 0, Value.int .i64 0, Value.int .i64 0, Value.int .i64 0, Value.int .i64 0, Value.int .i64 0, Value.int .i64 0, Value.int .i64 0, Value.int .i64 0, Value.int .i64 0, Value.int .i64 0, Value.int .i64 0, Value.int .i64 0, Value.int .i64 0, Value.int .i64 0, Value.int .i64 0, Value.int .i64 0, Value.int .i64 0, Value.int .i64 0, Value.int .i64 0, Value.int .i64 0, Value.int .i64 0, Value.int .i64 0, Value.int .i64 0, Value.int .i64 0, Value.int .i64 0, Value.int .i64 0, Value.int .i64 0, Value.int .i64 0, Value.int .i64 0] HA.out HIX.out (by rw [HNX.out]; rfl) (by rw [← Array.all_toList]; exact nc_one _) ?_)
      have hZ := setRow_heap y8 y0.heap.size #[Value.int .i64 0, Value.int .i64 0, Value.int .i64 0, Value.int .i64 0, Value.int .i64 0, Value.int .i64 0, Value.int .i64 0, Value.int .i64 0, Value.int .i64 0, Value.int .i64 0, Value.int .i64 0, Value.int .i64 0, Value.int .i64 0, Value.int .i64 0, Value.int .i64 0, Value.int .i64 0, Value.int .i64 0, Value.int .i64 0, Value.int .i64 0, Value.int .i64 0, Value.int .i64 0, Value.int .i64 0, Value.int .i64 0, Value.int .i64 0, Value.int .i64 0, Value.int .i64 0, Value.int .i64 0, Value.int .i64 0, Value.int .i64 0, Value.int .i64 0, Value.int .i64 0, Value.int .i64 0, Value.int .i64 0, Value.int .i64 0, Value.int .i64 0, Value.int .i64 0, Value.int .i64 0, Value.int .i64 0] (nc X) 75 (0, 0) HA.out
      have hG := grownBy_setRow y8 y0.heap.size (nc X)
      have hAl := HA.out.lt
      have hH := (show T2 w.heap.size cf cg _ from ⟨hHeld.f.grown hG (fun e => by injection e with e; have := HN2.out; omega), hHeld.g_.grown hG (fun e => by injection e with e; have := HN2.out; omega)⟩)
      have Bn := Lib.hid (BB.out.grown hG BB.out.size (fun k e => by injection e with e; rw [← e]; have := HN2.out; omega))
      refine hK.out _ _ hH (fun hHeld2 => ?_)
      clear hK K hHeld hH
      try simp only [Act.put]
      have hTT := hHeld2
      refine wpAnyH_done (by kernel_rfl) ?_ _
      clear hHeld2
      go_wp2_with fail
      go_meet
      exact ⟨y0.heap.size, rfl, HN2.out, hZ, hTT, Bn.out⟩
  case rest =>
  obtain ⟨N1, rfl, hN1, hx, ht, hb⟩ := hcut
  have HX1 := Lib.hid hx
  have K1 := Lib.hid ht
  have B1 := Lib.hid hb
  have HN1 := Lib.hid hN1
  clear hx ht hb K0 B0
  go_upto_region 2 with fail
  go_cut [6] (fun s wx => ∃ N : Nat, s = .pointer (some ⟨N, 0, none⟩) ∧ Blk wx N 75 (nc Y) ∧ Blk wx N1 75 (nc X) ∧ Below w.heap.size w wx)
  case first =>
    refine wp_region_held_drew (S := T3 w.heap.size cf cg N1 (nc X)) (by kernel_rfl) (⟨⟨K1.out.f, K1.out.g_⟩, HX1.out⟩) (fun hHeld => ?_)
    have BB := Lib.hid (below_drew B1.out)
    clear B1 K1 HX1
    generalize wc.drew = y0 at *
    refine wpAnyH_take (i := 0) (oi := _) (v := ?_) rfl (by kernel_rfl) (by kernel_rfl) (by kernel_rfl) (fun _ _ _ h => h) (Or.inl ⟨by rfl, ?_⟩) (by assumption) ?_
    case refine_2 => (intro w hSw; go_simp <;> with_reducible rfl)
    try simp only [List.getElem_toArray, List.getElem_cons_zero, Act.put, List.setIfInBounds_toArray, List.set_cons_zero, List.set_cons_succ]
    refine wpAnyH_take (i := 1) (oi := _) (v := .agg e3.toArray) rfl (by kernel_rfl) (by kernel_rfl) (by kernel_rfl) (fun _ _ _ h => h) (yieldsIf_load_part 28 (.tmp 16) (w.heap.size + 1) 0 30 cg e3 _ (fun w h => h.t.g_) HG1.out (by rfl) (by rfl) Tryz.underlying28 rfl I3.out (by rfl)) (by assumption) ?_
    try simp only [List.getElem_toArray, List.getElem_cons_zero, List.getElem_cons_succ, Act.put, List.setIfInBounds_toArray, List.set_cons_zero, List.set_cons_succ]
    refine wpAnyH_take (i := 3) (oi := _) (v := ?_) rfl (by kernel_rfl) (by kernel_rfl) (by kernel_rfl) (fun _ _ _ h => h) (Or.inl ⟨by rfl, ?_⟩) (by assumption) ?_
    case refine_2 => (intro w hSw; go_simp <;> with_reducible rfl)
    try simp only [List.getElem_toArray, List.getElem_cons_zero, List.getElem_cons_succ, Act.put, List.setIfInBounds_toArray, List.set_cons_zero, List.set_cons_succ]
    refine wpAnyH_take (i := 4) (oi := _) (v := .agg e4.toArray) rfl (by kernel_rfl) (by kernel_rfl) (by kernel_rfl) (fun _ _ _ h => h) (yieldsIf_load_part 28 (.tmp 19) (w.heap.size + 1) 18 30 cg e4 _ (fun w h => h.t.g_) HG2.out (by rfl) (by rfl) Tryz.underlying28 rfl I4.out (by rfl)) (by assumption) ?_
    try simp only [List.getElem_toArray, List.getElem_cons_zero, List.getElem_cons_succ, Act.put, List.setIfInBounds_toArray, List.set_cons_zero, List.set_cons_succ]
    refine wpAnyH_ready (rs := [2, 7]) (by kernel_rfl) (by simp) ?_
    refine AllReadyH.cons (o := _) rfl (fun K hK => ?_) (AllReadyH.cons (o := _) rfl (fun K hK => ?_) AllReadyH.nil)
    · simp only [List.getElem_toArray, List.getElem_cons_zero, List.getElem_cons_succ]
      go_simp
      refine (R3.out _).mono ?_
      rintro e y9 ⟨rfl, b⟩
      have Bn := Lib.hid (BB.out.trans (b.mono BB.out.size))
      have hH := hHeld.keep b
      clear b BB
      go_simp
      refine hK.out _ _ hH (fun hHeld2 => ?_)
      clear hK K hHeld hH
      have hHeld := hHeld2
      have BB := Bn
      clear hHeld2 Bn
      try simp only [List.getElem_toArray, List.getElem_cons_zero, List.getElem_cons_succ, Act.put, List.setIfInBounds_toArray, List.set_cons_zero, List.set_cons_succ]
      refine wpAnyH_ready (rs := [5, 7]) (by kernel_rfl) (by simp) ?_
      refine AllReadyH.cons (o := _) rfl (fun K hK => ?_) (AllReadyH.cons (o := _) rfl (fun K hK => ?_) AllReadyH.nil)
      · simp only [List.getElem_toArray, List.getElem_cons_zero, List.getElem_cons_succ]
        go_simp
        refine (R4.out _).mono ?_
        rintro e y10 ⟨rfl, b⟩
        have Bn := Lib.hid (BB.out.trans (b.mono BB.out.size))
        have hH := hHeld.keep b
        clear b BB
        go_simp
        refine hK.out _ _ hH (fun hHeld2 => ?_)
        clear hK K hHeld hH
        have hHeld := hHeld2
        have BB := Bn
        clear hHeld2 Bn
        try simp only [List.getElem_toArray, List.getElem_cons_zero, List.getElem_cons_succ, Act.put, List.setIfInBounds_toArray, List.set_cons_zero, List.set_cons_succ]
        refine wpAnyH_take (i := 6) (oi := _) (v := .agg (nc Y)) rfl (by kernel_rfl) (by kernel_rfl) (by kernel_rfl) (fun _ _ _ h => h) (yieldsIf_build 75 #[(0, .tmp 18), (1, .tmp 21)] (nc Y) (by rfl) HBY.out (by rfl)) (by assumption) ?_
        try simp only [List.getElem_toArray, List.getElem_cons_zero, List.getElem_cons_succ, Act.put, List.setIfInBounds_toArray, List.set_cons_zero, List.set_cons_succ]
        refine wpAnyH_ready (rs := [7]) (by kernel_rfl) (by simp) ?_
        refine AllReadyH.cons (o := _) rfl (fun K hK => ?_) AllReadyH.nil
        simp only [List.getElem_toArray, List.getElem_cons_zero, List.getElem_cons_succ]
        go_simp
        have HN2 := Lib.hid (show w.heap.size + 2 ≤ y10.heap.size from hHeld.t.g_.lt)
        have HN3 := Lib.hid (show N1 < y10.heap.size from hHeld.x.lt)
        have HA := Lib.hid (Blk.new y10 75 #[Value.int .i64 0, Value.int .i64 0, Value.int .i64 0, Value.int .i64 0, Value.int .i64 0, Value.int .i64 0, Value.int .i64 0, Value.int .i64 0, Value.int .i64 0, Value.int .i64 0, Value.int .i64 0, Value.int .i64 0, Value.int .i64 0, Value.int .i64 0, Value.int .i64 0, Value.int .i64 0, Value.int .i64 0, Value.int .i64 0, Value.int .i64 0, Value.int .i64 0, Value.int .i64 0, Value.int .i64 0, Value.int .i64 0, Value.int .i64 0, Value.int .i64 0, Value.int .i64 0, Value.int .i64 0, Value.int .i64 0, Value.int .i64 0, Value.int .i64 0, Value.int .i64 0, Value.int .i64 0, Value.int .i64 0, Value.int .i64 0, Value.int .i64 0, Value.int .i64 0, Value.int .i64 0, Value.int .i64 0])
        have Bn := Lib.hid (BB.out.alloc BB.out.size (.cells #[Value.int .i64 0, Value.int .i64 0, Value.int .i64 0, Value.int .i64 0, Value.int .i64 0, Value.int .i64 0, Value.int .i64 0, Value.int .i64 0, Value.int .i64 0, Value.int .i64 0, Value.int .i64 0, Value.int .i64 0, Value.int .i64 0, Value.int .i64 0, Value.int .i64 0, Value.int .i64 0, Value.int .i64 0, Value.int .i64 0, Value.int .i64 0, Value.int .i64 0, Value.int .i64 0, Value.int .i64 0, Value.int .i64 0, Value.int .i64 0, Value.int .i64 0, Value.int .i64 0, Value.int .i64 0, Value.int .i64 0, Value.int .i64 0, Value.int .i64 0, Value.int .i64 0, Value.int .i64 0, Value.int .i64 0, Value.int .i64 0, Value.int .i64 0, Value.int .i64 0, Value.int .i64 0, Value.int .i64 0] 75))
        have hH := hHeld.keep ((Below.refl _ y10).alloc (Nat.le_refl _) (.cells #[Value.int .i64 0, Value.int .i64 0, Value.int .i64 0, Value.int .i64 0, Value.int .i64 0, Value.int .i64 0, Value.int .i64 0, Value.int .i64 0, Value.int .i64 0, Value.int .i64 0, Value.int .i64 0, Value.int .i64 0, Value.int .i64 0, Value.int .i64 0, Value.int .i64 0, Value.int .i64 0, Value.int .i64 0, Value.int .i64 0, Value.int .i64 0, Value.int .i64 0, Value.int .i64 0, Value.int .i64 0, Value.int .i64 0, Value.int .i64 0, Value.int .i64 0, Value.int .i64 0, Value.int .i64 0, Value.int .i64 0, Value.int .i64 0, Value.int .i64 0, Value.int .i64 0, Value.int .i64 0, Value.int .i64 0, Value.int .i64 0, Value.int .i64 0, Value.int .i64 0, Value.int .i64 0, Value.int .i64 0] 75))
        clear BB
        refine hK.out _ _ hH (fun hHeld2 => ?_)
        clear hK K hHeld hH
        have hHeld := hHeld2
        have BB := Bn
        clear hHeld2 Bn
        try simp only [List.getElem_toArray, List.getElem_cons_zero, List.getElem_cons_succ, Act.put, List.setIfInBounds_toArray, List.set_cons_zero, List.set_cons_succ]
        generalize y10.alloc (.cells #[Value.int .i64 0, Value.int .i64 0, Value.int .i64 0, Value.int .i64 0, Value.int .i64 0, Value.int .i64 0, Value.int .i64 0, Value.int .i64 0, Value.int .i64 0, Value.int .i64 0, Value.int .i64 0, Value.int .i64 0, Value.int .i64 0, Value.int .i64 0, Value.int .i64 0, Value.int .i64 0, Value.int .i64 0, Value.int .i64 0, Value.int .i64 0, Value.int .i64 0, Value.int .i64 0, Value.int .i64 0, Value.int .i64 0, Value.int .i64 0, Value.int .i64 0, Value.int .i64 0, Value.int .i64 0, Value.int .i64 0, Value.int .i64 0, Value.int .i64 0, Value.int .i64 0, Value.int .i64 0, Value.int .i64 0, Value.int .i64 0, Value.int .i64 0, Value.int .i64 0, Value.int .i64 0, Value.int .i64 0] 75) = y11 at *
        refine wpAnyH_ready (rs := [8]) (by kernel_rfl) (by simp) ?_
        refine AllReadyH.cons (o := _) rfl (fun K hK => ?_) AllReadyH.nil
        simp only [List.getElem_toArray, List.getElem_cons_zero, List.getElem_cons_succ]
        refine if_wanted (by rfl) (wp_store_row 75 (.tmp 6) (.tmp 22) (by rfl) y10.heap.size (nc Y) (by rfl) (by rfl) 75 #[Value.int .i64 0, Value.int .i64 0, Value.int .i64 0, Value.int .i64 0, Value.int .i64 0, Value.int .i64 0, Value.int .i64 0, Value.int .i64 0, Value.int .i64 0, Value.int .i64 0, Value.int .i64 0, Value.int .i64 0, Value.int .i64 0, Value.int .i64 0, Value.int .i64 0, Value.int .i64 0, Value.int .i64 0, Value.int .i64 0, Value.int .i64 0, Value.int .i64 0, Value.int .i64 0, Value.int .i64 0, Value.int .i64 0, Value.int .i64 0, Value.int .i64 0, Value.int .i64 0, Value.int .i64 0, Value.int .i64 0, Value.int .i64 0, Value.int .i64 0, Value.int .i64 0, Value.int .i64 0, Value.int .i64 0, Value.int .i64 0, Value.int .i64 0, Value.int .i64 0, Value.int .i64 0, Value.int .i64 0] HA.out HIY.out (by rw [HNY.out]; rfl) (by rw [← Array.all_toList]; exact nc_one _) ?_)
        have hZ := setRow_heap y11 y10.heap.size #[Value.int .i64 0, Value.int .i64 0, Value.int .i64 0, Value.int .i64 0, Value.int .i64 0, Value.int .i64 0, Value.int .i64 0, Value.int .i64 0, Value.int .i64 0, Value.int .i64 0, Value.int .i64 0, Value.int .i64 0, Value.int .i64 0, Value.int .i64 0, Value.int .i64 0, Value.int .i64 0, Value.int .i64 0, Value.int .i64 0, Value.int .i64 0, Value.int .i64 0, Value.int .i64 0, Value.int .i64 0, Value.int .i64 0, Value.int .i64 0, Value.int .i64 0, Value.int .i64 0, Value.int .i64 0, Value.int .i64 0, Value.int .i64 0, Value.int .i64 0, Value.int .i64 0, Value.int .i64 0, Value.int .i64 0, Value.int .i64 0, Value.int .i64 0, Value.int .i64 0, Value.int .i64 0, Value.int .i64 0] (nc Y) 75 (0, 0) HA.out
        have hG := grownBy_setRow y11 y10.heap.size (nc Y)
        have hH := (show T3 w.heap.size cf cg N1 (nc X) _ from ⟨⟨hHeld.t.f.grown hG (fun e => by injection e with e; have := HN2.out; omega), hHeld.t.g_.grown hG (fun e => by injection e with e; have := HN2.out; omega)⟩, hHeld.x.grown hG (fun e => by injection e with e; have := HN3.out; omega)⟩)
        have Bn := Lib.hid (BB.out.grown hG BB.out.size (fun k e => by injection e with e; rw [← e]; have := HN2.out; omega))
        refine hK.out _ _ hH (fun hHeld2 => ?_)
        clear hK K hHeld hH
        try simp only [Act.put]
        have hTT := hHeld2.x
        refine wpAnyH_done (by kernel_rfl) ?_ _
        clear hHeld2
        go_wp2_with fail
        go_meet
        exact ⟨y10.heap.size, rfl, hZ, hTT, Bn.out⟩
      · simp only [List.getElem_toArray, List.getElem_cons_zero, List.getElem_cons_succ]
        go_simp
        have HN2 := Lib.hid (show w.heap.size + 2 ≤ y9.heap.size from hHeld.t.g_.lt)
        have HN3 := Lib.hid (show N1 < y9.heap.size from hHeld.x.lt)
        have HA := Lib.hid (Blk.new y9 75 #[Value.int .i64 0, Value.int .i64 0, Value.int .i64 0, Value.int .i64 0, Value.int .i64 0, Value.int .i64 0, Value.int .i64 0, Value.int .i64 0, Value.int .i64 0, Value.int .i64 0, Value.int .i64 0, Value.int .i64 0, Value.int .i64 0, Value.int .i64 0, Value.int .i64 0, Value.int .i64 0, Value.int .i64 0, Value.int .i64 0, Value.int .i64 0, Value.int .i64 0, Value.int .i64 0, Value.int .i64 0, Value.int .i64 0, Value.int .i64 0, Value.int .i64 0, Value.int .i64 0, Value.int .i64 0, Value.int .i64 0, Value.int .i64 0, Value.int .i64 0, Value.int .i64 0, Value.int .i64 0, Value.int .i64 0, Value.int .i64 0, Value.int .i64 0, Value.int .i64 0, Value.int .i64 0, Value.int .i64 0])
        have Bn := Lib.hid (BB.out.alloc BB.out.size (.cells #[Value.int .i64 0, Value.int .i64 0, Value.int .i64 0, Value.int .i64 0, Value.int .i64 0, Value.int .i64 0, Value.int .i64 0, Value.int .i64 0, Value.int .i64 0, Value.int .i64 0, Value.int .i64 0, Value.int .i64 0, Value.int .i64 0, Value.int .i64 0, Value.int .i64 0, Value.int .i64 0, Value.int .i64 0, Value.int .i64 0, Value.int .i64 0, Value.int .i64 0, Value.int .i64 0, Value.int .i64 0, Value.int .i64 0, Value.int .i64 0, Value.int .i64 0, Value.int .i64 0, Value.int .i64 0, Value.int .i64 0, Value.int .i64 0, Value.int .i64 0, Value.int .i64 0, Value.int .i64 0, Value.int .i64 0, Value.int .i64 0, Value.int .i64 0, Value.int .i64 0, Value.int .i64 0, Value.int .i64 0] 75))
        have hH := hHeld.keep ((Below.refl _ y9).alloc (Nat.le_refl _) (.cells #[Value.int .i64 0, Value.int .i64 0, Value.int .i64 0, Value.int .i64 0, Value.int .i64 0, Value.int .i64 0, Value.int .i64 0, Value.int .i64 0, Value.int .i64 0, Value.int .i64 0, Value.int .i64 0, Value.int .i64 0, Value.int .i64 0, Value.int .i64 0, Value.int .i64 0, Value.int .i64 0, Value.int .i64 0, Value.int .i64 0, Value.int .i64 0, Value.int .i64 0, Value.int .i64 0, Value.int .i64 0, Value.int .i64 0, Value.int .i64 0, Value.int .i64 0, Value.int .i64 0, Value.int .i64 0, Value.int .i64 0, Value.int .i64 0, Value.int .i64 0, Value.int .i64 0, Value.int .i64 0, Value.int .i64 0, Value.int .i64 0, Value.int .i64 0, Value.int .i64 0, Value.int .i64 0, Value.int .i64 0] 75))
        clear BB
        refine hK.out _ _ hH (fun hHeld2 => ?_)
        clear hK K hHeld hH
        have hHeld := hHeld2
        have BB := Bn
        clear hHeld2 Bn
        try simp only [List.getElem_toArray, List.getElem_cons_zero, List.getElem_cons_succ, Act.put, List.setIfInBounds_toArray, List.set_cons_zero, List.set_cons_succ]
        generalize y9.alloc (.cells #[Value.int .i64 0, Value.int .i64 0, Value.int .i64 0, Value.int .i64 0, Value.int .i64 0, Value.int .i64 0, Value.int .i64 0, Value.int .i64 0, Value.int .i64 0, Value.int .i64 0, Value.int .i64 0, Value.int .i64 0, Value.int .i64 0, Value.int .i64 0, Value.int .i64 0, Value.int .i64 0, Value.int .i64 0, Value.int .i64 0, Value.int .i64 0, Value.int .i64 0, Value.int .i64 0, Value.int .i64 0, Value.int .i64 0, Value.int .i64 0, Value.int .i64 0, Value.int .i64 0, Value.int .i64 0, Value.int .i64 0, Value.int .i64 0, Value.int .i64 0, Value.int .i64 0, Value.int .i64 0, Value.int .i64 0, Value.int .i64 0, Value.int .i64 0, Value.int .i64 0, Value.int .i64 0, Value.int .i64 0] 75) = y12 at *
        refine wpAnyH_ready (rs := [5]) (by kernel_rfl) (by simp) ?_
        refine AllReadyH.cons (o := _) rfl (fun K hK => ?_) AllReadyH.nil
        simp only [List.getElem_toArray, List.getElem_cons_zero, List.getElem_cons_succ]
        go_simp
        refine (R4.out _).mono ?_
        rintro e y13 ⟨rfl, b⟩
        have Bn := Lib.hid (BB.out.trans (b.mono BB.out.size))
        have hH := hHeld.keep b
        have HAn := Lib.hid (HA.out.keep b)
        clear HA
        have HA := HAn
        clear HAn
        clear b BB
        go_simp
        refine hK.out _ _ hH (fun hHeld2 => ?_)
        clear hK K hHeld hH
        have hHeld := hHeld2
        have BB := Bn
        clear hHeld2 Bn
        try simp only [List.getElem_toArray, List.getElem_cons_zero, List.getElem_cons_succ, Act.put, List.setIfInBounds_toArray, List.set_cons_zero, List.set_cons_succ]
        refine wpAnyH_take (i := 6) (oi := _) (v := .agg (nc Y)) rfl (by kernel_rfl) (by kernel_rfl) (by kernel_rfl) (fun _ _ _ h => h) (yieldsIf_build 75 #[(0, .tmp 18), (1, .tmp 21)] (nc Y) (by rfl) HBY.out (by rfl)) (by assumption) ?_
        try simp only [List.getElem_toArray, List.getElem_cons_zero, List.getElem_cons_succ, Act.put, List.setIfInBounds_toArray, List.set_cons_zero, List.set_cons_succ]
        refine wpAnyH_ready (rs := [8]) (by kernel_rfl) (by simp) ?_
        refine AllReadyH.cons (o := _) rfl (fun K hK => ?_) AllReadyH.nil
        simp only [List.getElem_toArray, List.getElem_cons_zero, List.getElem_cons_succ]
        refine if_wanted (by rfl) (wp_store_row 75 (.tmp 6) (.tmp 22) (by rfl) y9.heap.size (nc Y) (by rfl) (by rfl) 75 #[Value.int .i64 0, Value.int .i64 0, Value.int .i64 0, Value.int .i64 0, Value.int .i64 0, Value.int .i64 0, Value.int .i64 0, Value.int .i64 0, Value.int .i64 0, Value.int .i64 0, Value.int .i64 0, Value.int .i64 0, Value.int .i64 0, Value.int .i64 0, Value.int .i64 0, Value.int .i64 0, Value.int .i64 0, Value.int .i64 0, Value.int .i64 0, Value.int .i64 0, Value.int .i64 0, Value.int .i64 0, Value.int .i64 0, Value.int .i64 0, Value.int .i64 0, Value.int .i64 0, Value.int .i64 0, Value.int .i64 0, Value.int .i64 0, Value.int .i64 0, Value.int .i64 0, Value.int .i64 0, Value.int .i64 0, Value.int .i64 0, Value.int .i64 0, Value.int .i64 0, Value.int .i64 0, Value.int .i64 0] HA.out HIY.out (by rw [HNY.out]; rfl) (by rw [← Array.all_toList]; exact nc_one _) ?_)
        have hZ := setRow_heap y13 y9.heap.size #[Value.int .i64 0, Value.int .i64 0, Value.int .i64 0, Value.int .i64 0, Value.int .i64 0, Value.int .i64 0, Value.int .i64 0, Value.int .i64 0, Value.int .i64 0, Value.int .i64 0, Value.int .i64 0, Value.int .i64 0, Value.int .i64 0, Value.int .i64 0, Value.int .i64 0, Value.int .i64 0, Value.int .i64 0, Value.int .i64 0, Value.int .i64 0, Value.int .i64 0, Value.int .i64 0, Value.int .i64 0, Value.int .i64 0, Value.int .i64 0, Value.int .i64 0, Value.int .i64 0, Value.int .i64 0, Value.int .i64 0, Value.int .i64 0, Value.int .i64 0, Value.int .i64 0, Value.int .i64 0, Value.int .i64 0, Value.int .i64 0, Value.int .i64 0, Value.int .i64 0, Value.int .i64 0, Value.int .i64 0] (nc Y) 75 (0, 0) HA.out
        have hG := grownBy_setRow y13 y9.heap.size (nc Y)
        have hH := (show T3 w.heap.size cf cg N1 (nc X) _ from ⟨⟨hHeld.t.f.grown hG (fun e => by injection e with e; have := HN2.out; omega), hHeld.t.g_.grown hG (fun e => by injection e with e; have := HN2.out; omega)⟩, hHeld.x.grown hG (fun e => by injection e with e; have := HN3.out; omega)⟩)
        have Bn := Lib.hid (BB.out.grown hG BB.out.size (fun k e => by injection e with e; rw [← e]; have := HN2.out; omega))
        refine hK.out _ _ hH (fun hHeld2 => ?_)
        clear hK K hHeld hH
        try simp only [Act.put]
        have hTT := hHeld2.x
        refine wpAnyH_done (by kernel_rfl) ?_ _
        clear hHeld2
        go_wp2_with fail
        go_meet
        exact ⟨y9.heap.size, rfl, hZ, hTT, Bn.out⟩
    · simp only [List.getElem_toArray, List.getElem_cons_zero, List.getElem_cons_succ]
      go_simp
      have HN2 := Lib.hid (show w.heap.size + 2 ≤ y0.heap.size from hHeld.t.g_.lt)
      have HN3 := Lib.hid (show N1 < y0.heap.size from hHeld.x.lt)
      have HA := Lib.hid (Blk.new y0 75 #[Value.int .i64 0, Value.int .i64 0, Value.int .i64 0, Value.int .i64 0, Value.int .i64 0, Value.int .i64 0, Value.int .i64 0, Value.int .i64 0, Value.int .i64 0, Value.int .i64 0, Value.int .i64 0, Value.int .i64 0, Value.int .i64 0, Value.int .i64 0, Value.int .i64 0, Value.int .i64 0, Value.int .i64 0, Value.int .i64 0, Value.int .i64 0, Value.int .i64 0, Value.int .i64 0, Value.int .i64 0, Value.int .i64 0, Value.int .i64 0, Value.int .i64 0, Value.int .i64 0, Value.int .i64 0, Value.int .i64 0, Value.int .i64 0, Value.int .i64 0, Value.int .i64 0, Value.int .i64 0, Value.int .i64 0, Value.int .i64 0, Value.int .i64 0, Value.int .i64 0, Value.int .i64 0, Value.int .i64 0])
      have Bn := Lib.hid (BB.out.alloc BB.out.size (.cells #[Value.int .i64 0, Value.int .i64 0, Value.int .i64 0, Value.int .i64 0, Value.int .i64 0, Value.int .i64 0, Value.int .i64 0, Value.int .i64 0, Value.int .i64 0, Value.int .i64 0, Value.int .i64 0, Value.int .i64 0, Value.int .i64 0, Value.int .i64 0, Value.int .i64 0, Value.int .i64 0, Value.int .i64 0, Value.int .i64 0, Value.int .i64 0, Value.int .i64 0, Value.int .i64 0, Value.int .i64 0, Value.int .i64 0, Value.int .i64 0, Value.int .i64 0, Value.int .i64 0, Value.int .i64 0, Value.int .i64 0, Value.int .i64 0, Value.int .i64 0, Value.int .i64 0, Value.int .i64 0, Value.int .i64 0, Value.int .i64 0, Value.int .i64 0, Value.int .i64 0, Value.int .i64 0, Value.int .i64 0] 75))
      have hH := hHeld.keep ((Below.refl _ y0).alloc (Nat.le_refl _) (.cells #[Value.int .i64 0, Value.int .i64 0, Value.int .i64 0, Value.int .i64 0, Value.int .i64 0, Value.int .i64 0, Value.int .i64 0, Value.int .i64 0, Value.int .i64 0, Value.int .i64 0, Value.int .i64 0, Value.int .i64 0, Value.int .i64 0, Value.int .i64 0, Value.int .i64 0, Value.int .i64 0, Value.int .i64 0, Value.int .i64 0, Value.int .i64 0, Value.int .i64 0, Value.int .i64 0, Value.int .i64 0, Value.int .i64 0, Value.int .i64 0, Value.int .i64 0, Value.int .i64 0, Value.int .i64 0, Value.int .i64 0, Value.int .i64 0, Value.int .i64 0, Value.int .i64 0, Value.int .i64 0, Value.int .i64 0, Value.int .i64 0, Value.int .i64 0, Value.int .i64 0, Value.int .i64 0, Value.int .i64 0] 75))
      clear BB
      refine hK.out _ _ hH (fun hHeld2 => ?_)
      clear hK K hHeld hH
      have hHeld := hHeld2
      have BB := Bn
      clear hHeld2 Bn
      try simp only [List.getElem_toArray, List.getElem_cons_zero, List.getElem_cons_succ, Act.put, List.setIfInBounds_toArray, List.set_cons_zero, List.set_cons_succ]
      generalize y0.alloc (.cells #[Value.int .i64 0, Value.int .i64 0, Value.int .i64 0, Value.int .i64 0, Value.int .i64 0, Value.int .i64 0, Value.int .i64 0, Value.int .i64 0, Value.int .i64 0, Value.int .i64 0, Value.int .i64 0, Value.int .i64 0, Value.int .i64 0, Value.int .i64 0, Value.int .i64 0, Value.int .i64 0, Value.int .i64 0, Value.int .i64 0, Value.int .i64 0, Value.int .i64 0, Value.int .i64 0, Value.int .i64 0, Value.int .i64 0, Value.int .i64 0, Value.int .i64 0, Value.int .i64 0, Value.int .i64 0, Value.int .i64 0, Value.int .i64 0, Value.int .i64 0, Value.int .i64 0, Value.int .i64 0, Value.int .i64 0, Value.int .i64 0, Value.int .i64 0, Value.int .i64 0, Value.int .i64 0, Value.int .i64 0] 75) = y14 at *
      refine wpAnyH_ready (rs := [2]) (by kernel_rfl) (by simp) ?_
      refine AllReadyH.cons (o := _) rfl (fun K hK => ?_) AllReadyH.nil
      simp only [List.getElem_toArray, List.getElem_cons_zero, List.getElem_cons_succ]
      go_simp
      refine (R3.out _).mono ?_
      rintro e y15 ⟨rfl, b⟩
      have Bn := Lib.hid (BB.out.trans (b.mono BB.out.size))
      have hH := hHeld.keep b
      have HAn := Lib.hid (HA.out.keep b)
      clear HA
      have HA := HAn
      clear HAn
      clear b BB
      go_simp
      refine hK.out _ _ hH (fun hHeld2 => ?_)
      clear hK K hHeld hH
      have hHeld := hHeld2
      have BB := Bn
      clear hHeld2 Bn
      try simp only [List.getElem_toArray, List.getElem_cons_zero, List.getElem_cons_succ, Act.put, List.setIfInBounds_toArray, List.set_cons_zero, List.set_cons_succ]
      refine wpAnyH_ready (rs := [5]) (by kernel_rfl) (by simp) ?_
      refine AllReadyH.cons (o := _) rfl (fun K hK => ?_) AllReadyH.nil
      simp only [List.getElem_toArray, List.getElem_cons_zero, List.getElem_cons_succ]
      go_simp
      refine (R4.out _).mono ?_
      rintro e y16 ⟨rfl, b⟩
      have Bn := Lib.hid (BB.out.trans (b.mono BB.out.size))
      have hH := hHeld.keep b
      have HAn := Lib.hid (HA.out.keep b)
      clear HA
      have HA := HAn
      clear HAn
      clear b BB
      go_simp
      refine hK.out _ _ hH (fun hHeld2 => ?_)
      clear hK K hHeld hH
      have hHeld := hHeld2
      have BB := Bn
      clear hHeld2 Bn
      try simp only [List.getElem_toArray, List.getElem_cons_zero, List.getElem_cons_succ, Act.put, List.setIfInBounds_toArray, List.set_cons_zero, List.set_cons_succ]
      refine wpAnyH_take (i := 6) (oi := _) (v := .agg (nc Y)) rfl (by kernel_rfl) (by kernel_rfl) (by kernel_rfl) (fun _ _ _ h => h) (yieldsIf_build 75 #[(0, .tmp 18), (1, .tmp 21)] (nc Y) (by rfl) HBY.out (by rfl)) (by assumption) ?_
      try simp only [List.getElem_toArray, List.getElem_cons_zero, List.getElem_cons_succ, Act.put, List.setIfInBounds_toArray, List.set_cons_zero, List.set_cons_succ]
      refine wpAnyH_ready (rs := [8]) (by kernel_rfl) (by simp) ?_
      refine AllReadyH.cons (o := _) rfl (fun K hK => ?_) AllReadyH.nil
      simp only [List.getElem_toArray, List.getElem_cons_zero, List.getElem_cons_succ]
      refine if_wanted (by rfl) (wp_store_row 75 (.tmp 6) (.tmp 22) (by rfl) y0.heap.size (nc Y) (by rfl) (by rfl) 75 #[Value.int .i64 0, Value.int .i64 0, Value.int .i64 0, Value.int .i64 0, Value.int .i64 0, Value.int .i64 0, Value.int .i64 0, Value.int .i64 0, Value.int .i64 0, Value.int .i64 0, Value.int .i64 0, Value.int .i64 0, Value.int .i64 0, Value.int .i64 0, Value.int .i64 0, Value.int .i64 0, Value.int .i64 0, Value.int .i64 0, Value.int .i64 0, Value.int .i64 0, Value.int .i64 0, Value.int .i64 0, Value.int .i64 0, Value.int .i64 0, Value.int .i64 0, Value.int .i64 0, Value.int .i64 0, Value.int .i64 0, Value.int .i64 0, Value.int .i64 0, Value.int .i64 0, Value.int .i64 0, Value.int .i64 0, Value.int .i64 0, Value.int .i64 0, Value.int .i64 0, Value.int .i64 0, Value.int .i64 0] HA.out HIY.out (by rw [HNY.out]; rfl) (by rw [← Array.all_toList]; exact nc_one _) ?_)
      have hZ := setRow_heap y16 y0.heap.size #[Value.int .i64 0, Value.int .i64 0, Value.int .i64 0, Value.int .i64 0, Value.int .i64 0, Value.int .i64 0, Value.int .i64 0, Value.int .i64 0, Value.int .i64 0, Value.int .i64 0, Value.int .i64 0, Value.int .i64 0, Value.int .i64 0, Value.int .i64 0, Value.int .i64 0, Value.int .i64 0, Value.int .i64 0, Value.int .i64 0, Value.int .i64 0, Value.int .i64 0, Value.int .i64 0, Value.int .i64 0, Value.int .i64 0, Value.int .i64 0, Value.int .i64 0, Value.int .i64 0, Value.int .i64 0, Value.int .i64 0, Value.int .i64 0, Value.int .i64 0, Value.int .i64 0, Value.int .i64 0, Value.int .i64 0, Value.int .i64 0, Value.int .i64 0, Value.int .i64 0, Value.int .i64 0, Value.int .i64 0] (nc Y) 75 (0, 0) HA.out
      have hG := grownBy_setRow y16 y0.heap.size (nc Y)
      have hH := (show T3 w.heap.size cf cg N1 (nc X) _ from ⟨⟨hHeld.t.f.grown hG (fun e => by injection e with e; have := HN2.out; omega), hHeld.t.g_.grown hG (fun e => by injection e with e; have := HN2.out; omega)⟩, hHeld.x.grown hG (fun e => by injection e with e; have := HN3.out; omega)⟩)
      have Bn := Lib.hid (BB.out.grown hG BB.out.size (fun k e => by injection e with e; rw [← e]; have := HN2.out; omega))
      refine hK.out _ _ hH (fun hHeld2 => ?_)
      clear hK K hHeld hH
      try simp only [Act.put]
      have hTT := hHeld2.x
      refine wpAnyH_done (by kernel_rfl) ?_ _
      clear hHeld2
      go_wp2_with fail
      go_meet
      exact ⟨y0.heap.size, rfl, hZ, hTT, Bn.out⟩
  case rest =>
  obtain ⟨N, rfl, hy, hx, hb⟩ := hcut
  have J := Lib.hid (show Below w.heap.size w wc ∧ Blk wc N1 75 (nc X) ∧ Blk wc N 75 (nc Y) from ⟨hb, hx, hy⟩)
  clear hy hx hb HX1 K1 B1 I1 I2 I3 I4 HF1 HF2 HG1 HG2 HIX HNX HIY HNY HBX HBY R1 R2 R3 R4
  go_wp2_with fail
  go_loopg [7] 2 (fun gg i wr => ∃ k : Nat, k + gg = 2 ∧ i = .int .i64 (k : Int) ∧ Hid (∀ j, j < k * 19 → X[j]? = Y[j]?) ∧ Hid (Below w.heap.size w wr ∧ Blk wr N1 75 (nc X) ∧ Blk wr N 75 (nc Y)))
  case atStart => exact ⟨0, by omega, rfl, Lib.hid (fun j h => by omega), J⟩
  case round =>
    clear J
    obtain ⟨k, hkg, rfl, HS, I⟩ := hrel
    cases gk with
    | zero =>
      obtain rfl : k = 2 := by omega
      have hl := lex_same HX.out HY.out (fun j h => HS.out j (by omega))
      rw [HL.out] at hl
      clear HS
      go_wp2_with fail
      go_ret
      exact ⟨by first | rfl | rw [hl], I.out.1⟩
    | succ g2 =>
      have hk : k < 2 := by omega
      go_wp2_with fail
      go_loopg [8] 19 (fun gg i wr => ∃ q : Nat, q + gg = 19 ∧ i = .int .i64 (q : Int) ∧ Hid (∀ j, j < k * 19 + q → X[j]? = Y[j]?) ∧ Hid (Below w.heap.size w wr ∧ Blk wr N1 75 (nc X) ∧ Blk wr N 75 (nc Y)))
      case atStart => exact ⟨0, by omega, rfl, Lib.hid (fun j h => HS.out j (by omega)), I⟩
      case round =>
        clear HS I
        obtain ⟨q, hqg, rfl, HT, J⟩ := hrel
        cases gk with
        | zero =>
          obtain rfl : q = 19 := by omega
          go_wp2_with fail
          go_roundg g2
          case measure => omega
          case rel => exact ⟨k + 1, by omega, by go_num, Lib.hid (fun j h => HT.out j (by omega)), J⟩
        | succ g3 =>
          have hq : q < 19 := by omega
          obtain ⟨x, hx⟩ : ∃ x, X[k * 19 + q]? = some x := ⟨_, List.getElem?_eq_getElem (by rw [HX.out]; omega)⟩
          obtain ⟨y, hy⟩ : ∃ y, Y[k * 19 + q]? = some y := ⟨_, List.getElem?_eq_getElem (by rw [HY.out]; omega)⟩
          have hcx := fun n => (J.out.2.1.drewN n).cell (k * 19 + q)
          have hcy := fun n => (J.out.2.2.drewN n).cell (k * 19 + q)
          rw [nc_get _ _ _ hx] at hcx
          rw [nc_get _ _ _ hy] at hcy
          by_cases hxy : x = y
          · have HT2 := Lib.hid (show ∀ j, j < k * 19 + (q + 1) → X[j]? = Y[j]? from fun j h => by
              by_cases hj : j = k * 19 + q
              · rw [hj, hx, hy, hxy]
              · exact HT.out j (by omega))
            subst hxy
            clear HT hx hy
            go_wp2_with fail
            go_quiet (fail)
            have J2 := Lib.hid (show Below w.heap.size w (wr.drewN nq) ∧ Blk (wr.drewN nq) N1 75 (nc X) ∧ Blk (wr.drewN nq) N 75 (nc Y) from ⟨below_drewN J.out.1 _, J.out.2.1.drewN _, J.out.2.2.drewN _⟩)
            clear J hcx hcy
            generalize wr.drewN nq = wq at *
            go_wp2_with fail
            go_roundg g3
            case measure => omega
            case rel => exact ⟨q + 1, by omega, by go_num, HT2, J2⟩
          · have hl := Lib.hid (lex_at X Y _ x y HT.out hx hy hxy)
            rw [HL.out] at hl
            have hxz := Lib.hid hx
            have hyz := Lib.hid hy
            have hne : (((x : Nat) : Int) != ((y : Nat) : Int)) = true := by
              rw [bne_iff_ne]
              omega
            clear HT hx hy
            go_wp2_with fail
            go_quiet (fail)
            go_wp2_with fail
            have hcx2 := fun n => hcx (nq + n)
            have hcy2 := fun n => hcy (nq + n)
            have BQ := Lib.hid (below_drewN J.out.1 nq)
            have FX := J.out.2.1.drewN nq
            have FY := J.out.2.2.drewN nq
            have hcx3 := fun n => (FX.drewN n).cell (k * 19 + q)
            have hcy3 := fun n => (FY.drewN n).cell (k * 19 + q)
            rw [nc_get _ _ _ hxz.out] at hcx3
            rw [nc_get _ _ _ hyz.out] at hcy3
            clear hcx hcy hcx2 hcy2 FX FY J
            generalize wr.drewN nq = wq at *
            go_quiet (fail)
            go_wp2_with fail
            go_ret
            exact ⟨by rw [hl.out]; simp, below_drewN BQ.out _⟩
end Go.Proofs.YtonafonhadocgaaGreatDoor
