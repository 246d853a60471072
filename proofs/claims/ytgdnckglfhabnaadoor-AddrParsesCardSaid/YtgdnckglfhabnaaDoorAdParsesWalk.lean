/- The walk of horologelaw05.AddrParses. -/
import Derived.Test.YtgdnckglfhabnaaDoorAdKnown
import Derived.Test.YtgdnckglfhabnaaDoorAdEqE
import Derived.Test.YtgdnckglfhabnaaDoorRfPEnds
namespace Go.Proofs.YtgdnckglfhabnaaDoor
open Go.RowKit Go.Shelf

theorem parses_two (x : List UInt8) : ∃ v l er ok, l.length = 16 ∧ parseV x = .tuple #[.agg (adC v l), .int .i64 er] ∧ rparseV x = .tuple #[.agg (adC v l), .bool ok] ∧ ((er = 0 ∧ ok = true) ∨ (er = 9 ∧ ok = false ∧ v = false ∧ l = z16)) := by
  unfold parseV rparseV
  cases h : parseA x with
  | none => exact ⟨false, z16, 9, false, rfl, rfl, rfl, .inr ⟨rfl, rfl, rfl, rfl⟩⟩
  | some y =>
    obtain ⟨v, l⟩ := y
    exact ⟨v, l, 0, true, (parseA_len h).1, rfl, rfl, .inl ⟨rfl, rfl⟩⟩
theorem ends_two (s : ByteArray) : ∃ v l p er ok, l.length = 16 ∧ peV s = .tuple #[.agg (enC v l p), .int .i64 er] ∧ rpeV s = .tuple #[.agg (enC v l p), .bool ok] ∧ ((er = 0 ∧ ok = true) ∨ (er = 9 ∧ ok = false)) := by
  unfold peV rpeV
  cases h : peL s with
  | none => exact ⟨false, z16, 0, 9, false, rfl, rfl, rfl, .inr ⟨rfl, rfl⟩⟩
  | some y =>
    obtain ⟨v, l, p⟩ := y
    exact ⟨v, l, p, 0, true, (pe_sound h).2.1, rfl, rfl, .inl ⟨rfl, rfl⟩⟩

theorem wpList_yields {P : Program} {ops : Array Oper} {Q : Exit → Act → World → Prop} {a : Act} {w : World} {rest : List Oper} {o : Oper} {v : Value}
    (hw : Region.wanted o (yielded ops a.tmps) = true) (hv : (execOp a.eval o).run P w = .ok (.value v) w) (h : wpList P ops Q rest (a.put o.dst v) w) : wpList P ops Q (o :: rest) a w :=
  BigFrame.wpList_want hw fun _ hK => by
    unfold Oper.wp
    simp only [hv, Oper.upon]
    exact hK _ _ h
theorem wpList_build_none {P : Program} {ops : Array Oper} {rest : List Oper} {o : Oper} {a : Act} {w : World} {Q : Exit → Act → World → Prop} (t : TypeId) (cells : Array Value) (ho : o.op = .build t #[])
    (hc : P.built t [] = some cells) (hw : Region.wanted o (yielded ops a.tmps) = true) (h : wpList P ops Q rest (a.put o.dst (.agg cells)) w) : wpList P ops Q (o :: rest) a w :=
  wpList_build_eq t #[] cells ho hc hw h

set_option maxRecDepth 100000 in
set_option maxHeartbeats 16000000 in
theorem parses_walk (s : ByteArray) (w : World) (env : Env w) :
    Calls Tryd.prog 5 #[.string s] w fun e w' => e = .returned (.bool true) ∧ Below w.heap.size w w' := by
  have E := Lib.hid env
  clear env
  have HB0 := Lib.hid (show Tryd.prog.built 24 [] = some (adC false z16) by kernel_rfl)
  go_enter Tryd.func5, Tryd.ntmps5
  go_wp2_with fail
  refine (known_any _ E.out).mono ?_
  rintro e w1 ⟨rfl, b1⟩
  have B1 := Lib.hid b1
  have E1 := Lib.hid (E.out.below b1)
  clear b1 E
  by_cases h200 : 200 < s.size
  · have h1 : (200 : Int) < (s.size : Int) := by omega
    go_wp2_with fail
    go_ret
    exact ⟨rfl, B1.out⟩
  · have h1 : ¬ (200 : Int) < (s.size : Int) := by omega
    obtain ⟨v, l, er, ok, hl, hpv, hrv, HC⟩ := parses_two s.data.toList
    obtain ⟨v2, l2, p2, er2, ok2, hl2, hpv2, hrv2, HC2⟩ := ends_two s
    have HP := Lib.hid (fun W (e : Env W) => parse_any s (by omega) W e)
    have HRP := Lib.hid (fun W => rparse_any s (by omega) W)
    have HE := Lib.hid (fun W (e : Env W) => parseEnds_any s (by omega) W e)
    have HRE := Lib.hid (fun W => rparseEnds_any s (by omega) W)
    rw [hpv] at HP
    rw [hrv] at HRP
    rw [hpv2] at HE
    rw [hrv2] at HRE
    have HCC := Lib.hid HC
    have HCC2 := Lib.hid HC2
    clear hpv hrv hpv2 hrv2 HC HC2 h200
    have HSA := Lib.hid (show (Tryd.prog.info? 24).map (·.size) = some (adC v l).size by rw [adC_size _ _ hl]; exact adSize)
    have HSZ := Lib.hid (show (adC false z16).size = (adC v l).size by rw [adC_size _ _ hl]; rfl)
    have HS1 := Lib.hid (adC_one v l)
    have HSE := Lib.hid (show (Tryd.prog.info? 32).map (·.size) = some (enC v2 l2 p2).size by rw [enC_size _ _ _ hl2]; exact enSize)
    have HSF := Lib.hid (show (enC false z16 0).size = (enC v2 l2 p2).size by rw [enC_size _ _ _ hl2]; rfl)
    have HS2 := Lib.hid (enC_one v2 l2 p2)
    have hz1 : ∀ W : World, (Op.equalIn 10000 24 (.agg (adC v l)) (.agg (adC v l))).run Tryd.prog W = .ok true W := fun W => (eq_addr v v l l hl hl W).trans (by simp)
    have hz2 : ∀ W : World, (Op.equalIn 10000 32 (.agg (enC v2 l2 p2)) (.agg (enC v2 l2 p2))).run Tryd.prog W = .ok true W := fun W => (eq_ends v2 v2 l2 l2 p2 p2 hl2 hl2 W).trans (by simp)
    go_wp2_with fail
    refine (HP.out _ E1.out).mono ?_
    rintro e w2 ⟨rfl, b⟩
    have B2 := Lib.hid (B1.out.trans (b.mono B1.out.size))
    have E2 := Lib.hid (E1.out.below b)
    clear b B1 E1 HP
    go_upto_region 6 with ((with_reducible refine at_store 24 (.tmp 3) (.tmp 17) ?_); refine wpList_store_blk 24 (.tmp 3) (.tmp 17) w2.heap.size 24 (adC false z16) (adC v l) (Blk.new w2 24 (adC false z16)) (by rfl) (by rfl) (by rfl) (by rfl) HSA.out HSZ.out HS1.out (by rfl) ?_; intro w3 hk3 hg3 hs3; have K3 := Lib.hid hk3; have B3 := Lib.hid (print_world B2.out B2.out.size hg3); have E3 := Lib.hid (E2.out.below (print_world (Below.refl _ w2) (Nat.le_refl _) hg3)); clear hk3 hg3 hs3)
    clear B2 E2
    go_wp2_with fail
    refine (HRP.out _).mono ?_
    rintro e w4 ⟨rfl, b⟩
    have B4 := Lib.hid (B3.out.trans (b.mono B3.out.size))
    have E4 := Lib.hid (E3.out.below b)
    have K4 := Lib.hid (K3.out.keep b)
    clear b B3 E3 K3 HRP
    go_upto_region 7 with ((with_reducible refine at_store 24 (.tmp 5) (.tmp 22) ?_); refine wpList_store_blk 24 (.tmp 5) (.tmp 22) w4.heap.size 24 (adC false z16) (adC v l) (Blk.new w4 24 (adC false z16)) (by rfl) (by rfl) (by rfl) (by rfl) HSA.out HSZ.out HS1.out (by rfl) ?_; intro w5 hk5 hg5 hs5; have K5 := Lib.hid hk5; have B5 := Lib.hid (print_world B4.out B4.out.size hg5); have E5 := Lib.hid (E4.out.below (print_world (Below.refl _ w4) (Nat.le_refl _) hg5)); have K6 := Lib.hid ((K4.out.alloc _).grown hg5 (fun e => by have := Option.some.inj e; have := K4.out.lt; omega)); clear hk5 hg5 hs5)
    clear B4 E4 K4
    rcases HCC.out with ⟨rfl, rfl⟩ | ⟨rfl, rfl, rfl, rfl⟩
    · clear HCC
      with_reducible refine wp_region_lit ?_
      with_reducible refine wpList_yields (v := ?_) (by kernel_rfl) ?_ ?_
      case refine_2 => (go_simp <;> with_reducible rfl)
      try simp only [Act.put, List.setIfInBounds_toArray, List.set_cons_zero, List.set_cons_succ]
      with_reducible refine wpList_yields (v := ?_) (by kernel_rfl) ?_ ?_
      case refine_2 => (go_simp <;> with_reducible rfl)
      try simp only [Act.put, List.setIfInBounds_toArray, List.set_cons_zero, List.set_cons_succ]
      with_reducible refine wpList_yields (v := ?_) (by kernel_rfl) ?_ ?_
      case refine_2 => (go_simp <;> with_reducible rfl)
      try simp only [Act.put, List.setIfInBounds_toArray, List.set_cons_zero, List.set_cons_succ]
      with_reducible refine wpList_yields (v := ?_) (by kernel_rfl) ?_ ?_
      case refine_2 => (go_simp <;> with_reducible rfl)
      try simp only [Act.put, List.setIfInBounds_toArray, List.set_cons_zero, List.set_cons_succ]
      with_reducible refine wpList_yields (v := ?_) (by kernel_rfl) ?_ ?_
      case refine_2 => (go_simp <;> with_reducible rfl)
      try simp only [Act.put, List.setIfInBounds_toArray, List.set_cons_zero, List.set_cons_succ]
      with_reducible refine wpList_yields (v := ?_) (by kernel_rfl) ?_ ?_
      case refine_2 => (go_simp <;> with_reducible rfl)
      try simp only [Act.put, List.setIfInBounds_toArray, List.set_cons_zero, List.set_cons_succ]
      with_reducible refine wpList_yields (v := ?_) (by kernel_rfl) ?_ ?_
      case refine_2 => (go_simp <;> with_reducible rfl)
      try simp only [Act.put, List.setIfInBounds_toArray, List.set_cons_zero, List.set_cons_succ]
      with_reducible refine wpList_load_blk 24 (.tmp 3) w2.heap.size 24 (adC v l) _ K6.out (by kernel_rfl) (by kernel_rfl) Tryd.underlying24 (by kernel_rfl) HSA.out (by kernel_rfl) ?_
      try simp only [Act.put, List.setIfInBounds_toArray, List.set_cons_zero, List.set_cons_succ]
      with_reducible refine wpList_load_blk 24 (.tmp 5) w4.heap.size 24 (adC v l) _ K5.out (by kernel_rfl) (by kernel_rfl) Tryd.underlying24 (by kernel_rfl) HSA.out (by kernel_rfl) ?_
      try simp only [Act.put, List.setIfInBounds_toArray, List.set_cons_zero, List.set_cons_succ]
      with_reducible refine wpList_yields (v := ?_) (by kernel_rfl) ?_ ?_
      case refine_2 => (go_simp <;> with_reducible rfl)
      try simp only [Act.put, List.setIfInBounds_toArray, List.set_cons_zero, List.set_cons_succ]
      with_reducible refine wpList_yields (v := ?_) (by kernel_rfl) ?_ ?_
      case refine_2 => (go_simp <;> with_reducible rfl)
      try simp only [Act.put, List.setIfInBounds_toArray, List.set_cons_zero, List.set_cons_succ]
      with_reducible refine wpList_yields (v := ?_) (by kernel_rfl) ?_ ?_
      case refine_2 => (go_simp <;> with_reducible rfl)
      try simp only [Act.put, List.setIfInBounds_toArray, List.set_cons_zero, List.set_cons_succ]
      with_reducible refine wpList_yields (v := ?_) (by kernel_rfl) ?_ ?_
      case refine_2 => (go_simp <;> with_reducible rfl)
      try simp only [Act.put, List.setIfInBounds_toArray, List.set_cons_zero, List.set_cons_succ]
      with_reducible refine wpList_yields (v := ?_) (by kernel_rfl) ?_ ?_
      case refine_2 => (go_simp <;> with_reducible rfl)
      try simp only [Act.put, List.setIfInBounds_toArray, List.set_cons_zero, List.set_cons_succ]
      with_reducible refine wpList_yields (v := ?_) (by kernel_rfl) ?_ ?_
      case refine_2 => (go_simp <;> with_reducible rfl)
      try simp only [Act.put, List.setIfInBounds_toArray, List.set_cons_zero, List.set_cons_succ]
      with_reducible refine wpList_yields (v := ?_) (by kernel_rfl) ?_ ?_
      case refine_2 => (go_simp <;> with_reducible rfl)
      try simp only [Act.put, List.setIfInBounds_toArray, List.set_cons_zero, List.set_cons_succ]
      with_reducible refine wpList_skip (by kernel_rfl) ?_
      try simp only [Act.put, List.setIfInBounds_toArray, List.set_cons_zero, List.set_cons_succ]
      with_reducible refine wpList_skip (by kernel_rfl) ?_
      try simp only [Act.put, List.setIfInBounds_toArray, List.set_cons_zero, List.set_cons_succ]
      with_reducible refine wpList_skip (by kernel_rfl) ?_
      try simp only [Act.put, List.setIfInBounds_toArray, List.set_cons_zero, List.set_cons_succ]
      with_reducible refine wpList_skip (by kernel_rfl) ?_
      try simp only [Act.put, List.setIfInBounds_toArray, List.set_cons_zero, List.set_cons_succ]
      with_reducible refine wpList_skip (by kernel_rfl) ?_
      try simp only [Act.put, List.setIfInBounds_toArray, List.set_cons_zero, List.set_cons_succ]
      with_reducible refine wpList_skip (by kernel_rfl) ?_
      try simp only [Act.put, List.setIfInBounds_toArray, List.set_cons_zero, List.set_cons_succ]
      with_reducible refine wpList_skip (by kernel_rfl) ?_
      try simp only [Act.put, List.setIfInBounds_toArray, List.set_cons_zero, List.set_cons_succ]
      with_reducible refine wpList_yields (v := ?_) (by kernel_rfl) ?_ ?_
      case refine_2 => (go_simp <;> with_reducible rfl)
      try simp only [Act.put, List.setIfInBounds_toArray, List.set_cons_zero, List.set_cons_succ]
      with_reducible refine wpList_yields (v := ?_) (by kernel_rfl) ?_ ?_
      case refine_2 => (go_simp <;> with_reducible rfl)
      try simp only [Act.put, List.setIfInBounds_toArray, List.set_cons_zero, List.set_cons_succ]
      with_reducible refine wpList_nil ?_
      clear K5 K6
      go_wp2_with fail
      refine (HE.out _ E5.out).mono ?_
      rintro e w6 ⟨rfl, b⟩
      have B6 := Lib.hid (B5.out.trans (b.mono B5.out.size))
      have E6 := Lib.hid (E5.out.below b)
      clear b B5 E5 HE
      go_upto_region 10 with ((with_reducible refine at_store 32 (.tmp 7) (.tmp 52) ?_); refine wpList_store_blk 32 (.tmp 7) (.tmp 52) w6.heap.size 32 (enC false z16 0) (enC v2 l2 p2) (Blk.new w6 32 (enC false z16 0)) (by rfl) (by rfl) (by rfl) (by rfl) HSE.out HSF.out HS2.out (by rfl) ?_; intro w7 hk7 hg7 hs7; have K7 := Lib.hid hk7; have B7 := Lib.hid (print_world B6.out B6.out.size hg7); have E7 := Lib.hid (E6.out.below (print_world (Below.refl _ w6) (Nat.le_refl _) hg7)); clear hk7 hg7 hs7)
      clear B6 E6
      go_wp2_with fail
      refine (HRE.out _).mono ?_
      rintro e w8 ⟨rfl, b⟩
      have B8 := Lib.hid (B7.out.trans (b.mono B7.out.size))
      have E8 := Lib.hid (E7.out.below b)
      have K7' := Lib.hid (K7.out.keep b)
      clear b B7 E7 K7 HRE
      go_upto_region 11 with ((with_reducible refine at_store 32 (.tmp 8) (.tmp 57) ?_); refine wpList_store_blk 32 (.tmp 8) (.tmp 57) w8.heap.size 32 (enC false z16 0) (enC v2 l2 p2) (Blk.new w8 32 (enC false z16 0)) (by rfl) (by rfl) (by rfl) (by rfl) HSE.out HSF.out HS2.out (by rfl) ?_; intro w9 hk9 hg9 hs9; have K8 := Lib.hid hk9; have B9 := Lib.hid (print_world B8.out B8.out.size hg9); have E9 := Lib.hid (E8.out.below (print_world (Below.refl _ w8) (Nat.le_refl _) hg9)); have K9 := Lib.hid ((K7'.out.alloc _).grown hg9 (fun e => by have := Option.some.inj e; have := K7'.out.lt; omega)); clear hk9 hg9 hs9)
      clear B8 E8 K7'
      rcases HCC2.out with ⟨rfl, rfl⟩ | ⟨rfl, rfl⟩
      · clear HCC2
        with_reducible refine wp_region_lit ?_
        with_reducible refine wpList_yields (v := ?_) (by kernel_rfl) ?_ ?_
        case refine_2 => (go_simp <;> with_reducible rfl)
        try simp only [Act.put, List.setIfInBounds_toArray, List.set_cons_zero, List.set_cons_succ]
        with_reducible refine wpList_yields (v := ?_) (by kernel_rfl) ?_ ?_
        case refine_2 => (go_simp <;> with_reducible rfl)
        try simp only [Act.put, List.setIfInBounds_toArray, List.set_cons_zero, List.set_cons_succ]
        with_reducible refine wpList_yields (v := ?_) (by kernel_rfl) ?_ ?_
        case refine_2 => (go_simp <;> with_reducible rfl)
        try simp only [Act.put, List.setIfInBounds_toArray, List.set_cons_zero, List.set_cons_succ]
        with_reducible refine wpList_yields (v := ?_) (by kernel_rfl) ?_ ?_
        case refine_2 => (go_simp <;> with_reducible rfl)
        try simp only [Act.put, List.setIfInBounds_toArray, List.set_cons_zero, List.set_cons_succ]
        with_reducible refine wpList_yields (v := ?_) (by kernel_rfl) ?_ ?_
        case refine_2 => (go_simp <;> with_reducible rfl)
        try simp only [Act.put, List.setIfInBounds_toArray, List.set_cons_zero, List.set_cons_succ]
        with_reducible refine wpList_load_blk 32 (.tmp 7) w6.heap.size 32 (enC v2 l2 p2) _ K9.out (by kernel_rfl) (by kernel_rfl) Tryd.underlying32 (by kernel_rfl) HSE.out (by kernel_rfl) ?_
        try simp only [Act.put, List.setIfInBounds_toArray, List.set_cons_zero, List.set_cons_succ]
        with_reducible refine wpList_load_blk 32 (.tmp 8) w8.heap.size 32 (enC v2 l2 p2) _ K8.out (by kernel_rfl) (by kernel_rfl) Tryd.underlying32 (by kernel_rfl) HSE.out (by kernel_rfl) ?_
        try simp only [Act.put, List.setIfInBounds_toArray, List.set_cons_zero, List.set_cons_succ]
        with_reducible refine wpList_yields (v := ?_) (by kernel_rfl) ?_ ?_
        case refine_2 => (go_simp <;> with_reducible rfl)
        try simp only [Act.put, List.setIfInBounds_toArray, List.set_cons_zero, List.set_cons_succ]
        with_reducible refine wpList_yields (v := ?_) (by kernel_rfl) ?_ ?_
        case refine_2 => (go_simp <;> with_reducible rfl)
        try simp only [Act.put, List.setIfInBounds_toArray, List.set_cons_zero, List.set_cons_succ]
        with_reducible refine wpList_yields (v := ?_) (by kernel_rfl) ?_ ?_
        case refine_2 => (go_simp <;> with_reducible rfl)
        try simp only [Act.put, List.setIfInBounds_toArray, List.set_cons_zero, List.set_cons_succ]
        with_reducible refine wpList_yields (v := ?_) (by kernel_rfl) ?_ ?_
        case refine_2 => (go_simp <;> with_reducible rfl)
        try simp only [Act.put, List.setIfInBounds_toArray, List.set_cons_zero, List.set_cons_succ]
        with_reducible refine wpList_yields (v := ?_) (by kernel_rfl) ?_ ?_
        case refine_2 => (go_simp <;> with_reducible rfl)
        try simp only [Act.put, List.setIfInBounds_toArray, List.set_cons_zero, List.set_cons_succ]
        with_reducible refine wpList_skip (by kernel_rfl) ?_
        try simp only [Act.put, List.setIfInBounds_toArray, List.set_cons_zero, List.set_cons_succ]
        with_reducible refine wpList_skip (by kernel_rfl) ?_
        try simp only [Act.put, List.setIfInBounds_toArray, List.set_cons_zero, List.set_cons_succ]
        with_reducible refine wpList_yields (v := ?_) (by kernel_rfl) ?_ ?_
        case refine_2 => (go_simp <;> with_reducible rfl)
        try simp only [Act.put, List.setIfInBounds_toArray, List.set_cons_zero, List.set_cons_succ]
        with_reducible refine wpList_yields (v := ?_) (by kernel_rfl) ?_ ?_
        case refine_2 => (go_simp <;> with_reducible rfl)
        try simp only [Act.put, List.setIfInBounds_toArray, List.set_cons_zero, List.set_cons_succ]
        with_reducible refine wpList_yields (v := ?_) (by kernel_rfl) ?_ ?_
        case refine_2 => (go_simp <;> with_reducible rfl)
        try simp only [Act.put, List.setIfInBounds_toArray, List.set_cons_zero, List.set_cons_succ]
        with_reducible refine wpList_nil ?_
        go_wp2_with fail
        go_ret
        exact ⟨rfl, B9.out⟩
      · clear HCC2
        with_reducible refine wp_region_lit ?_
        with_reducible refine wpList_yields (v := ?_) (by kernel_rfl) ?_ ?_
        case refine_2 => (go_simp <;> with_reducible rfl)
        try simp only [Act.put, List.setIfInBounds_toArray, List.set_cons_zero, List.set_cons_succ]
        with_reducible refine wpList_yields (v := ?_) (by kernel_rfl) ?_ ?_
        case refine_2 => (go_simp <;> with_reducible rfl)
        try simp only [Act.put, List.setIfInBounds_toArray, List.set_cons_zero, List.set_cons_succ]
        with_reducible refine wpList_yields (v := ?_) (by kernel_rfl) ?_ ?_
        case refine_2 => (go_simp <;> with_reducible rfl)
        try simp only [Act.put, List.setIfInBounds_toArray, List.set_cons_zero, List.set_cons_succ]
        with_reducible refine wpList_yields (v := ?_) (by kernel_rfl) ?_ ?_
        case refine_2 => (go_simp <;> with_reducible rfl)
        try simp only [Act.put, List.setIfInBounds_toArray, List.set_cons_zero, List.set_cons_succ]
        with_reducible refine wpList_yields (v := ?_) (by kernel_rfl) ?_ ?_
        case refine_2 => (go_simp <;> with_reducible rfl)
        try simp only [Act.put, List.setIfInBounds_toArray, List.set_cons_zero, List.set_cons_succ]
        with_reducible refine wpList_load_blk 32 (.tmp 7) w6.heap.size 32 (enC v2 l2 p2) _ K9.out (by kernel_rfl) (by kernel_rfl) Tryd.underlying32 (by kernel_rfl) HSE.out (by kernel_rfl) ?_
        try simp only [Act.put, List.setIfInBounds_toArray, List.set_cons_zero, List.set_cons_succ]
        with_reducible refine wpList_load_blk 32 (.tmp 8) w8.heap.size 32 (enC v2 l2 p2) _ K8.out (by kernel_rfl) (by kernel_rfl) Tryd.underlying32 (by kernel_rfl) HSE.out (by kernel_rfl) ?_
        try simp only [Act.put, List.setIfInBounds_toArray, List.set_cons_zero, List.set_cons_succ]
        with_reducible refine wpList_yields (v := ?_) (by kernel_rfl) ?_ ?_
        case refine_2 => (go_simp <;> with_reducible rfl)
        try simp only [Act.put, List.setIfInBounds_toArray, List.set_cons_zero, List.set_cons_succ]
        with_reducible refine wpList_yields (v := ?_) (by kernel_rfl) ?_ ?_
        case refine_2 => (go_simp <;> with_reducible rfl)
        try simp only [Act.put, List.setIfInBounds_toArray, List.set_cons_zero, List.set_cons_succ]
        with_reducible refine wpList_yields (v := ?_) (by kernel_rfl) ?_ ?_
        case refine_2 => (go_simp <;> with_reducible rfl)
        try simp only [Act.put, List.setIfInBounds_toArray, List.set_cons_zero, List.set_cons_succ]
        with_reducible refine wpList_yields (v := ?_) (by kernel_rfl) ?_ ?_
        case refine_2 => (go_simp <;> with_reducible rfl)
        try simp only [Act.put, List.setIfInBounds_toArray, List.set_cons_zero, List.set_cons_succ]
        with_reducible refine wpList_yields (v := ?_) (by kernel_rfl) ?_ ?_
        case refine_2 => (go_simp <;> with_reducible rfl)
        try simp only [Act.put, List.setIfInBounds_toArray, List.set_cons_zero, List.set_cons_succ]
        with_reducible refine wpList_yields (v := ?_) (by kernel_rfl) ?_ ?_
        case refine_2 => (go_simp <;> with_reducible rfl)
        try simp only [Act.put, List.setIfInBounds_toArray, List.set_cons_zero, List.set_cons_succ]
        with_reducible refine wpList_yields (v := ?_) (by kernel_rfl) ?_ ?_
        case refine_2 => (go_simp <;> with_reducible rfl)
        try simp only [Act.put, List.setIfInBounds_toArray, List.set_cons_zero, List.set_cons_succ]
        with_reducible refine wpList_yields (v := ?_) (by kernel_rfl) ?_ ?_
        case refine_2 => (go_simp <;> with_reducible rfl)
        try simp only [Act.put, List.setIfInBounds_toArray, List.set_cons_zero, List.set_cons_succ]
        with_reducible refine wpList_yields (v := ?_) (by kernel_rfl) ?_ ?_
        case refine_2 => (go_simp <;> with_reducible rfl)
        try simp only [Act.put, List.setIfInBounds_toArray, List.set_cons_zero, List.set_cons_succ]
        with_reducible refine wpList_yields (v := ?_) (by kernel_rfl) ?_ ?_
        case refine_2 => (go_simp <;> with_reducible rfl)
        try simp only [Act.put, List.setIfInBounds_toArray, List.set_cons_zero, List.set_cons_succ]
        with_reducible refine wpList_nil ?_
        go_wp2_with fail
        go_ret
        exact ⟨rfl, B9.out⟩
    · clear HCC
      with_reducible refine wp_region_lit ?_
      with_reducible refine wpList_yields (v := ?_) (by kernel_rfl) ?_ ?_
      case refine_2 => (go_simp <;> with_reducible rfl)
      try simp only [Act.put, List.setIfInBounds_toArray, List.set_cons_zero, List.set_cons_succ]
      with_reducible refine wpList_yields (v := ?_) (by kernel_rfl) ?_ ?_
      case refine_2 => (go_simp <;> with_reducible rfl)
      try simp only [Act.put, List.setIfInBounds_toArray, List.set_cons_zero, List.set_cons_succ]
      with_reducible refine wpList_yields (v := ?_) (by kernel_rfl) ?_ ?_
      case refine_2 => (go_simp <;> with_reducible rfl)
      try simp only [Act.put, List.setIfInBounds_toArray, List.set_cons_zero, List.set_cons_succ]
      with_reducible refine wpList_yields (v := ?_) (by kernel_rfl) ?_ ?_
      case refine_2 => (go_simp <;> with_reducible rfl)
      try simp only [Act.put, List.setIfInBounds_toArray, List.set_cons_zero, List.set_cons_succ]
      with_reducible refine wpList_yields (v := ?_) (by kernel_rfl) ?_ ?_
      case refine_2 => (go_simp <;> with_reducible rfl)
      try simp only [Act.put, List.setIfInBounds_toArray, List.set_cons_zero, List.set_cons_succ]
      with_reducible refine wpList_yields (v := ?_) (by kernel_rfl) ?_ ?_
      case refine_2 => (go_simp <;> with_reducible rfl)
      try simp only [Act.put, List.setIfInBounds_toArray, List.set_cons_zero, List.set_cons_succ]
      with_reducible refine wpList_yields (v := ?_) (by kernel_rfl) ?_ ?_
      case refine_2 => (go_simp <;> with_reducible rfl)
      try simp only [Act.put, List.setIfInBounds_toArray, List.set_cons_zero, List.set_cons_succ]
      with_reducible refine wpList_skip (by kernel_rfl) ?_
      try simp only [Act.put, List.setIfInBounds_toArray, List.set_cons_zero, List.set_cons_succ]
      with_reducible refine wpList_skip (by kernel_rfl) ?_
      try simp only [Act.put, List.setIfInBounds_toArray, List.set_cons_zero, List.set_cons_succ]
      with_reducible refine wpList_skip (by kernel_rfl) ?_
      try simp only [Act.put, List.setIfInBounds_toArray, List.set_cons_zero, List.set_cons_succ]
      with_reducible refine wpList_yields (v := ?_) (by kernel_rfl) ?_ ?_
      case refine_2 => (go_simp <;> with_reducible rfl)
      try simp only [Act.put, List.setIfInBounds_toArray, List.set_cons_zero, List.set_cons_succ]
      with_reducible refine wpList_yields (v := ?_) (by kernel_rfl) ?_ ?_
      case refine_2 => (go_simp <;> with_reducible rfl)
      try simp only [Act.put, List.setIfInBounds_toArray, List.set_cons_zero, List.set_cons_succ]
      with_reducible refine wpList_yields (v := ?_) (by kernel_rfl) ?_ ?_
      case refine_2 => (go_simp <;> with_reducible rfl)
      try simp only [Act.put, List.setIfInBounds_toArray, List.set_cons_zero, List.set_cons_succ]
      with_reducible refine wpList_yields (v := ?_) (by kernel_rfl) ?_ ?_
      case refine_2 => (go_simp <;> with_reducible rfl)
      try simp only [Act.put, List.setIfInBounds_toArray, List.set_cons_zero, List.set_cons_succ]
      with_reducible refine wpList_yields (v := ?_) (by kernel_rfl) ?_ ?_
      case refine_2 => (go_simp <;> with_reducible rfl)
      try simp only [Act.put, List.setIfInBounds_toArray, List.set_cons_zero, List.set_cons_succ]
      with_reducible refine wpList_yields (v := ?_) (by kernel_rfl) ?_ ?_
      case refine_2 => (go_simp <;> with_reducible rfl)
      try simp only [Act.put, List.setIfInBounds_toArray, List.set_cons_zero, List.set_cons_succ]
      with_reducible refine wpList_yields (v := ?_) (by kernel_rfl) ?_ ?_
      case refine_2 => (go_simp <;> with_reducible rfl)
      try simp only [Act.put, List.setIfInBounds_toArray, List.set_cons_zero, List.set_cons_succ]
      with_reducible refine wpList_yields (v := ?_) (by kernel_rfl) ?_ ?_
      case refine_2 => (go_simp <;> with_reducible rfl)
      try simp only [Act.put, List.setIfInBounds_toArray, List.set_cons_zero, List.set_cons_succ]
      with_reducible refine wpList_yields (v := ?_) (by kernel_rfl) ?_ ?_
      case refine_2 => (go_simp <;> with_reducible rfl)
      try simp only [Act.put, List.setIfInBounds_toArray, List.set_cons_zero, List.set_cons_succ]
      with_reducible refine wpList_load_blk 24 (.tmp 3) w2.heap.size 24 (adC false z16) _ K6.out (by kernel_rfl) (by kernel_rfl) Tryd.underlying24 (by kernel_rfl) HSA.out (by kernel_rfl) ?_
      try simp only [Act.put, List.setIfInBounds_toArray, List.set_cons_zero, List.set_cons_succ]
      with_reducible refine wpList_build_none 24 (adC false z16) (by kernel_rfl) HB0.out (by kernel_rfl) ?_
      try simp only [Act.put, List.setIfInBounds_toArray, List.set_cons_zero, List.set_cons_succ]
      with_reducible refine wpList_yields (v := ?_) (by kernel_rfl) ?_ ?_
      case refine_2 => (go_simp <;> with_reducible rfl)
      try simp only [Act.put, List.setIfInBounds_toArray, List.set_cons_zero, List.set_cons_succ]
      with_reducible refine wpList_yields (v := ?_) (by kernel_rfl) ?_ ?_
      case refine_2 => (go_simp <;> with_reducible rfl)
      try simp only [Act.put, List.setIfInBounds_toArray, List.set_cons_zero, List.set_cons_succ]
      with_reducible refine wpList_yields (v := ?_) (by kernel_rfl) ?_ ?_
      case refine_2 => (go_simp <;> with_reducible rfl)
      try simp only [Act.put, List.setIfInBounds_toArray, List.set_cons_zero, List.set_cons_succ]
      with_reducible refine wpList_yields (v := ?_) (by kernel_rfl) ?_ ?_
      case refine_2 => (go_simp <;> with_reducible rfl)
      try simp only [Act.put, List.setIfInBounds_toArray, List.set_cons_zero, List.set_cons_succ]
      with_reducible refine wpList_nil ?_
      clear K5 K6
      go_wp2_with fail
      refine (HE.out _ E5.out).mono ?_
      rintro e w6 ⟨rfl, b⟩
      have B6 := Lib.hid (B5.out.trans (b.mono B5.out.size))
      have E6 := Lib.hid (E5.out.below b)
      clear b B5 E5 HE
      go_upto_region 10 with ((with_reducible refine at_store 32 (.tmp 7) (.tmp 52) ?_); refine wpList_store_blk 32 (.tmp 7) (.tmp 52) w6.heap.size 32 (enC false z16 0) (enC v2 l2 p2) (Blk.new w6 32 (enC false z16 0)) (by rfl) (by rfl) (by rfl) (by rfl) HSE.out HSF.out HS2.out (by rfl) ?_; intro w7 hk7 hg7 hs7; have K7 := Lib.hid hk7; have B7 := Lib.hid (print_world B6.out B6.out.size hg7); have E7 := Lib.hid (E6.out.below (print_world (Below.refl _ w6) (Nat.le_refl _) hg7)); clear hk7 hg7 hs7)
      clear B6 E6
      go_wp2_with fail
      refine (HRE.out _).mono ?_
      rintro e w8 ⟨rfl, b⟩
      have B8 := Lib.hid (B7.out.trans (b.mono B7.out.size))
      have E8 := Lib.hid (E7.out.below b)
      have K7' := Lib.hid (K7.out.keep b)
      clear b B7 E7 K7 HRE
      go_upto_region 11 with ((with_reducible refine at_store 32 (.tmp 8) (.tmp 57) ?_); refine wpList_store_blk 32 (.tmp 8) (.tmp 57) w8.heap.size 32 (enC false z16 0) (enC v2 l2 p2) (Blk.new w8 32 (enC false z16 0)) (by rfl) (by rfl) (by rfl) (by rfl) HSE.out HSF.out HS2.out (by rfl) ?_; intro w9 hk9 hg9 hs9; have K8 := Lib.hid hk9; have B9 := Lib.hid (print_world B8.out B8.out.size hg9); have E9 := Lib.hid (E8.out.below (print_world (Below.refl _ w8) (Nat.le_refl _) hg9)); have K9 := Lib.hid ((K7'.out.alloc _).grown hg9 (fun e => by have := Option.some.inj e; have := K7'.out.lt; omega)); clear hk9 hg9 hs9)
      clear B8 E8 K7'
      rcases HCC2.out with ⟨rfl, rfl⟩ | ⟨rfl, rfl⟩
      · clear HCC2
        with_reducible refine wp_region_lit ?_
        with_reducible refine wpList_yields (v := ?_) (by kernel_rfl) ?_ ?_
        case refine_2 => (go_simp <;> with_reducible rfl)
        try simp only [Act.put, List.setIfInBounds_toArray, List.set_cons_zero, List.set_cons_succ]
        with_reducible refine wpList_yields (v := ?_) (by kernel_rfl) ?_ ?_
        case refine_2 => (go_simp <;> with_reducible rfl)
        try simp only [Act.put, List.setIfInBounds_toArray, List.set_cons_zero, List.set_cons_succ]
        with_reducible refine wpList_yields (v := ?_) (by kernel_rfl) ?_ ?_
        case refine_2 => (go_simp <;> with_reducible rfl)
        try simp only [Act.put, List.setIfInBounds_toArray, List.set_cons_zero, List.set_cons_succ]
        with_reducible refine wpList_yields (v := ?_) (by kernel_rfl) ?_ ?_
        case refine_2 => (go_simp <;> with_reducible rfl)
        try simp only [Act.put, List.setIfInBounds_toArray, List.set_cons_zero, List.set_cons_succ]
        with_reducible refine wpList_yields (v := ?_) (by kernel_rfl) ?_ ?_
        case refine_2 => (go_simp <;> with_reducible rfl)
        try simp only [Act.put, List.setIfInBounds_toArray, List.set_cons_zero, List.set_cons_succ]
        with_reducible refine wpList_load_blk 32 (.tmp 7) w6.heap.size 32 (enC v2 l2 p2) _ K9.out (by kernel_rfl) (by kernel_rfl) Tryd.underlying32 (by kernel_rfl) HSE.out (by kernel_rfl) ?_
        try simp only [Act.put, List.setIfInBounds_toArray, List.set_cons_zero, List.set_cons_succ]
        with_reducible refine wpList_load_blk 32 (.tmp 8) w8.heap.size 32 (enC v2 l2 p2) _ K8.out (by kernel_rfl) (by kernel_rfl) Tryd.underlying32 (by kernel_rfl) HSE.out (by kernel_rfl) ?_
        try simp only [Act.put, List.setIfInBounds_toArray, List.set_cons_zero, List.set_cons_succ]
        with_reducible refine wpList_yields (v := ?_) (by kernel_rfl) ?_ ?_
        case refine_2 => (go_simp <;> with_reducible rfl)
        try simp only [Act.put, List.setIfInBounds_toArray, List.set_cons_zero, List.set_cons_succ]
        with_reducible refine wpList_yields (v := ?_) (by kernel_rfl) ?_ ?_
        case refine_2 => (go_simp <;> with_reducible rfl)
        try simp only [Act.put, List.setIfInBounds_toArray, List.set_cons_zero, List.set_cons_succ]
        with_reducible refine wpList_yields (v := ?_) (by kernel_rfl) ?_ ?_
        case refine_2 => (go_simp <;> with_reducible rfl)
        try simp only [Act.put, List.setIfInBounds_toArray, List.set_cons_zero, List.set_cons_succ]
        with_reducible refine wpList_yields (v := ?_) (by kernel_rfl) ?_ ?_
        case refine_2 => (go_simp <;> with_reducible rfl)
        try simp only [Act.put, List.setIfInBounds_toArray, List.set_cons_zero, List.set_cons_succ]
        with_reducible refine wpList_yields (v := ?_) (by kernel_rfl) ?_ ?_
        case refine_2 => (go_simp <;> with_reducible rfl)
        try simp only [Act.put, List.setIfInBounds_toArray, List.set_cons_zero, List.set_cons_succ]
        with_reducible refine wpList_skip (by kernel_rfl) ?_
        try simp only [Act.put, List.setIfInBounds_toArray, List.set_cons_zero, List.set_cons_succ]
        with_reducible refine wpList_skip (by kernel_rfl) ?_
        try simp only [Act.put, List.setIfInBounds_toArray, List.set_cons_zero, List.set_cons_succ]
        with_reducible refine wpList_yields (v := ?_) (by kernel_rfl) ?_ ?_
        case refine_2 => (go_simp <;> with_reducible rfl)
        try simp only [Act.put, List.setIfInBounds_toArray, List.set_cons_zero, List.set_cons_succ]
        with_reducible refine wpList_yields (v := ?_) (by kernel_rfl) ?_ ?_
        case refine_2 => (go_simp <;> with_reducible rfl)
        try simp only [Act.put, List.setIfInBounds_toArray, List.set_cons_zero, List.set_cons_succ]
        with_reducible refine wpList_yields (v := ?_) (by kernel_rfl) ?_ ?_
        case refine_2 => (go_simp <;> with_reducible rfl)
        try simp only [Act.put, List.setIfInBounds_toArray, List.set_cons_zero, List.set_cons_succ]
        with_reducible refine wpList_nil ?_
        go_wp2_with fail
        go_ret
        exact ⟨rfl, B9.out⟩
      · clear HCC2
        with_reducible refine wp_region_lit ?_
        with_reducible refine wpList_yields (v := ?_) (by kernel_rfl) ?_ ?_
        case refine_2 => (go_simp <;> with_reducible rfl)
        try simp only [Act.put, List.setIfInBounds_toArray, List.set_cons_zero, List.set_cons_succ]
        with_reducible refine wpList_yields (v := ?_) (by kernel_rfl) ?_ ?_
        case refine_2 => (go_simp <;> with_reducible rfl)
        try simp only [Act.put, List.setIfInBounds_toArray, List.set_cons_zero, List.set_cons_succ]
        with_reducible refine wpList_yields (v := ?_) (by kernel_rfl) ?_ ?_
        case refine_2 => (go_simp <;> with_reducible rfl)
        try simp only [Act.put, List.setIfInBounds_toArray, List.set_cons_zero, List.set_cons_succ]
        with_reducible refine wpList_yields (v := ?_) (by kernel_rfl) ?_ ?_
        case refine_2 => (go_simp <;> with_reducible rfl)
        try simp only [Act.put, List.setIfInBounds_toArray, List.set_cons_zero, List.set_cons_succ]
        with_reducible refine wpList_yields (v := ?_) (by kernel_rfl) ?_ ?_
        case refine_2 => (go_simp <;> with_reducible rfl)
        try simp only [Act.put, List.setIfInBounds_toArray, List.set_cons_zero, List.set_cons_succ]
        with_reducible refine wpList_load_blk 32 (.tmp 7) w6.heap.size 32 (enC v2 l2 p2) _ K9.out (by kernel_rfl) (by kernel_rfl) Tryd.underlying32 (by kernel_rfl) HSE.out (by kernel_rfl) ?_
        try simp only [Act.put, List.setIfInBounds_toArray, List.set_cons_zero, List.set_cons_succ]
        with_reducible refine wpList_load_blk 32 (.tmp 8) w8.heap.size 32 (enC v2 l2 p2) _ K8.out (by kernel_rfl) (by kernel_rfl) Tryd.underlying32 (by kernel_rfl) HSE.out (by kernel_rfl) ?_
        try simp only [Act.put, List.setIfInBounds_toArray, List.set_cons_zero, List.set_cons_succ]
        with_reducible refine wpList_yields (v := ?_) (by kernel_rfl) ?_ ?_
        case refine_2 => (go_simp <;> with_reducible rfl)
        try simp only [Act.put, List.setIfInBounds_toArray, List.set_cons_zero, List.set_cons_succ]
        with_reducible refine wpList_yields (v := ?_) (by kernel_rfl) ?_ ?_
        case refine_2 => (go_simp <;> with_reducible rfl)
        try simp only [Act.put, List.setIfInBounds_toArray, List.set_cons_zero, List.set_cons_succ]
        with_reducible refine wpList_yields (v := ?_) (by kernel_rfl) ?_ ?_
        case refine_2 => (go_simp <;> with_reducible rfl)
        try simp only [Act.put, List.setIfInBounds_toArray, List.set_cons_zero, List.set_cons_succ]
        with_reducible refine wpList_yields (v := ?_) (by kernel_rfl) ?_ ?_
        case refine_2 => (go_simp <;> with_reducible rfl)
        try simp only [Act.put, List.setIfInBounds_toArray, List.set_cons_zero, List.set_cons_succ]
        with_reducible refine wpList_yields (v := ?_) (by kernel_rfl) ?_ ?_
        case refine_2 => (go_simp <;> with_reducible rfl)
        try simp only [Act.put, List.setIfInBounds_toArray, List.set_cons_zero, List.set_cons_succ]
        with_reducible refine wpList_yields (v := ?_) (by kernel_rfl) ?_ ?_
        case refine_2 => (go_simp <;> with_reducible rfl)
        try simp only [Act.put, List.setIfInBounds_toArray, List.set_cons_zero, List.set_cons_succ]
        with_reducible refine wpList_yields (v := ?_) (by kernel_rfl) ?_ ?_
        case refine_2 => (go_simp <;> with_reducible rfl)
        try simp only [Act.put, List.setIfInBounds_toArray, List.set_cons_zero, List.set_cons_succ]
        with_reducible refine wpList_yields (v := ?_) (by kernel_rfl) ?_ ?_
        case refine_2 => (go_simp <;> with_reducible rfl)
        try simp only [Act.put, List.setIfInBounds_toArray, List.set_cons_zero, List.set_cons_succ]
        with_reducible refine wpList_yields (v := ?_) (by kernel_rfl) ?_ ?_
        case refine_2 => (go_simp <;> with_reducible rfl)
        try simp only [Act.put, List.setIfInBounds_toArray, List.set_cons_zero, List.set_cons_succ]
        with_reducible refine wpList_yields (v := ?_) (by kernel_rfl) ?_ ?_
        case refine_2 => (go_simp <;> with_reducible rfl)
        try simp only [Act.put, List.setIfInBounds_toArray, List.set_cons_zero, List.set_cons_succ]
        with_reducible refine wpList_nil ?_
        go_wp2_with fail
        go_ret
        exact ⟨rfl, B9.out⟩
end Go.Proofs.YtgdnckglfhabnaaDoor
