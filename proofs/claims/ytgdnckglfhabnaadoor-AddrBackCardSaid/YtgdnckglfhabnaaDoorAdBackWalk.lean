/- The walk of horologelaw05.AddrBack. -/
import Derived.Test.YtgdnckglfhabnaaDoorAdKnown
import Derived.Test.YtgdnckglfhabnaaDoorAdEqE
import Derived.Test.YtgdnckglfhabnaaDoorAdUpper
import Derived.Test.YtgdnckglfhabnaaDoorRfPEndsL
namespace Go.Proofs.YtgdnckglfhabnaaDoor
open Go.RowKit Go.Shelf

theorem enc_len (r : Int) : (Lib.encodeRune r).length ≤ 4 := by
  unfold Lib.encodeRune Lib.encodeRuneZ
  repeat' split
  all_goals simp
theorem mapD_len (f : Int → Int) : ∀ (n : Nat) (l : List UInt8), l.length ≤ n → (Lib.mapD f l).length ≤ 4 * l.length
  | _, [], _ => by simp [Lib.mapD, Lib.mapGoD]
  | 0, _ :: _, h => by simp at h
  | n + 1, b :: t, h => by
    rw [Lib.mapD_step f (b :: t) (by simp), List.length_append]
    have hw := Lib.decodeL_width (b :: t)
    have hd : ((b :: t).drop (Lib.decodeL (b :: t)).2).length = (b :: t).length - (Lib.decodeL (b :: t)).2 := List.length_drop
    have hle := Lib.decodeL_le (b :: t) (by simp)
    have ih := mapD_len f n ((b :: t).drop (Lib.decodeL (b :: t)).2) (by rw [hd]; omega)
    have he : (if 0 ≤ f (Lib.decodeL (b :: t)).1 then Lib.encodeRune (f (Lib.decodeL (b :: t)).1) else []).length ≤ 4 := by
      split
      · exact enc_len _
      · simp
    omega
theorem mkB_size (l : List UInt8) : (mkB l).size = l.length := by
  rw [Lib.size_eq]
  rfl
theorem parse_back (v : Bool) (m : List UInt8) (hm : m.length = 16) (hy : mayB v m = true) (W : World) (e : Env W) :
    Calls Tryd.prog 15 #[.string ⟨(printT v m).toArray⟩] W fun e w' => e = .returned (.tuple #[.agg (adC v m), .int .i64 0]) ∧ Below W.heap.size W w' := by
  have hb := printT_len v m hm
  have h := parse_any (mkB (printT v m)) (by rw [mkB_size]; omega) W e
  rw [show parseV (mkB (printT v m)).data.toList = .tuple #[.agg (adC v m), .int .i64 0] by
    show parseV (printT v m) = _
    rw [parseV, parse_print v m hm hy]] at h
  exact h
theorem print_back (v : Bool) (m : List UInt8) (hm : m.length = 16) (hy : mayB v m = true) (W : World) (e : Env W) :
    Calls Tryd.prog 8 #[.agg (adC v m)] W fun e w' => e = .returned (.tuple #[.string ⟨(printT v m).toArray⟩, .int .i64 0]) ∧ Below W.heap.size W w' := by
  have h := print_any v m hm W e
  rw [printV, if_pos hy] at h
  exact h
theorem print_nay (v : Bool) (m : List UInt8) (hm : m.length = 16) (hy : mayB v m = false) (W : World) (e : Env W) :
    Calls Tryd.prog 8 #[.agg (adC v m)] W fun e w' => e = .returned (.tuple #[.string ⟨#[]⟩, .int .i64 2]) ∧ Below W.heap.size W w' := by
  have h := print_any v m hm W e
  rw [printV, if_neg (by rw [hy]; decide)] at h
  exact h
theorem ends_back (v : Bool) (m : List UInt8) (p : Nat) (hm : m.length = 16) (hy : mayB v m = true) (hp : p < 65536) (W : World) (e : Env W) :
    Calls Tryd.prog 9 #[.agg (enC v m p)] W fun e w' => e = .returned (.tuple #[.string ⟨(endsT v m p).toArray⟩, .int .i64 0]) ∧ Below W.heap.size W w' := by
  have h := ends_any v m p hm hp W e
  rw [endsV, if_pos hy] at h
  exact h
theorem endsT_len (v : Bool) (m : List UInt8) (p : Nat) (hm : m.length = 16) (hp : p < 65536) : (endsT v m p).length ≤ 100 := by
  have h1 := printT_len v m hm
  have h2 := dec_len16 p hp
  unfold endsT
  split <;> simp <;> omega
theorem pends_back (v : Bool) (m : List UInt8) (p : Nat) (hm : m.length = 16) (hy : mayB v m = true) (hp : p < 65536) (W : World) (e : Env W) :
    Calls Tryd.prog 17 #[.string ⟨(endsT v m p).toArray⟩] W fun e w' => e = .returned (.tuple #[.agg (enC v m p), .int .i64 0]) ∧ Below W.heap.size W w' := by
  have hb := endsT_len v m p hm hp
  have h := parseEnds_any (mkB (endsT v m p)) (by rw [mkB_size]; omega) W e
  rw [peV, pe_ends v m p hm hy hp] at h
  exact h
theorem parse_great (s : ByteArray) (hs : s.size ≤ 200) (W : World) (e : Env W) :
    Calls Tryd.prog 15 #[.string (mkB (Lib.toUpperD s.data.toList))] W fun e w' => e = .returned (parseV s.data.toList) ∧ Below W.heap.size W w' := by
  have hb := mapD_len Lib.toUpperU _ s.data.toList (Nat.le_refl _)
  have h0 : s.data.toList.length = s.size := rfl
  have h := parse_any (mkB (Lib.toUpperD s.data.toList)) (by rw [mkB_size]; unfold Lib.toUpperD; omega) W e
  rw [show parseV (mkB (Lib.toUpperD s.data.toList)).data.toList = parseV s.data.toList by
    show parseV (Lib.toUpperD s.data.toList) = _
    rw [parseV, parse_upper]
    rfl] at h
  exact h
theorem parse_ways (x : List UInt8) : ∃ v m er, m.length = 16 ∧ parseV x = .tuple #[.agg (adC v m), .int .i64 er] ∧ ((er = 0 ∧ mayB v m = true) ∨ er = 9) := by
  unfold parseV
  cases h : parseA x with
  | none => exact ⟨false, z16, 9, rfl, rfl, .inr rfl⟩
  | some y =>
    obtain ⟨v, m⟩ := y
    exact ⟨v, m, 0, (parseA_len h).1, rfl, .inl ⟨rfl, (parseA_len h).2⟩⟩
theorem wpList_yields {P : Program} {ops : Array Oper} {Q : Exit → Act → World → Prop} {a : Act} {w : World} {rest : List Oper} {o : Oper} {v : Value}
    (hw : Region.wanted o (yielded ops a.tmps) = true) (hv : (execOp a.eval o).run P w = .ok (.value v) w) (h : wpList P ops Q rest (a.put o.dst v) w) : wpList P ops Q (o :: rest) a w :=
  BigFrame.wpList_want hw fun _ hK => by
    unfold Oper.wp
    simp only [hv, Oper.upon]
    exact hK _ _ h
theorem wpList_build_none {P : Program} {ops : Array Oper} {rest : List Oper} {o : Oper} {a : Act} {w : World} {Q : Exit → Act → World → Prop} (t : TypeId) (cells : Array Value) (ho : o.op = .build t #[])
    (hc : P.built t [] = some cells) (hw : Region.wanted o (yielded ops a.tmps) = true) (h : wpList P ops Q rest (a.put o.dst (.agg cells)) w) : wpList P ops Q (o :: rest) a w :=
  wpList_build_eq t #[] cells ho hc hw h

set_option maxRecDepth 100000 in
set_option maxHeartbeats 16000000 in
theorem back_no (u : Bool) (l : List UInt8) (p : Nat) (s : ByteArray) (hl : l.length = 16) (_hp : p < 65536) (hy0 : mayB u l = false) (w : World) (env : EnvB w) :
    Calls Tryd.prog 6 #[.agg (adC u l), .int .u16 p, .string s] w fun e w' => e = .returned (.bool true) ∧ Below w.heap.size w w' := by
  have Bw0 := Lib.hid ((Below.refl _ w).alloc (Nat.le_refl _) (.cells (adC u l) 24))
  have Ew0 := Lib.hid (env.below Bw0.out)
  have K0 := Lib.hid (Blk.new w 24 (adC u l))
  clear env
  have HL := Lib.hid (show (Tryd.prog.info? 24).map (·.size) = some (adC u l).size by rw [adC_size _ _ hl]; exact adSize)
  have HKN := Lib.hid (fun W (e : Env W) => known_any W e)
  have HPA := Lib.hid (fun W (e : Env W) => print_nay u l hl hy0 W e)
  clear hl hy0 _hp
  go_enter Tryd.func6, Tryd.ntmps6
  go_wp2_with fail
  refine (HKN.out _ Ew0.out.env).mono ?_
  rintro e w1 ⟨rfl, b⟩
  have Bw1 := Lib.hid (Bw0.out.trans (b.mono Bw0.out.size))
  have Ew1 := Lib.hid (Ew0.out.below b)
  have K1 := Lib.hid (K0.out.keep b)
  clear b Bw0 Ew0 HKN K0 
  by_cases h200 : 200 < s.size
  · have h1 : (200 : Int) < (s.size : Int) := by omega
    go_wp2_with fail
    go_ret
    exact ⟨rfl, Bw1.out⟩
  · have h1 : ¬ (200 : Int) < (s.size : Int) := by omega
    obtain ⟨v, m, er, hm, hpv, HC⟩ := parse_ways s.data.toList
    have HCC := Lib.hid HC
    have HP1 := Lib.hid (fun W (e : Env W) => parse_any s (by omega) W e)
    have HP2 := Lib.hid (fun W (e : Env W) => parse_great s (by omega) W e)
    have HUP := Lib.hid (fun W (e : EnvB W) => upper_any s (by omega) W e)
    rw [hpv] at HP1 HP2
    generalize mkB (Lib.toUpperD s.data.toList) = sup at *
    clear hpv HC h200
    have HSA := Lib.hid (show (Tryd.prog.info? 24).map (·.size) = some (adC v m).size by rw [adC_size _ _ hm]; exact adSize)
    have HSZ := Lib.hid (show (adC false z16).size = (adC v m).size by rw [adC_size _ _ hm]; rfl)
    have HS1 := Lib.hid (adC_one v m)
    have hz3 : ∀ W : World, (Op.equalIn 10000 24 (.agg (adC v m)) (.agg (adC v m))).run Tryd.prog W = .ok true W := fun W => (eq_addr v v m m hm hm W).trans (by simp)
    go_wp2_with (refine wpList_load_blk 24 (.tmp 3) w.heap.size 24 (adC u l) _ K1.out (by rfl) (by rfl) Tryd.underlying24 rfl HL.out (by rfl) ?_)
    refine (HPA.out _ Ew1.out.env).mono ?_
    rintro e w2 ⟨rfl, b⟩
    have Bw2 := Lib.hid (Bw1.out.trans (b.mono Bw1.out.size))
    have Ew2 := Lib.hid (Ew1.out.below b)
    clear b Bw1 Ew1 HPA  K1
    go_upto_region 13 with fail
    go_wp2_with fail
    refine (HP1.out _ Ew2.out.env).mono ?_
    rintro e w10 ⟨rfl, b⟩
    have Bw10 := Lib.hid (Bw2.out.trans (b.mono Bw2.out.size))
    have Ew10 := Lib.hid (Ew2.out.below b)
    clear b Bw2 Ew2 HP1  
    go_upto_region 14 with ((with_reducible refine at_store 24 (.tmp 16) (.tmp 79) ?_); refine wpList_store_blk 24 (.tmp 16) (.tmp 79) w10.heap.size 24 (adC false z16) (adC v m) (Blk.new w10 24 (adC false z16)) (by rfl) (by rfl) (by rfl) (by rfl) HSA.out HSZ.out HS1.out (by rfl) ?_; intro w11 hk hg hs; have K16 := Lib.hid hk; have Bw11 := Lib.hid (print_world Bw10.out Bw10.out.size hg); have Ew11 := Lib.hid (Ew10.out.below (print_world (Below.refl _ w10) (Nat.le_refl _) hg)); clear hk hg hs)
    clear Bw10 Ew10
    go_wp2_with fail
    refine (HUP.out _ Ew11.out).mono ?_
    rintro e w12 ⟨rfl, b⟩
    have Bw12 := Lib.hid (Bw11.out.trans (b.mono Bw11.out.size))
    have Ew12 := Lib.hid (Ew11.out.below b)
    have K16b := Lib.hid (K16.out.keep b)
    clear b Bw11 Ew11 HUP K16 
    go_wp2_with fail
    refine (HP2.out _ Ew12.out.env).mono ?_
    rintro e w13 ⟨rfl, b⟩
    have Bw13 := Lib.hid (Bw12.out.trans (b.mono Bw12.out.size))
    have Ew13 := Lib.hid (Ew12.out.below b)
    have K16c := Lib.hid (K16b.out.keep b)
    clear b Bw12 Ew12 HP2 K16b 
    go_upto_region 15 with ((with_reducible refine at_store 24 (.tmp 18) (.tmp 85) ?_); refine wpList_store_blk 24 (.tmp 18) (.tmp 85) w13.heap.size 24 (adC false z16) (adC v m) (Blk.new w13 24 (adC false z16)) (by rfl) (by rfl) (by rfl) (by rfl) HSA.out HSZ.out HS1.out (by rfl) ?_; intro w14 hk hg hs; have K18 := Lib.hid hk; have Bw14 := Lib.hid (print_world Bw13.out Bw13.out.size hg); have Ew14 := Lib.hid (Ew13.out.below (print_world (Below.refl _ w13) (Nat.le_refl _) hg)); have K16d := Lib.hid ((K16c.out.alloc _).grown hg (fun e => by have := Option.some.inj e; have := K16c.out.lt; omega)); clear hk hg hs)
    clear Bw13 Ew13 K16c
    rcases HCC.out with ⟨rfl, hy⟩ | rfl
    · with_reducible refine wp_region_lit ?_
      with_reducible refine wpList_yields (v := ?_) (by kernel_rfl) ?_ ?_
      case refine_2 => (go_simp <;> with_reducible rfl)
      try simp only [Act.put, List.setIfInBounds_toArray, List.set_cons_zero, List.set_cons_succ]
      with_reducible refine wpList_yields (v := ?_) (by kernel_rfl) ?_ ?_
      case refine_2 => (go_simp <;> with_reducible rfl)
      try simp only [Act.put, List.setIfInBounds_toArray, List.set_cons_zero, List.set_cons_succ]
      with_reducible refine wpList_yields (v := ?_) (by kernel_rfl) ?_ ?_
      case refine_2 => (go_simp <;> with_reducible rfl)
      try simp only [Act.put, List.setIfInBounds_toArray, List.set_cons_zero, List.set_cons_succ]
      with_reducible refine wpList_yields (v := ?_) (by kernel_rfl) ?_ ?_
      case refine_2 => (go_simp <;> with_reducible rfl)
      try simp only [Act.put, List.setIfInBounds_toArray, List.set_cons_zero, List.set_cons_succ]
      with_reducible refine wpList_load_blk 24 (.tmp 16) w10.heap.size 24 (adC v m) _ K16d.out (by kernel_rfl) (by kernel_rfl) Tryd.underlying24 (by kernel_rfl) HSA.out (by kernel_rfl) ?_
      try simp only [Act.put, List.setIfInBounds_toArray, List.set_cons_zero, List.set_cons_succ]
      with_reducible refine wpList_load_blk 24 (.tmp 18) w13.heap.size 24 (adC v m) _ K18.out (by kernel_rfl) (by kernel_rfl) Tryd.underlying24 (by kernel_rfl) HSA.out (by kernel_rfl) ?_
      try simp only [Act.put, List.setIfInBounds_toArray, List.set_cons_zero, List.set_cons_succ]
      with_reducible refine wpList_yields (v := ?_) (by kernel_rfl) ?_ ?_
      case refine_2 => (go_simp <;> with_reducible rfl)
      try simp only [Act.put, List.setIfInBounds_toArray, List.set_cons_zero, List.set_cons_succ]
      with_reducible refine wpList_yields (v := ?_) (by kernel_rfl) ?_ ?_
      case refine_2 => (go_simp <;> with_reducible rfl)
      try simp only [Act.put, List.setIfInBounds_toArray, List.set_cons_zero, List.set_cons_succ]
      with_reducible refine wpList_nil ?_
      clear K18 HCC
      have HPR := Lib.hid (fun W (e : Env W) => print_back v m hm hy W e)
      have HPR2 := Lib.hid (fun W (e : Env W) => print_back v m hm hy W e)
      have HPB := Lib.hid (fun W (e : Env W) => parse_back v m hm hy W e)
      clear hy hm
      go_wp2_with (refine wpList_load_blk 24 (.tmp 16) w10.heap.size 24 (adC v m) _ K16d.out (by rfl) (by rfl) Tryd.underlying24 rfl HSA.out (by rfl) ?_)
      refine (HPR.out _ Ew14.out.env).mono ?_
      rintro e w15 ⟨rfl, b⟩
      have Bw15 := Lib.hid (Bw14.out.trans (b.mono Bw14.out.size))
      have Ew15 := Lib.hid (Ew14.out.below b)
      have K16e := Lib.hid (K16d.out.keep b)
      clear b Bw14 Ew14 HPR K16d 
      go_wp2_with fail
      refine (HPB.out _ Ew15.out.env).mono ?_
      rintro e w16 ⟨rfl, b⟩
      have Bw16 := Lib.hid (Bw15.out.trans (b.mono Bw15.out.size))
      have Ew16 := Lib.hid (Ew15.out.below b)
      have K16f := Lib.hid (K16e.out.keep b)
      clear b Bw15 Ew15 HPB K16e 
      go_upto_region 21 with ((with_reducible refine at_store 24 (.tmp 22) (.tmp 105) ?_); refine wpList_store_blk 24 (.tmp 22) (.tmp 105) w16.heap.size 24 (adC false z16) (adC v m) (Blk.new w16 24 (adC false z16)) (by rfl) (by rfl) (by rfl) (by rfl) HSA.out HSZ.out HS1.out (by rfl) ?_; intro w17 hk hg hs; have K22 := Lib.hid hk; have Bw17 := Lib.hid (print_world Bw16.out Bw16.out.size hg); have Ew17 := Lib.hid (Ew16.out.below (print_world (Below.refl _ w16) (Nat.le_refl _) hg)); have K16g := Lib.hid ((K16f.out.alloc _).grown hg (fun e => by have := Option.some.inj e; have := K16f.out.lt; omega)); clear hk hg hs)
      clear Bw16 Ew16 K16f
      go_wp2_with (refine wpList_load_blk 24 (.tmp 22) w16.heap.size 24 (adC v m) _ K22.out (by rfl) (by rfl) Tryd.underlying24 rfl HSA.out (by rfl) ?_)
      refine (HPR2.out _ Ew17.out.env).mono ?_
      rintro e w18 ⟨rfl, b⟩
      have Bw18 := Lib.hid (Bw17.out.trans (b.mono Bw17.out.size))
      have Ew18 := Lib.hid (Ew17.out.below b)
      have K16h := Lib.hid (K16g.out.keep b)
      have K22b := Lib.hid (K22.out.keep b)
      clear b Bw17 Ew17 HPR2 K16g K22 
      go_upto_region 22 with fail
      with_reducible refine wp_region_lit ?_
      with_reducible refine wpList_yields (v := ?_) (by kernel_rfl) ?_ ?_
      case refine_2 => (go_simp <;> with_reducible rfl)
      try simp only [Act.put, List.setIfInBounds_toArray, List.set_cons_zero, List.set_cons_succ]
      with_reducible refine wpList_yields (v := ?_) (by kernel_rfl) ?_ ?_
      case refine_2 => (go_simp <;> with_reducible rfl)
      try simp only [Act.put, List.setIfInBounds_toArray, List.set_cons_zero, List.set_cons_succ]
      with_reducible refine wpList_yields (v := ?_) (by kernel_rfl) ?_ ?_
      case refine_2 => (go_simp <;> with_reducible rfl)
      try simp only [Act.put, List.setIfInBounds_toArray, List.set_cons_zero, List.set_cons_succ]
      with_reducible refine wpList_yields (v := ?_) (by kernel_rfl) ?_ ?_
      case refine_2 => (go_simp <;> with_reducible rfl)
      try simp only [Act.put, List.setIfInBounds_toArray, List.set_cons_zero, List.set_cons_succ]
      with_reducible refine wpList_yields (v := ?_) (by kernel_rfl) ?_ ?_
      case refine_2 => (go_simp <;> with_reducible rfl)
      try simp only [Act.put, List.setIfInBounds_toArray, List.set_cons_zero, List.set_cons_succ]
      with_reducible refine wpList_yields (v := ?_) (by kernel_rfl) ?_ ?_
      case refine_2 => (go_simp <;> with_reducible rfl)
      try simp only [Act.put, List.setIfInBounds_toArray, List.set_cons_zero, List.set_cons_succ]
      with_reducible refine wpList_yields (v := ?_) (by kernel_rfl) ?_ ?_
      case refine_2 => (go_simp <;> with_reducible rfl)
      try simp only [Act.put, List.setIfInBounds_toArray, List.set_cons_zero, List.set_cons_succ]
      with_reducible refine wpList_load_blk 24 (.tmp 22) w16.heap.size 24 (adC v m) _ K22b.out (by kernel_rfl) (by kernel_rfl) Tryd.underlying24 (by kernel_rfl) HSA.out (by kernel_rfl) ?_
      try simp only [Act.put, List.setIfInBounds_toArray, List.set_cons_zero, List.set_cons_succ]
      with_reducible refine wpList_load_blk 24 (.tmp 16) w10.heap.size 24 (adC v m) _ K16h.out (by kernel_rfl) (by kernel_rfl) Tryd.underlying24 (by kernel_rfl) HSA.out (by kernel_rfl) ?_
      try simp only [Act.put, List.setIfInBounds_toArray, List.set_cons_zero, List.set_cons_succ]
      with_reducible refine wpList_yields (v := ?_) (by kernel_rfl) ?_ ?_
      case refine_2 => (go_simp <;> with_reducible rfl)
      try simp only [Act.put, List.setIfInBounds_toArray, List.set_cons_zero, List.set_cons_succ]
      with_reducible refine wpList_yields (v := ?_) (by kernel_rfl) ?_ ?_
      case refine_2 => (go_simp <;> with_reducible rfl)
      try simp only [Act.put, List.setIfInBounds_toArray, List.set_cons_zero, List.set_cons_succ]
      with_reducible refine wpList_yields (v := ?_) (by kernel_rfl) ?_ ?_
      case refine_2 => (go_simp <;> with_reducible rfl)
      try simp only [Act.put, List.setIfInBounds_toArray, List.set_cons_zero, List.set_cons_succ]
      with_reducible refine wpList_yields (v := ?_) (by kernel_rfl) ?_ ?_
      case refine_2 => (go_simp <;> with_reducible rfl)
      try simp only [Act.put, List.setIfInBounds_toArray, List.set_cons_zero, List.set_cons_succ]
      with_reducible refine wpList_yields (v := ?_) (by kernel_rfl) ?_ ?_
      case refine_2 => (go_simp <;> with_reducible rfl)
      try simp only [Act.put, List.setIfInBounds_toArray, List.set_cons_zero, List.set_cons_succ]
      with_reducible refine wpList_yields (v := ?_) (by kernel_rfl) ?_ ?_
      case refine_2 => (go_simp <;> with_reducible rfl)
      try simp only [Act.put, List.setIfInBounds_toArray, List.set_cons_zero, List.set_cons_succ]
      with_reducible refine wpList_yields (v := ?_) (by kernel_rfl) ?_ ?_
      case refine_2 => (go_simp <;> with_reducible rfl)
      try simp only [Act.put, List.setIfInBounds_toArray, List.set_cons_zero, List.set_cons_succ]
      with_reducible refine wpList_yields (v := ?_) (by kernel_rfl) ?_ ?_
      case refine_2 => (go_simp <;> with_reducible rfl)
      try simp only [Act.put, List.setIfInBounds_toArray, List.set_cons_zero, List.set_cons_succ]
      with_reducible refine wpList_nil ?_
      go_wp2_with fail
      go_ret
      exact ⟨rfl, Bw18.out⟩
    · with_reducible refine wp_region_lit ?_
      with_reducible refine wpList_yields (v := ?_) (by kernel_rfl) ?_ ?_
      case refine_2 => (go_simp <;> with_reducible rfl)
      try simp only [Act.put, List.setIfInBounds_toArray, List.set_cons_zero, List.set_cons_succ]
      with_reducible refine wpList_yields (v := ?_) (by kernel_rfl) ?_ ?_
      case refine_2 => (go_simp <;> with_reducible rfl)
      try simp only [Act.put, List.setIfInBounds_toArray, List.set_cons_zero, List.set_cons_succ]
      with_reducible refine wpList_yields (v := ?_) (by kernel_rfl) ?_ ?_
      case refine_2 => (go_simp <;> with_reducible rfl)
      try simp only [Act.put, List.setIfInBounds_toArray, List.set_cons_zero, List.set_cons_succ]
      with_reducible refine wpList_yields (v := ?_) (by kernel_rfl) ?_ ?_
      case refine_2 => (go_simp <;> with_reducible rfl)
      try simp only [Act.put, List.setIfInBounds_toArray, List.set_cons_zero, List.set_cons_succ]
      with_reducible refine wpList_load_blk 24 (.tmp 16) w10.heap.size 24 (adC v m) _ K16d.out (by kernel_rfl) (by kernel_rfl) Tryd.underlying24 (by kernel_rfl) HSA.out (by kernel_rfl) ?_
      try simp only [Act.put, List.setIfInBounds_toArray, List.set_cons_zero, List.set_cons_succ]
      with_reducible refine wpList_load_blk 24 (.tmp 18) w13.heap.size 24 (adC v m) _ K18.out (by kernel_rfl) (by kernel_rfl) Tryd.underlying24 (by kernel_rfl) HSA.out (by kernel_rfl) ?_
      try simp only [Act.put, List.setIfInBounds_toArray, List.set_cons_zero, List.set_cons_succ]
      with_reducible refine wpList_yields (v := ?_) (by kernel_rfl) ?_ ?_
      case refine_2 => (go_simp <;> with_reducible rfl)
      try simp only [Act.put, List.setIfInBounds_toArray, List.set_cons_zero, List.set_cons_succ]
      with_reducible refine wpList_yields (v := ?_) (by kernel_rfl) ?_ ?_
      case refine_2 => (go_simp <;> with_reducible rfl)
      try simp only [Act.put, List.setIfInBounds_toArray, List.set_cons_zero, List.set_cons_succ]
      with_reducible refine wpList_nil ?_
      go_wp2_with fail
      go_ret
      exact ⟨rfl, Bw14.out⟩

set_option maxRecDepth 100000 in
set_option maxHeartbeats 16000000 in
theorem back_yes (u : Bool) (l : List UInt8) (p : Nat) (s : ByteArray) (hl : l.length = 16) (hp : p < 65536) (hy0 : mayB u l = true) (w : World) (env : EnvB w) :
    Calls Tryd.prog 6 #[.agg (adC u l), .int .u16 p, .string s] w fun e w' => e = .returned (.bool true) ∧ Below w.heap.size w w' := by
  have Bw0 := Lib.hid ((Below.refl _ w).alloc (Nat.le_refl _) (.cells (adC u l) 24))
  have Ew0 := Lib.hid (env.below Bw0.out)
  have K0 := Lib.hid (Blk.new w 24 (adC u l))
  clear env
  have HL := Lib.hid (show (Tryd.prog.info? 24).map (·.size) = some (adC u l).size by rw [adC_size _ _ hl]; exact adSize)
  have HKN := Lib.hid (fun W (e : Env W) => known_any W e)
  have HPA := Lib.hid (fun W (e : Env W) => print_back u l hl hy0 W e)
  have HPP := Lib.hid (fun W (e : Env W) => parse_back u l hl hy0 W e)
  have HEN := Lib.hid (fun W (e : Env W) => ends_back u l p hl hy0 hp W e)
  have HPE := Lib.hid (fun W (e : Env W) => pends_back u l p hl hy0 hp W e)
  have HLZ := Lib.hid (show (adC false z16).size = (adC u l).size by rw [adC_size _ _ hl]; rfl)
  have HL1 := Lib.hid (adC_one u l)
  have HBU := Lib.hid (built_en u l p hl)
  have HSE := Lib.hid (show (Tryd.prog.info? 32).map (·.size) = some (enC u l p).size by rw [enC_size _ _ _ hl]; exact enSize)
  have HSF := Lib.hid (show (enC false z16 0).size = (enC u l p).size by rw [enC_size _ _ _ hl]; rfl)
  have HS2 := Lib.hid (enC_one u l p)
  have hz1 : ∀ W : World, (Op.equalIn 10000 24 (.agg (adC u l)) (.agg (adC u l))).run Tryd.prog W = .ok true W := fun W => (eq_addr u u l l hl hl W).trans (by simp)
  have hz2 : ∀ W : World, (Op.equalIn 10000 32 (.agg (enC u l p)) (.agg (enC u l p))).run Tryd.prog W = .ok true W := fun W => (eq_ends u u l l p p hl hl W).trans (by simp)
  clear hl hy0 hp
  go_enter Tryd.func6, Tryd.ntmps6
  go_wp2_with fail
  refine (HKN.out _ Ew0.out.env).mono ?_
  rintro e w1 ⟨rfl, b⟩
  have Bw1 := Lib.hid (Bw0.out.trans (b.mono Bw0.out.size))
  have Ew1 := Lib.hid (Ew0.out.below b)
  have K1 := Lib.hid (K0.out.keep b)
  clear b Bw0 Ew0 HKN K0 
  by_cases h200 : 200 < s.size
  · have h1 : (200 : Int) < (s.size : Int) := by omega
    go_wp2_with fail
    go_ret
    exact ⟨rfl, Bw1.out⟩
  · have h1 : ¬ (200 : Int) < (s.size : Int) := by omega
    obtain ⟨v, m, er, hm, hpv, HC⟩ := parse_ways s.data.toList
    have HCC := Lib.hid HC
    have HP1 := Lib.hid (fun W (e : Env W) => parse_any s (by omega) W e)
    have HP2 := Lib.hid (fun W (e : Env W) => parse_great s (by omega) W e)
    have HUP := Lib.hid (fun W (e : EnvB W) => upper_any s (by omega) W e)
    rw [hpv] at HP1 HP2
    generalize mkB (Lib.toUpperD s.data.toList) = sup at *
    clear hpv HC h200
    have HSA := Lib.hid (show (Tryd.prog.info? 24).map (·.size) = some (adC v m).size by rw [adC_size _ _ hm]; exact adSize)
    have HSZ := Lib.hid (show (adC false z16).size = (adC v m).size by rw [adC_size _ _ hm]; rfl)
    have HS1 := Lib.hid (adC_one v m)
    have hz3 : ∀ W : World, (Op.equalIn 10000 24 (.agg (adC v m)) (.agg (adC v m))).run Tryd.prog W = .ok true W := fun W => (eq_addr v v m m hm hm W).trans (by simp)
    go_wp2_with (refine wpList_load_blk 24 (.tmp 3) w.heap.size 24 (adC u l) _ K1.out (by rfl) (by rfl) Tryd.underlying24 rfl HL.out (by rfl) ?_)
    refine (HPA.out _ Ew1.out.env).mono ?_
    rintro e w2 ⟨rfl, b⟩
    have Bw2 := Lib.hid (Bw1.out.trans (b.mono Bw1.out.size))
    have Ew2 := Lib.hid (Ew1.out.below b)
    have K2 := Lib.hid (K1.out.keep b)
    clear b Bw1 Ew1 HPA K1 
    go_wp2_with fail
    refine (HPP.out _ Ew2.out.env).mono ?_
    rintro e w3 ⟨rfl, b⟩
    have Bw3 := Lib.hid (Bw2.out.trans (b.mono Bw2.out.size))
    have Ew3 := Lib.hid (Ew2.out.below b)
    have K3 := Lib.hid (K2.out.keep b)
    clear b Bw2 Ew2 HPP K2 
    go_upto_region 8 with ((with_reducible refine at_store 24 (.tmp 9) (.tmp 41) ?_); refine wpList_store_blk 24 (.tmp 9) (.tmp 41) w3.heap.size 24 (adC false z16) (adC u l) (Blk.new w3 24 (adC false z16)) (by rfl) (by rfl) (by rfl) (by rfl) HL.out HLZ.out HL1.out (by rfl) ?_; intro w4 hk hg hs; have K9 := Lib.hid hk; have Bw4 := Lib.hid (print_world Bw3.out Bw3.out.size hg); have Ew4 := Lib.hid (Ew3.out.below (print_world (Below.refl _ w3) (Nat.le_refl _) hg)); have K3b := Lib.hid ((K3.out.alloc _).grown hg (fun e => by have := Option.some.inj e; have := K3.out.lt; omega)); clear hk hg hs)
    clear Bw3 Ew3 K3
    go_upto_region 9 with (first | (refine wpList_load_blk 24 (.tmp 3) w.heap.size 24 (adC u l) _ K3b.out (by rfl) (by rfl) Tryd.underlying24 rfl HL.out (by rfl) ?_) | ((with_reducible refine at_build 32 #[(0, .tmp 43), (1, .tmp 44)] ?_); refine wpList_build_eq 32 #[(0, .tmp 43), (1, .tmp 44)] (enC u l p) (by rfl) HBU.out (by rfl) ?_) | ((with_reducible refine at_store 32 (.tmp 11) (.tmp 45) ?_); refine wpList_store_blk 32 (.tmp 11) (.tmp 45) w4.heap.size 32 (enC false z16 0) (enC u l p) (Blk.new w4 32 (enC false z16 0)) (by rfl) (by rfl) (by rfl) (by rfl) HSE.out HSF.out HS2.out (by rfl) ?_; intro w5 hk hg hs; have K11 := Lib.hid hk; have Bw5 := Lib.hid (print_world Bw4.out Bw4.out.size hg); have Ew5 := Lib.hid (Ew4.out.below (print_world (Below.refl _ w4) (Nat.le_refl _) hg)); have K3c := Lib.hid ((K3b.out.alloc _).grown hg (fun e => by have := Option.some.inj e; have := K3b.out.lt; omega)); have K9b := Lib.hid ((K9.out.alloc _).grown hg (fun e => by have := Option.some.inj e; have := K9.out.lt; omega)); clear hk hg hs))
    clear Bw4 Ew4 K3b K9
    go_wp2_with (refine wpList_load_blk 32 (.tmp 11) w4.heap.size 32 (enC u l p) _ K11.out (by rfl) (by rfl) Tryd.underlying32 rfl HSE.out (by rfl) ?_)
    refine (HEN.out _ Ew5.out.env).mono ?_
    rintro e w6 ⟨rfl, b⟩
    have Bw6 := Lib.hid (Bw5.out.trans (b.mono Bw5.out.size))
    have Ew6 := Lib.hid (Ew5.out.below b)
    have K3d := Lib.hid (K3c.out.keep b)
    have K9c := Lib.hid (K9b.out.keep b)
    have K11b := Lib.hid (K11.out.keep b)
    clear b Bw5 Ew5 HEN K3c K9b K11 
    go_wp2_with fail
    refine (HPE.out _ Ew6.out.env).mono ?_
    rintro e w7 ⟨rfl, b⟩
    have Bw7 := Lib.hid (Bw6.out.trans (b.mono Bw6.out.size))
    have Ew7 := Lib.hid (Ew6.out.below b)
    have K3e := Lib.hid (K3d.out.keep b)
    have K9d := Lib.hid (K9c.out.keep b)
    have K11c := Lib.hid (K11b.out.keep b)
    clear b Bw6 Ew6 HPE K3d K9c K11b 
    go_upto_region 11 with ((with_reducible refine at_store 32 (.tmp 14) (.tmp 54) ?_); refine wpList_store_blk 32 (.tmp 14) (.tmp 54) w7.heap.size 32 (enC false z16 0) (enC u l p) (Blk.new w7 32 (enC false z16 0)) (by rfl) (by rfl) (by rfl) (by rfl) HSE.out HSF.out HS2.out (by rfl) ?_; intro w8 hk hg hs; have K14 := Lib.hid hk; have Bw8 := Lib.hid (print_world Bw7.out Bw7.out.size hg); have Ew8 := Lib.hid (Ew7.out.below (print_world (Below.refl _ w7) (Nat.le_refl _) hg)); have K3f := Lib.hid ((K3e.out.alloc _).grown hg (fun e => by have := Option.some.inj e; have := K3e.out.lt; omega)); have K9e := Lib.hid ((K9d.out.alloc _).grown hg (fun e => by have := Option.some.inj e; have := K9d.out.lt; omega)); have K11d := Lib.hid ((K11c.out.alloc _).grown hg (fun e => by have := Option.some.inj e; have := K11c.out.lt; omega)); clear hk hg hs)
    clear Bw7 Ew7 K3e K9d K11c
    with_reducible refine wp_region_lit ?_
    with_reducible refine wpList_yields (v := ?_) (by kernel_rfl) ?_ ?_
    case refine_2 => (go_simp <;> with_reducible rfl)
    try simp only [Act.put, List.setIfInBounds_toArray, List.set_cons_zero, List.set_cons_succ]
    with_reducible refine wpList_yields (v := ?_) (by kernel_rfl) ?_ ?_
    case refine_2 => (go_simp <;> with_reducible rfl)
    try simp only [Act.put, List.setIfInBounds_toArray, List.set_cons_zero, List.set_cons_succ]
    with_reducible refine wpList_yields (v := ?_) (by kernel_rfl) ?_ ?_
    case refine_2 => (go_simp <;> with_reducible rfl)
    try simp only [Act.put, List.setIfInBounds_toArray, List.set_cons_zero, List.set_cons_succ]
    with_reducible refine wpList_load_blk 24 (.tmp 9) w3.heap.size 24 (adC u l) _ K9e.out (by kernel_rfl) (by kernel_rfl) Tryd.underlying24 (by kernel_rfl) HL.out (by kernel_rfl) ?_
    try simp only [Act.put, List.setIfInBounds_toArray, List.set_cons_zero, List.set_cons_succ]
    with_reducible refine wpList_load_blk 24 (.tmp 3) w.heap.size 24 (adC u l) _ K3f.out (by kernel_rfl) (by kernel_rfl) Tryd.underlying24 (by kernel_rfl) HL.out (by kernel_rfl) ?_
    try simp only [Act.put, List.setIfInBounds_toArray, List.set_cons_zero, List.set_cons_succ]
    with_reducible refine wpList_yields (v := ?_) (by kernel_rfl) ?_ ?_
    case refine_2 => (go_simp <;> with_reducible rfl)
    try simp only [Act.put, List.setIfInBounds_toArray, List.set_cons_zero, List.set_cons_succ]
    with_reducible refine wpList_yields (v := ?_) (by kernel_rfl) ?_ ?_
    case refine_2 => (go_simp <;> with_reducible rfl)
    try simp only [Act.put, List.setIfInBounds_toArray, List.set_cons_zero, List.set_cons_succ]
    with_reducible refine wpList_yields (v := ?_) (by kernel_rfl) ?_ ?_
    case refine_2 => (go_simp <;> with_reducible rfl)
    try simp only [Act.put, List.setIfInBounds_toArray, List.set_cons_zero, List.set_cons_succ]
    with_reducible refine wpList_yields (v := ?_) (by kernel_rfl) ?_ ?_
    case refine_2 => (go_simp <;> with_reducible rfl)
    try simp only [Act.put, List.setIfInBounds_toArray, List.set_cons_zero, List.set_cons_succ]
    with_reducible refine wpList_yields (v := ?_) (by kernel_rfl) ?_ ?_
    case refine_2 => (go_simp <;> with_reducible rfl)
    try simp only [Act.put, List.setIfInBounds_toArray, List.set_cons_zero, List.set_cons_succ]
    with_reducible refine wpList_yields (v := ?_) (by kernel_rfl) ?_ ?_
    case refine_2 => (go_simp <;> with_reducible rfl)
    try simp only [Act.put, List.setIfInBounds_toArray, List.set_cons_zero, List.set_cons_succ]
    with_reducible refine wpList_yields (v := ?_) (by kernel_rfl) ?_ ?_
    case refine_2 => (go_simp <;> with_reducible rfl)
    try simp only [Act.put, List.setIfInBounds_toArray, List.set_cons_zero, List.set_cons_succ]
    with_reducible refine wpList_yields (v := ?_) (by kernel_rfl) ?_ ?_
    case refine_2 => (go_simp <;> with_reducible rfl)
    try simp only [Act.put, List.setIfInBounds_toArray, List.set_cons_zero, List.set_cons_succ]
    with_reducible refine wpList_yields (v := ?_) (by kernel_rfl) ?_ ?_
    case refine_2 => (go_simp <;> with_reducible rfl)
    try simp only [Act.put, List.setIfInBounds_toArray, List.set_cons_zero, List.set_cons_succ]
    with_reducible refine wpList_yields (v := ?_) (by kernel_rfl) ?_ ?_
    case refine_2 => (go_simp <;> with_reducible rfl)
    try simp only [Act.put, List.setIfInBounds_toArray, List.set_cons_zero, List.set_cons_succ]
    with_reducible refine wpList_yields (v := ?_) (by kernel_rfl) ?_ ?_
    case refine_2 => (go_simp <;> with_reducible rfl)
    try simp only [Act.put, List.setIfInBounds_toArray, List.set_cons_zero, List.set_cons_succ]
    with_reducible refine wpList_load_blk 32 (.tmp 14) w7.heap.size 32 (enC u l p) _ K14.out (by kernel_rfl) (by kernel_rfl) Tryd.underlying32 (by kernel_rfl) HSE.out (by kernel_rfl) ?_
    try simp only [Act.put, List.setIfInBounds_toArray, List.set_cons_zero, List.set_cons_succ]
    with_reducible refine wpList_load_blk 32 (.tmp 11) w4.heap.size 32 (enC u l p) _ K11d.out (by kernel_rfl) (by kernel_rfl) Tryd.underlying32 (by kernel_rfl) HSE.out (by kernel_rfl) ?_
    try simp only [Act.put, List.setIfInBounds_toArray, List.set_cons_zero, List.set_cons_succ]
    with_reducible refine wpList_yields (v := ?_) (by kernel_rfl) ?_ ?_
    case refine_2 => (go_simp <;> with_reducible rfl)
    try simp only [Act.put, List.setIfInBounds_toArray, List.set_cons_zero, List.set_cons_succ]
    with_reducible refine wpList_yields (v := ?_) (by kernel_rfl) ?_ ?_
    case refine_2 => (go_simp <;> with_reducible rfl)
    try simp only [Act.put, List.setIfInBounds_toArray, List.set_cons_zero, List.set_cons_succ]
    with_reducible refine wpList_nil ?_
    clear K14 K11d K9e K3f HBU HSE HSF HS2 HLZ HL1 HL hz1 hz2
    go_upto_region 13 with fail
    go_wp2_with fail
    refine (HP1.out _ Ew8.out.env).mono ?_
    rintro e w10 ⟨rfl, b⟩
    have Bw10 := Lib.hid (Bw8.out.trans (b.mono Bw8.out.size))
    have Ew10 := Lib.hid (Ew8.out.below b)
    clear b Bw8 Ew8 HP1  
    go_upto_region 14 with ((with_reducible refine at_store 24 (.tmp 16) (.tmp 79) ?_); refine wpList_store_blk 24 (.tmp 16) (.tmp 79) w10.heap.size 24 (adC false z16) (adC v m) (Blk.new w10 24 (adC false z16)) (by rfl) (by rfl) (by rfl) (by rfl) HSA.out HSZ.out HS1.out (by rfl) ?_; intro w11 hk hg hs; have K16 := Lib.hid hk; have Bw11 := Lib.hid (print_world Bw10.out Bw10.out.size hg); have Ew11 := Lib.hid (Ew10.out.below (print_world (Below.refl _ w10) (Nat.le_refl _) hg)); clear hk hg hs)
    clear Bw10 Ew10
    go_wp2_with fail
    refine (HUP.out _ Ew11.out).mono ?_
    rintro e w12 ⟨rfl, b⟩
    have Bw12 := Lib.hid (Bw11.out.trans (b.mono Bw11.out.size))
    have Ew12 := Lib.hid (Ew11.out.below b)
    have K16b := Lib.hid (K16.out.keep b)
    clear b Bw11 Ew11 HUP K16 
    go_wp2_with fail
    refine (HP2.out _ Ew12.out.env).mono ?_
    rintro e w13 ⟨rfl, b⟩
    have Bw13 := Lib.hid (Bw12.out.trans (b.mono Bw12.out.size))
    have Ew13 := Lib.hid (Ew12.out.below b)
    have K16c := Lib.hid (K16b.out.keep b)
    clear b Bw12 Ew12 HP2 K16b 
    go_upto_region 15 with ((with_reducible refine at_store 24 (.tmp 18) (.tmp 85) ?_); refine wpList_store_blk 24 (.tmp 18) (.tmp 85) w13.heap.size 24 (adC false z16) (adC v m) (Blk.new w13 24 (adC false z16)) (by rfl) (by rfl) (by rfl) (by rfl) HSA.out HSZ.out HS1.out (by rfl) ?_; intro w14 hk hg hs; have K18 := Lib.hid hk; have Bw14 := Lib.hid (print_world Bw13.out Bw13.out.size hg); have Ew14 := Lib.hid (Ew13.out.below (print_world (Below.refl _ w13) (Nat.le_refl _) hg)); have K16d := Lib.hid ((K16c.out.alloc _).grown hg (fun e => by have := Option.some.inj e; have := K16c.out.lt; omega)); clear hk hg hs)
    clear Bw13 Ew13 K16c
    rcases HCC.out with ⟨rfl, hy⟩ | rfl
    · with_reducible refine wp_region_lit ?_
      with_reducible refine wpList_yields (v := ?_) (by kernel_rfl) ?_ ?_
      case refine_2 => (go_simp <;> with_reducible rfl)
      try simp only [Act.put, List.setIfInBounds_toArray, List.set_cons_zero, List.set_cons_succ]
      with_reducible refine wpList_yields (v := ?_) (by kernel_rfl) ?_ ?_
      case refine_2 => (go_simp <;> with_reducible rfl)
      try simp only [Act.put, List.setIfInBounds_toArray, List.set_cons_zero, List.set_cons_succ]
      with_reducible refine wpList_yields (v := ?_) (by kernel_rfl) ?_ ?_
      case refine_2 => (go_simp <;> with_reducible rfl)
      try simp only [Act.put, List.setIfInBounds_toArray, List.set_cons_zero, List.set_cons_succ]
      with_reducible refine wpList_yields (v := ?_) (by kernel_rfl) ?_ ?_
      case refine_2 => (go_simp <;> with_reducible rfl)
      try simp only [Act.put, List.setIfInBounds_toArray, List.set_cons_zero, List.set_cons_succ]
      with_reducible refine wpList_load_blk 24 (.tmp 16) w10.heap.size 24 (adC v m) _ K16d.out (by kernel_rfl) (by kernel_rfl) Tryd.underlying24 (by kernel_rfl) HSA.out (by kernel_rfl) ?_
      try simp only [Act.put, List.setIfInBounds_toArray, List.set_cons_zero, List.set_cons_succ]
      with_reducible refine wpList_load_blk 24 (.tmp 18) w13.heap.size 24 (adC v m) _ K18.out (by kernel_rfl) (by kernel_rfl) Tryd.underlying24 (by kernel_rfl) HSA.out (by kernel_rfl) ?_
      try simp only [Act.put, List.setIfInBounds_toArray, List.set_cons_zero, List.set_cons_succ]
      with_reducible refine wpList_yields (v := ?_) (by kernel_rfl) ?_ ?_
      case refine_2 => (go_simp <;> with_reducible rfl)
      try simp only [Act.put, List.setIfInBounds_toArray, List.set_cons_zero, List.set_cons_succ]
      with_reducible refine wpList_yields (v := ?_) (by kernel_rfl) ?_ ?_
      case refine_2 => (go_simp <;> with_reducible rfl)
      try simp only [Act.put, List.setIfInBounds_toArray, List.set_cons_zero, List.set_cons_succ]
      with_reducible refine wpList_nil ?_
      clear K18 HCC
      have HPR := Lib.hid (fun W (e : Env W) => print_back v m hm hy W e)
      have HPR2 := Lib.hid (fun W (e : Env W) => print_back v m hm hy W e)
      have HPB := Lib.hid (fun W (e : Env W) => parse_back v m hm hy W e)
      clear hy hm
      go_wp2_with (refine wpList_load_blk 24 (.tmp 16) w10.heap.size 24 (adC v m) _ K16d.out (by rfl) (by rfl) Tryd.underlying24 rfl HSA.out (by rfl) ?_)
      refine (HPR.out _ Ew14.out.env).mono ?_
      rintro e w15 ⟨rfl, b⟩
      have Bw15 := Lib.hid (Bw14.out.trans (b.mono Bw14.out.size))
      have Ew15 := Lib.hid (Ew14.out.below b)
      have K16e := Lib.hid (K16d.out.keep b)
      clear b Bw14 Ew14 HPR K16d 
      go_wp2_with fail
      refine (HPB.out _ Ew15.out.env).mono ?_
      rintro e w16 ⟨rfl, b⟩
      have Bw16 := Lib.hid (Bw15.out.trans (b.mono Bw15.out.size))
      have Ew16 := Lib.hid (Ew15.out.below b)
      have K16f := Lib.hid (K16e.out.keep b)
      clear b Bw15 Ew15 HPB K16e 
      go_upto_region 21 with ((with_reducible refine at_store 24 (.tmp 22) (.tmp 105) ?_); refine wpList_store_blk 24 (.tmp 22) (.tmp 105) w16.heap.size 24 (adC false z16) (adC v m) (Blk.new w16 24 (adC false z16)) (by rfl) (by rfl) (by rfl) (by rfl) HSA.out HSZ.out HS1.out (by rfl) ?_; intro w17 hk hg hs; have K22 := Lib.hid hk; have Bw17 := Lib.hid (print_world Bw16.out Bw16.out.size hg); have Ew17 := Lib.hid (Ew16.out.below (print_world (Below.refl _ w16) (Nat.le_refl _) hg)); have K16g := Lib.hid ((K16f.out.alloc _).grown hg (fun e => by have := Option.some.inj e; have := K16f.out.lt; omega)); clear hk hg hs)
      clear Bw16 Ew16 K16f
      go_wp2_with (refine wpList_load_blk 24 (.tmp 22) w16.heap.size 24 (adC v m) _ K22.out (by rfl) (by rfl) Tryd.underlying24 rfl HSA.out (by rfl) ?_)
      refine (HPR2.out _ Ew17.out.env).mono ?_
      rintro e w18 ⟨rfl, b⟩
      have Bw18 := Lib.hid (Bw17.out.trans (b.mono Bw17.out.size))
      have Ew18 := Lib.hid (Ew17.out.below b)
      have K16h := Lib.hid (K16g.out.keep b)
      have K22b := Lib.hid (K22.out.keep b)
      clear b Bw17 Ew17 HPR2 K16g K22 
      go_upto_region 22 with fail
      with_reducible refine wp_region_lit ?_
      with_reducible refine wpList_yields (v := ?_) (by kernel_rfl) ?_ ?_
      case refine_2 => (go_simp <;> with_reducible rfl)
      try simp only [Act.put, List.setIfInBounds_toArray, List.set_cons_zero, List.set_cons_succ]
      with_reducible refine wpList_yields (v := ?_) (by kernel_rfl) ?_ ?_
      case refine_2 => (go_simp <;> with_reducible rfl)
      try simp only [Act.put, List.setIfInBounds_toArray, List.set_cons_zero, List.set_cons_succ]
      with_reducible refine wpList_yields (v := ?_) (by kernel_rfl) ?_ ?_
      case refine_2 => (go_simp <;> with_reducible rfl)
      try simp only [Act.put, List.setIfInBounds_toArray, List.set_cons_zero, List.set_cons_succ]
      with_reducible refine wpList_yields (v := ?_) (by kernel_rfl) ?_ ?_
      case refine_2 => (go_simp <;> with_reducible rfl)
      try simp only [Act.put, List.setIfInBounds_toArray, List.set_cons_zero, List.set_cons_succ]
      with_reducible refine wpList_yields (v := ?_) (by kernel_rfl) ?_ ?_
      case refine_2 => (go_simp <;> with_reducible rfl)
      try simp only [Act.put, List.setIfInBounds_toArray, List.set_cons_zero, List.set_cons_succ]
      with_reducible refine wpList_yields (v := ?_) (by kernel_rfl) ?_ ?_
      case refine_2 => (go_simp <;> with_reducible rfl)
      try simp only [Act.put, List.setIfInBounds_toArray, List.set_cons_zero, List.set_cons_succ]
      with_reducible refine wpList_yields (v := ?_) (by kernel_rfl) ?_ ?_
      case refine_2 => (go_simp <;> with_reducible rfl)
      try simp only [Act.put, List.setIfInBounds_toArray, List.set_cons_zero, List.set_cons_succ]
      with_reducible refine wpList_load_blk 24 (.tmp 22) w16.heap.size 24 (adC v m) _ K22b.out (by kernel_rfl) (by kernel_rfl) Tryd.underlying24 (by kernel_rfl) HSA.out (by kernel_rfl) ?_
      try simp only [Act.put, List.setIfInBounds_toArray, List.set_cons_zero, List.set_cons_succ]
      with_reducible refine wpList_load_blk 24 (.tmp 16) w10.heap.size 24 (adC v m) _ K16h.out (by kernel_rfl) (by kernel_rfl) Tryd.underlying24 (by kernel_rfl) HSA.out (by kernel_rfl) ?_
      try simp only [Act.put, List.setIfInBounds_toArray, List.set_cons_zero, List.set_cons_succ]
      with_reducible refine wpList_yields (v := ?_) (by kernel_rfl) ?_ ?_
      case refine_2 => (go_simp <;> with_reducible rfl)
      try simp only [Act.put, List.setIfInBounds_toArray, List.set_cons_zero, List.set_cons_succ]
      with_reducible refine wpList_yields (v := ?_) (by kernel_rfl) ?_ ?_
      case refine_2 => (go_simp <;> with_reducible rfl)
      try simp only [Act.put, List.setIfInBounds_toArray, List.set_cons_zero, List.set_cons_succ]
      with_reducible refine wpList_yields (v := ?_) (by kernel_rfl) ?_ ?_
      case refine_2 => (go_simp <;> with_reducible rfl)
      try simp only [Act.put, List.setIfInBounds_toArray, List.set_cons_zero, List.set_cons_succ]
      with_reducible refine wpList_yields (v := ?_) (by kernel_rfl) ?_ ?_
      case refine_2 => (go_simp <;> with_reducible rfl)
      try simp only [Act.put, List.setIfInBounds_toArray, List.set_cons_zero, List.set_cons_succ]
      with_reducible refine wpList_yields (v := ?_) (by kernel_rfl) ?_ ?_
      case refine_2 => (go_simp <;> with_reducible rfl)
      try simp only [Act.put, List.setIfInBounds_toArray, List.set_cons_zero, List.set_cons_succ]
      with_reducible refine wpList_yields (v := ?_) (by kernel_rfl) ?_ ?_
      case refine_2 => (go_simp <;> with_reducible rfl)
      try simp only [Act.put, List.setIfInBounds_toArray, List.set_cons_zero, List.set_cons_succ]
      with_reducible refine wpList_yields (v := ?_) (by kernel_rfl) ?_ ?_
      case refine_2 => (go_simp <;> with_reducible rfl)
      try simp only [Act.put, List.setIfInBounds_toArray, List.set_cons_zero, List.set_cons_succ]
      with_reducible refine wpList_yields (v := ?_) (by kernel_rfl) ?_ ?_
      case refine_2 => (go_simp <;> with_reducible rfl)
      try simp only [Act.put, List.setIfInBounds_toArray, List.set_cons_zero, List.set_cons_succ]
      with_reducible refine wpList_nil ?_
      go_wp2_with fail
      go_ret
      exact ⟨rfl, Bw18.out⟩
    · with_reducible refine wp_region_lit ?_
      with_reducible refine wpList_yields (v := ?_) (by kernel_rfl) ?_ ?_
      case refine_2 => (go_simp <;> with_reducible rfl)
      try simp only [Act.put, List.setIfInBounds_toArray, List.set_cons_zero, List.set_cons_succ]
      with_reducible refine wpList_yields (v := ?_) (by kernel_rfl) ?_ ?_
      case refine_2 => (go_simp <;> with_reducible rfl)
      try simp only [Act.put, List.setIfInBounds_toArray, List.set_cons_zero, List.set_cons_succ]
      with_reducible refine wpList_yields (v := ?_) (by kernel_rfl) ?_ ?_
      case refine_2 => (go_simp <;> with_reducible rfl)
      try simp only [Act.put, List.setIfInBounds_toArray, List.set_cons_zero, List.set_cons_succ]
      with_reducible refine wpList_yields (v := ?_) (by kernel_rfl) ?_ ?_
      case refine_2 => (go_simp <;> with_reducible rfl)
      try simp only [Act.put, List.setIfInBounds_toArray, List.set_cons_zero, List.set_cons_succ]
      with_reducible refine wpList_load_blk 24 (.tmp 16) w10.heap.size 24 (adC v m) _ K16d.out (by kernel_rfl) (by kernel_rfl) Tryd.underlying24 (by kernel_rfl) HSA.out (by kernel_rfl) ?_
      try simp only [Act.put, List.setIfInBounds_toArray, List.set_cons_zero, List.set_cons_succ]
      with_reducible refine wpList_load_blk 24 (.tmp 18) w13.heap.size 24 (adC v m) _ K18.out (by kernel_rfl) (by kernel_rfl) Tryd.underlying24 (by kernel_rfl) HSA.out (by kernel_rfl) ?_
      try simp only [Act.put, List.setIfInBounds_toArray, List.set_cons_zero, List.set_cons_succ]
      with_reducible refine wpList_yields (v := ?_) (by kernel_rfl) ?_ ?_
      case refine_2 => (go_simp <;> with_reducible rfl)
      try simp only [Act.put, List.setIfInBounds_toArray, List.set_cons_zero, List.set_cons_succ]
      with_reducible refine wpList_yields (v := ?_) (by kernel_rfl) ?_ ?_
      case refine_2 => (go_simp <;> with_reducible rfl)
      try simp only [Act.put, List.setIfInBounds_toArray, List.set_cons_zero, List.set_cons_succ]
      with_reducible refine wpList_nil ?_
      go_wp2_with fail
      go_ret
      exact ⟨rfl, Bw14.out⟩

theorem back_walk (u : Bool) (l : List UInt8) (p : Nat) (s : ByteArray) (hl : l.length = 16) (hp : p < 65536) (w : World) (env : EnvB w) :
    Calls Tryd.prog 6 #[.agg (adC u l), .int .u16 p, .string s] w fun e w' => e = .returned (.bool true) ∧ Below w.heap.size w w' := by
  cases h : mayB u l with
  | false => exact back_no u l p s hl hp h w env
  | true => exact back_yes u l p s hl hp h w env
end Go.Proofs.YtgdnckglfhabnaaDoor
