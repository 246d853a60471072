/- The walk of horologelaw28.FlowBack. -/
import Derived.Test.YtonafonhadocgaaDoorQM
import Derived.Test.YtonafonhadocgaaDoorFlPKey
import Derived.Test.YtonafonhadocgaaDoorFlEq
import Derived.Outline
namespace Go.Proofs.YtonafonhadocgaaDoor
open Go.RowKit Go.Shelf

theorem and_may {a b : En} (h : (mayB a.1 a.2.1 && mayB b.1 b.2.1) = true) (la : a.2.1.length = 16) (lb : b.2.1.length = 16) (pa : a.2.2 < 65536) (pb : b.2.2 < 65536) : EnOk a ∧ EnOk b := by
  rw [Bool.and_eq_true] at h
  exact ⟨⟨la, h.1, pa⟩, ⟨lb, h.2, pb⟩⟩
theorem flowV_ok {a b : En} (ha : EnOk a) (hb : EnOk b) : flowV a b = .tuple #[.string ⟨(flowT a b).toArray⟩, .int .i64 0] := by
  rw [flowV, ha.may, hb.may]; rfl
theorem keyV_ok {a b : En} (x : Nat) (ha : EnOk a) (hb : EnOk b) : keyV a b x = .tuple #[.string ⟨(keyT a b x).toArray⟩, .int .i64 0] := by
  rw [keyV, ha.may, hb.may]; rfl
theorem list_string (s : ByteArray) : (⟨s.data.toList.toArray⟩ : ByteArray) = s := rfl
theorem flowT_len (a b : En) (ha : a.2.1.length = 16) (hb : b.2.1.length = 16) (pa : a.2.2 < 65536) (pb : b.2.2 < 65536) : (flowT a b).length ≤ 300 := by
  have la := enT_len a ha pa
  have lb := enT_len b hb pb
  unfold flowT
  simp
  omega

set_option maxRecDepth 100000 in
set_option maxHeartbeats 8000000 in
theorem back_walk (k : Ky) (hk : KyOk k) (s : ByteArray) (w : World) (env : Env w) :
    Calls Tryd.prog 6 #[.agg (kyC k), .string s] w fun e w' => e = .returned (.bool true) ∧ Below w.heap.size w w' := by
  obtain ⟨⟨a, b⟩, x⟩ := k
  have E := Lib.hid env
  have K1 := Lib.hid (Blk.new w 32 (keC a b x))
  have B1 := Lib.hid ((Below.refl _ w).alloc (Nat.le_refl _) (.cells (keC a b x) 32))
  have HT := Lib.hid (fun W (e : Env W) => text_any a b hk.la hk.lb hk.pa hk.pb W e)
  have HK := Lib.hid (fun W (e : Env W) => ktext_any a b x hk.la hk.lb hk.pa hk.pb hk.x W e)
  have HF := Lib.hid (keC_flow a b x)
  have HI := Lib.hid (fl_info a b hk.la hk.lb)
  have HKS := Lib.hid (show (Tryd.prog.info? 32).map (·.size) = some (keC a b x).size from by rw [kySize]; exact congrArg some (kyC_size hk).symm)
  have HKZ := Lib.hid (show (keC zE zE 0).size = (keC a b x).size by rw [keC_size a b x hk.la hk.lb]; rfl)
  have HKO := Lib.hid (keC_one a b x)
  have HFS := Lib.hid (show (Tryd.prog.info? 29).map (·.size) = some (flC a b).size by rw [flC_size _ _ hk.la hk.lb]; exact flSize)
  have HFZ := Lib.hid (show (flC zE zE).size = (flC a b).size by rw [flC_size _ _ hk.la hk.lb]; rfl)
  have HFO := Lib.hid (flC_one a b)
  have HFY := Lib.hid (show (Tryd.prog.info? 29).map (·.size) = some (flC zE zE).size from flSize)
  have HM := Lib.hid (fun h : (mayB a.1 a.2.1 && mayB b.1 b.2.1) = true => and_may h hk.la hk.lb hk.pa hk.pb)
  have HLT := Lib.hid (flowT_len a b hk.la hk.lb hk.pa hk.pb)
  have HX := Lib.hid hk.x
  have HQK := Lib.hid (fun W => (eq_key ((a, b), x) ((a, b), x) hk hk W).trans (congrArg (fun v => Result.ok v W) (decide_eq_true rfl)))
  have HQF := Lib.hid (fun W => (eq_flow (a, b) (a, b) hk.la hk.lb hk.la hk.lb W).trans (congrArg (fun v => Result.ok v W) (decide_eq_true rfl)))
  change Hid (∀ W, (Op.equalIn 10000 32 (.agg (keC a b x)) (.agg (keC a b x))).run Tryd.prog W = _) at HQK
  change Hid (∀ W, (Op.equalIn 10000 29 (.agg (flC a b)) (.agg (flC a b))).run Tryd.prog W = _) at HQF
  show Calls Tryd.prog 6 #[.agg (keC a b x), .string s] w _
  clear env hk
  go_enter Tryd.func6, Tryd.ntmps6
  refine wp_seq_k fun K0 h0 => ?_
  have H0 := Lib.hid h0
  clear h0
  go_wp2_with fail
  refine H0.out _ _ ?_
  clear H0
  refine wp_seq_k fun KA hA => ?_
  have HA := Lib.hid hA
  clear hA
  go_cut [] (fun wx => Below w.heap.size w wx)
  case first =>
    cases hm : (mayB a.1 a.2.1 && mayB b.1 b.2.1) with
    | false =>
      have HV := Lib.hid (show keyV a b x = .tuple #[.string ⟨#[]⟩, .int .i64 2] by rw [keyV, hm]; rfl)
      rw [HV.out] at HK
      clear hm HV HQK HQF
      generalize keC a b x = cs at *
      go_wp2_with (refine wpList_load_blk 32 (.tmp 2) w.heap.size 32 cs _ K1.out (by rfl) (by rfl) Tryd.underlying32 rfl HKS.out (by rfl) ?_)
      refine (HK.out _ (E.out.below B1.out)).mono ?_
      rintro e w2 ⟨rfl, b⟩
      have B2 := Lib.hid (B1.out.trans (b.mono B1.out.size))
      clear b B1 K1
      go_wp2_with fail
      go_meet
      exact B2.out
    | true =>
      obtain ⟨oa, ob⟩ := HM.out hm
      have HV := Lib.hid (keyV_ok x oa ob)
      have HW := Lib.hid (flowV_ok oa ob)
      rw [HV.out] at HK
      rw [HW.out] at HT
      have kl := keyT_front a b x
      have hts := HLT.out
      have HPK := Lib.hid (fun W (e : Env W) => pkey_any ⟨(keyT a b x).toArray⟩ (by show (keyT a b x).length < _; omega) W e)
      have HPF := Lib.hid (fun W (e : Env W) => fparse_any ⟨(flowT a b).toArray⟩ (by show (flowT a b).length < _; omega) W e)
      have HPX := Lib.hid (fun W (e : Env W) => fparse_any ⟨(keyT a b x).toArray⟩ (by show (keyT a b x).length < _; omega) W e)
      rw [show keyPV (⟨(keyT a b x).toArray⟩ : ByteArray).data.toList = .tuple #[.agg (keC a b x), .int .i64 0] by show keyPV (keyT a b x) = _; rw [keyPV, keyP_keyT oa ob HX.out]] at HPK
      rw [show flowPV (⟨(flowT a b).toArray⟩ : ByteArray).data.toList = .tuple #[.agg (flC a b), .int .i64 0] by show flowPV (flowT a b) = _; rw [flowPV, flowP_flowT oa ob]] at HPF
      rw [show flowPV (⟨(keyT a b x).toArray⟩ : ByteArray).data.toList = .tuple #[.agg (flC zE zE), .int .i64 9] by show flowPV (keyT a b x) = _; rw [flowPV, flowP_keyT oa ob]] at HPX
      have HEX := Lib.hid (show (⟨(keyT a b x).toArray⟩ : ByteArray).extract 0 (flowT a b).length = ⟨(flowT a b).toArray⟩ by
        rw [← list_string (ByteArray.extract _ _ _), Lib.extract_from_zero]
        show (⟨((keyT a b x).take _).toArray⟩ : ByteArray) = _
        rw [kl.2])
      have KL := Lib.hid (show (⟨(keyT a b x).toArray⟩ : ByteArray).size = (flowT a b).length + 17 by show (keyT a b x).length = _; exact kl.1)
      clear hm HV HW HM HX kl oa ob HLT
      generalize (⟨(keyT a b x).toArray⟩ : ByteArray) = kt at *
      generalize ht : (⟨(flowT a b).toArray⟩ : ByteArray) = t at *
      have HTS := Lib.hid (show t.size = (flowT a b).length by rw [← ht]; rfl)
      generalize (flowT a b).length = n at *
      clear ht
      generalize keC a b x = cs at *
      generalize flC a b = cf at *
      go_wp2_with (refine wpList_load_blk 32 (.tmp 2) w.heap.size 32 cs _ K1.out (by rfl) (by rfl) Tryd.underlying32 rfl HKS.out (by rfl) ?_)
      refine (HK.out _ (E.out.below B1.out)).mono ?_
      rintro e w2 ⟨rfl, b⟩
      have B2 := Lib.hid (B1.out.trans (b.mono B1.out.size))
      have K2 := Lib.hid (K1.out.keep b)
      clear b B1 K1
      go_wp2_with (refine wpList_load_part 29 (.tmp 31) w.heap.size 0 32 cs cf.toList _ K2.out HF.out (by rfl) (by rfl) Tryd.underlying29 rfl HI.out (by rfl) ?_)
      refine (HT.out _ (E.out.below B2.out)).mono ?_
      rintro e w3 ⟨rfl, b⟩
      have B3 := Lib.hid (B2.out.trans (b.mono B2.out.size))
      have K3 := Lib.hid (K2.out.keep b)
      clear b B2 K2
      go_wp2_with fail
      refine (HPK.out _ (E.out.below B3.out)).mono ?_
      rintro e w4 ⟨rfl, b⟩
      have B4 := Lib.hid (B3.out.trans (b.mono B3.out.size))
      have K4 := Lib.hid (K3.out.keep b)
      clear b B3 K3 HPK
      go_upto_region 5 with ((with_reducible refine at_store 32 (.tmp 9) (.tmp 39) ?_); refine wpList_store_blk 32 (.tmp 9) (.tmp 39) w4.heap.size 32 (keC zE zE 0) cs (Blk.new w4 32 (keC zE zE 0)) (by rfl) (by rfl) (by rfl) (by rfl) HKS.out HKZ.out HKO.out (by rfl) ?_; intro w5 hk hg hs; have KK5 := Lib.hid hk; have B5 := Lib.hid (print_world B4.out B4.out.size hg); have K5 := Lib.hid ((K4.out.alloc _).grown hg (fun e => by have := Option.some.inj e; have := K4.out.lt; omega)); clear hk hg hs)
      clear B4 K4
      go_wp2_with fail
      refine (HPF.out _ (E.out.below B5.out)).mono ?_
      rintro e w6 ⟨rfl, b⟩
      have B6 := Lib.hid (B5.out.trans (b.mono B5.out.size))
      have K6 := Lib.hid (K5.out.keep b)
      have KK6 := Lib.hid (KK5.out.keep b)
      clear b B5 K5 KK5 HPF
      go_upto_region 6 with ((with_reducible refine at_store 29 (.tmp 11) (.tmp 44) ?_); refine wpList_store_blk 29 (.tmp 11) (.tmp 44) w6.heap.size 29 (flC zE zE) cf (Blk.new w6 29 (flC zE zE)) (by rfl) (by rfl) (by rfl) (by rfl) HFS.out HFZ.out HFO.out (by rfl) ?_; intro w7 hk hg hs; have KF7 := Lib.hid hk; have B7 := Lib.hid (print_world B6.out B6.out.size hg); have K7 := Lib.hid ((K6.out.alloc _).grown hg (fun e => by have := Option.some.inj e; have := K6.out.lt; omega)); have KK7 := Lib.hid ((KK6.out.alloc _).grown hg (fun e => by have := Option.some.inj e; have := KK6.out.lt; omega)); clear hk hg hs)
      clear B6 K6 KK6
      go_wp2_with fail
      refine (HPX.out _ (E.out.below B7.out)).mono ?_
      rintro e w8 ⟨rfl, b⟩
      have B8 := Lib.hid (B7.out.trans (b.mono B7.out.size))
      have K8 := Lib.hid (K7.out.keep b)
      have KK8 := Lib.hid (KK7.out.keep b)
      have KF8 := Lib.hid (KF7.out.keep b)
      clear b B7 K7 KK7 KF7 HPX
      go_upto_region 7 with ((with_reducible refine at_store 29 (.tmp 13) (.tmp 49) ?_); refine wpList_store_blk 29 (.tmp 13) (.tmp 49) w8.heap.size 29 (flC zE zE) (flC zE zE) (Blk.new w8 29 (flC zE zE)) (by rfl) (by rfl) (by rfl) (by rfl) HFY.out (by rfl) (flC_one zE zE) (by rfl) ?_; intro w9 hk hg hs; have B9 := Lib.hid (print_world B8.out B8.out.size hg); have K9 := Lib.hid ((K8.out.alloc _).grown hg (fun e => by have := Option.some.inj e; have := K8.out.lt; omega)); have KK9 := Lib.hid ((KK8.out.alloc _).grown hg (fun e => by have := Option.some.inj e; have := KK8.out.lt; omega)); have KF9 := Lib.hid ((KF8.out.alloc _).grown hg (fun e => by have := Option.some.inj e; have := KF8.out.lt; omega)); clear hk hg hs)
      clear B8 K8 KK8 KF8
      have hq1 := HQK.out
      have hq2 := HQF.out
      have hkl := KL.out
      have hts := HTS.out
      have hex := HEX.out
      go_wp2_with (first | (refine wpList_load_blk 32 (.tmp 9) w4.heap.size 32 cs _ KK9.out (by rfl) (by rfl) Tryd.underlying32 rfl HKS.out (by rfl) ?_) | (refine wpList_load_blk 32 (.tmp 2) w.heap.size 32 cs _ K9.out (by rfl) (by rfl) Tryd.underlying32 rfl HKS.out (by rfl) ?_) | (refine wpList_load_blk 29 (.tmp 11) w6.heap.size 29 cf _ KF9.out (by rfl) (by rfl) Tryd.underlying29 rfl HFS.out (by rfl) ?_) | (refine wpList_load_part 29 (.tmp 56) w.heap.size 0 32 cs cf.toList _ K9.out HF.out (by rfl) (by rfl) Tryd.underlying29 rfl HI.out (by rfl) ?_))
      go_meet
      exact B9.out
  case rest =>
  have BC := Lib.hid hcut
  clear hcut B1 K1 HT HK HF HI HKS HKZ HKO HFS HFZ HFO HM HLT HX HQK HQF
  refine HA.out _ _ ?_
  clear HA KA
  by_cases h300 : 300 < s.size
  · go_wp2_with fail
    refine (works_any _ (E.out.below BC.out)).mono ?_
    rintro e w2 ⟨rfl, b⟩
    have B2 := Lib.hid (BC.out.trans (b.mono BC.out.size))
    clear b BC
    go_wp2_with fail
    go_ret
    exact ⟨rfl, B2.out⟩
  · have HPF := Lib.hid (fun W (e : Env W) => fparse_any s (by omega) W e)
    have HPK := Lib.hid (fun W (e : Env W) => pkey_any s (by omega) W e)
    refine wp_seq_k fun KB hB => ?_
    have HB := Lib.hid hB
    clear hB
    go_wp2_with fail
    refine HB.out _ _ ?_
    clear HB KB
    refine wp_seq_k fun KC hC => ?_
    have HC := Lib.hid hC
    clear hC
    go_cut [] (fun wx => Below w.heap.size w wx)
    case first =>
      cases hf : flowP s.data.toList with
      | none =>
        rw [show flowPV s.data.toList = .tuple #[.agg (flC zE zE), .int .i64 9] by rw [flowPV, hf]] at HPF
        clear hf
        go_wp2_with fail
        refine (HPF.out _ (E.out.below BC.out)).mono ?_
        rintro e w2 ⟨rfl, b⟩
        have B2 := Lib.hid (BC.out.trans (b.mono BC.out.size))
        clear b BC
        go_wp2_with ((with_reducible refine at_store 29 (.tmp 15) (.tmp 94) ?_); refine wpList_store_blk 29 (.tmp 15) (.tmp 94) w2.heap.size 29 (flC zE zE) (flC zE zE) (Blk.new w2 29 (flC zE zE)) (by rfl) (by rfl) (by rfl) (by rfl) HFY.out (by rfl) (flC_one zE zE) (by rfl) ?_; intro w3 hk hg hs; have B3 := Lib.hid (print_world B2.out B2.out.size hg); clear hk hg hs)
        go_meet
        exact B3.out
      | some y =>
        obtain ⟨a', b'⟩ := y
        obtain ⟨hl, oa, ob⟩ := flowP_sound hf
        rw [show flowPV s.data.toList = .tuple #[.agg (flC a' b'), .int .i64 0] by rw [flowPV, hf]] at HPF
        have HTX := Lib.hid (fun W (e : Env W) => text_any a' b' oa.len ob.len oa.port ob.port W e)
        rw [flowV_ok oa ob, hl, list_string] at HTX
        have HGS := Lib.hid (show (Tryd.prog.info? 29).map (·.size) = some (flC a' b').size by rw [flC_size _ _ oa.len ob.len]; exact flSize)
        have HGZ := Lib.hid (show (flC zE zE).size = (flC a' b').size by rw [flC_size _ _ oa.len ob.len]; rfl)
        have HGO := Lib.hid (flC_one a' b')
        clear hf hl oa ob
        generalize flC a' b' = cg at *
        go_wp2_with fail
        refine (HPF.out _ (E.out.below BC.out)).mono ?_
        rintro e w2 ⟨rfl, b⟩
        have B2 := Lib.hid (BC.out.trans (b.mono BC.out.size))
        clear b BC HPF
        go_wp2_with (first | ((with_reducible refine at_store 29 (.tmp 15) (.tmp 94) ?_); refine wpList_store_blk 29 (.tmp 15) (.tmp 94) w2.heap.size 29 (flC zE zE) cg (Blk.new w2 29 (flC zE zE)) (by rfl) (by rfl) (by rfl) (by rfl) HGS.out HGZ.out HGO.out (by rfl) ?_; intro w3 hk hg hs; have KG := Lib.hid hk; have B3 := Lib.hid (print_world B2.out B2.out.size hg); clear hk hg hs) | (refine wpList_load_blk 29 (.tmp 15) w2.heap.size 29 cg _ KG.out (by rfl) (by rfl) Tryd.underlying29 rfl HGS.out (by rfl) ?_))
        refine (HTX.out _ (E.out.below B3.out)).mono ?_
        rintro e w4 ⟨rfl, b⟩
        have B4 := Lib.hid (B3.out.trans (b.mono B3.out.size))
        clear b B3
        go_wp2_with fail
        go_meet
        exact B4.out
    case rest =>
    have BD := Lib.hid hcut
    clear hcut BC HPF
    refine HC.out _ _ ?_
    clear HC KC
    refine wp_seq_k fun KD hD => ?_
    have HD := Lib.hid hD
    clear hD
    go_cut [] (fun wx => Below w.heap.size w wx)
    case first =>
      cases hf : keyP s.data.toList with
      | none =>
        rw [show keyPV s.data.toList = .tuple #[.agg (keC zE zE 0), .int .i64 9] by rw [keyPV, hf]] at HPK
        have HYZ := Lib.hid (show (Tryd.prog.info? 32).map (·.size) = some (keC zE zE 0).size from kySize)
        have HOZ := Lib.hid (keC_one zE zE 0)
        clear hf
        go_wp2_with fail
        refine (HPK.out _ (E.out.below BD.out)).mono ?_
        rintro e w2 ⟨rfl, b⟩
        have B2 := Lib.hid (BD.out.trans (b.mono BD.out.size))
        clear b BD
        go_wp2_with ((with_reducible refine at_store 32 (.tmp 19) (.tmp 113) ?_); refine wpList_store_blk 32 (.tmp 19) (.tmp 113) w2.heap.size 32 (keC zE zE 0) (keC zE zE 0) (Blk.new w2 32 (keC zE zE 0)) (by rfl) (by rfl) (by rfl) (by rfl) HYZ.out (by rfl) HOZ.out (by rfl) ?_; intro w3 hk hg hs; have B3 := Lib.hid (print_world B2.out B2.out.size hg); clear hk hg hs)
        go_meet
        exact B3.out
      | some y =>
        obtain ⟨a', b', x'⟩ := y
        obtain ⟨hl, oa, ob, ox⟩ := keyP_sound hf
        rw [show keyPV s.data.toList = .tuple #[.agg (keC a' b' x'), .int .i64 0] by rw [keyPV, hf]] at HPK
        have HTX := Lib.hid (fun W (e : Env W) => ktext_any a' b' x' oa.len ob.len oa.port ob.port ox W e)
        rw [keyV_ok x' oa ob, hl, list_string] at HTX
        have HGS := Lib.hid (show (Tryd.prog.info? 32).map (·.size) = some (keC a' b' x').size by rw [keC_size _ _ _ oa.len ob.len]; exact kySize)
        have HGZ := Lib.hid (show (keC zE zE 0).size = (keC a' b' x').size by rw [keC_size _ _ _ oa.len ob.len]; rfl)
        have HGO := Lib.hid (keC_one a' b' x')
        clear hf hl oa ob ox
        generalize keC a' b' x' = cg at *
        go_wp2_with fail
        refine (HPK.out _ (E.out.below BD.out)).mono ?_
        rintro e w2 ⟨rfl, b⟩
        have B2 := Lib.hid (BD.out.trans (b.mono BD.out.size))
        clear b BD HPK
        go_wp2_with (first | ((with_reducible refine at_store 32 (.tmp 19) (.tmp 113) ?_); refine wpList_store_blk 32 (.tmp 19) (.tmp 113) w2.heap.size 32 (keC zE zE 0) cg (Blk.new w2 32 (keC zE zE 0)) (by rfl) (by rfl) (by rfl) (by rfl) HGS.out HGZ.out HGO.out (by rfl) ?_; intro w3 hk hg hs; have KG := Lib.hid hk; have B3 := Lib.hid (print_world B2.out B2.out.size hg); clear hk hg hs) | (refine wpList_load_blk 32 (.tmp 19) w2.heap.size 32 cg _ KG.out (by rfl) (by rfl) Tryd.underlying32 rfl HGS.out (by rfl) ?_))
        refine (HTX.out _ (E.out.below B3.out)).mono ?_
        rintro e w4 ⟨rfl, b⟩
        have B4 := Lib.hid (B3.out.trans (b.mono B3.out.size))
        clear b B3
        go_wp2_with fail
        go_meet
        exact B4.out
    case rest =>
    have BF := Lib.hid hcut
    clear hcut BD HPK
    refine HD.out _ _ ?_
    clear HD KD
    go_wp2_with fail
    refine (works_any _ (E.out.below BF.out)).mono ?_
    rintro e w2 ⟨rfl, b⟩
    have B2 := Lib.hid (BF.out.trans (b.mono BF.out.size))
    clear b BF
    go_wp2_with fail
    go_ret
    exact ⟨rfl, B2.out⟩
end Go.Proofs.YtonafonhadocgaaDoor
