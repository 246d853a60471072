/- Laws and walks that the claim's last text leans on, joined: each part says above itself what it proves. -/
import Derived.Test.YtonafonhadocgaaGreatDoorQM

/- The reference's Parse, walked: two colons, nothing behind. -/
namespace Go.Proofs.YtonafonhadocgaaGreatDoor
open Go.RowKit Go.Shelf

set_option maxRecDepth 100000 in
set_option maxHeartbeats 64000000 in
theorem rparse_two_b (s : ByteArray) (hs : s.size < 4294967281) (hf : f4 s = none) (hcu : (cutL s.data.toList).2.2 = true) (hbe : (cutL s.data.toList).2.1 = []) (w : World) :
    Calls Tryz.prog 44 #[.string s] w fun e w' => e = .returned (rparseV s.data.toList) ∧ Below w.heap.size w w' := by
  obtain ⟨i5, hi5, hz50, hz51, hz52⟩ := info_parts info_u8p
  have Hi5 := Lib.hid hi5
  have Hz50 := Lib.hid hz50
  have Hz51 := Lib.hid hz51
  have Hz52 := Lib.hid hz52
  clear hi5 hz50 hz51 hz52
  obtain ⟨i33, hi33, hz330, hz331, hz332⟩ := info_parts info_bs
  have Hi33 := Lib.hid hi33
  have Hz330 := Lib.hid hz330
  have Hz331 := Lib.hid hz331
  have Hz332 := Lib.hid hz332
  clear hi33 hz330 hz331 hz332
  have HFo := Lib.hid (fun W => rfour_any s hs W)
  have HBz := Lib.hid (show Tryz.prog.built 25 [] = some (adC false z16) by kernel_rfl)
  have HSz := Lib.hid (show (Tryz.prog.info? 25).map (·.size) = some (adC false z16).size by rw [adC_size _ _ rfl]; exact adSize)
  have HK4 := Lib.hid (blk_second w)
  go_enter Tryz.func44, Tryz.ntmps44
  go_upto_region 2 with (first | ((with_reducible refine at_build 25 #[] ?_); refine wpList_build_eq 25 #[] (adC false z16) (by rfl) HBz.out (by rfl) ?_) | ((with_reducible refine at_store 25 (.tmp 4) (.tmp 20) ?_); refine wpList_store_blk 25 (.tmp 4) (.tmp 20) (w.heap.size + 1) 25 (adC false z16) (adC false z16) HK4.out (by rfl) (by rfl) (by rfl) (by rfl) HSz.out (by rfl) (by rfl) (by rfl) ?_; intro w1 hk1 hg1 hs1; have I1 := Lib.hid (RInv.first hk1 hg1); clear hk1 hg1 hs1))
  clear HK4
  go_wp2_with fail
  refine (HFo.out _).mono ?_
  rintro e w2 ⟨⟨v, rfl, hov, hnv⟩, b⟩
  have I2 := Lib.hid (I1.out.next b)
  clear b I1 HFo
  have hv := hnv hf
  subst hv
  have HF4 := Lib.hid hf
  clear hf hnv hov
  have hl : s.data.toList.length = s.size := rfl
  go_wp2_with fail
  go_loopw [7, 8] (fun c i wr => ∃ k : Nat, k ≤ s.size ∧ i = .int .i64 k ∧ wr = w2 ∧ ((c = .int .i64 (-1) ∧ Hid (∀ i, i < k → ¬ (s.data.toList[i]? = some 58 ∧ s.data.toList[i + 1]? = some 58))) ∨ (∃ m : Nat, c = .int .i64 m ∧ k = m + 1 ∧ m + 1 < s.size ∧ Hid ((s.data.toList[m]? = some 58 ∧ s.data.toList[m + 1]? = some 58) ∧ ∀ i, i < m → ¬ (s.data.toList[i]? = some 58 ∧ s.data.toList[i + 1]? = some 58))))) (fun _ i _ => s.size - (intOf i).toNat)
  case atStart => exact ⟨0, by omega, rfl, rfl, .inl ⟨rfl, Lib.hid (fun i h => by omega)⟩⟩
  case round =>
    obtain ⟨k, hk, rfl, rfl, h⟩ := hrel
    rcases h with ⟨rfl, HN⟩ | ⟨m, rfl, rfl, hm, HN⟩
    · by_cases hlt : k + 1 < s.size
      · have hlt' : (k : Int) + 1 < (s.size : Int) := by omega
        have e0 : s.data.toList[k]? = some s[k] := (List.getElem?_eq_getElem (by rw [hl]; omega)).trans rfl
        have e1 : s.data.toList[k + 1]? = some s[k + 1] := (List.getElem?_eq_getElem (by rw [hl]; omega)).trans rfl
        by_cases hp : s[k].toNat = 58 ∧ s[k + 1].toNat = 58
        · have c0 : ((s[k].toNat : Int) == 58) = true := by rw [hp.1]; rfl
          have c1 : ((s[k + 1].toNat : Int) == 58) = true := by rw [hp.2]; rfl
          have HP := Lib.hid (show (s.data.toList[k]? = some 58 ∧ s.data.toList[k + 1]? = some 58) from ⟨by rw [e0, show s[k] = 58 from UInt8.toNat_inj.1 hp.1], by rw [e1, show s[k + 1] = 58 from UInt8.toNat_inj.1 hp.2]⟩)
          clear e0 e1 hp
          go_wp2_with fail
          go_roundw
          case rel => exact ⟨k + 1, by omega, by go_num, trivial, .inr ⟨k, rfl, rfl, hlt, Lib.hid ⟨HP.out, HN.out⟩⟩⟩
          case measure => simp [intOf]; omega
        · have HP := Lib.hid (show ∀ i, i < k + 1 → ¬ (s.data.toList[i]? = some 58 ∧ s.data.toList[i + 1]? = some 58) from fun i hi => by
            by_cases e : i = k
            · subst e
              rintro ⟨h1, h2⟩
              rw [e0] at h1
              rw [e1] at h2
              injection h1 with h1
              injection h2 with h2
              exact hp ⟨by rw [h1]; rfl, by rw [h2]; rfl⟩
            · exact HN.out i (by omega))
          have hp' : (((s[k].toNat : Int) == 58) = false) ∨ (((s[k].toNat : Int) == 58) = true ∧ ((s[k + 1].toNat : Int) == 58) = false) := by
            by_cases h1 : s[k].toNat = 58
            · right
              refine ⟨by rw [h1]; rfl, ?_⟩
              rw [beq_eq_false_iff_ne]
              intro e
              exact hp ⟨h1, by omega⟩
            · left
              rw [beq_eq_false_iff_ne]
              omega
          clear e0 e1 hp HN
          rcases hp' with c0 | ⟨c0, c1⟩
          · go_wp2_with fail
            go_roundw
            case rel => exact ⟨k + 1, by omega, by go_num, trivial, .inl ⟨rfl, HP⟩⟩
            case measure => simp [intOf]; omega
          · go_wp2_with fail
            go_roundw
            case rel => exact ⟨k + 1, by omega, by go_num, trivial, .inl ⟨rfl, HP⟩⟩
            case measure => simp [intOf]; omega
      · have hlt' : ¬ (k : Int) + 1 < (s.size : Int) := by omega
        exfalso
        have h1 := cut_none (l := s.data.toList) (fun i hi => HN.out i (by rw [hl] at hi; omega))
        rw [h1] at hcu
        cases hcu
    · have hlt' : ¬ ((m : Int) < 0) := by omega
      have hcc := cut_at (l := s.data.toList) (by rw [hl]; exact hm) HN.out.1.1 HN.out.1.2 HN.out.2
      have hq' : ¬ (m : Int) + 1 + 1 < (s.size : Int) := by
        have hb2 : s.data.toList.drop (m + 2) = [] := by rw [hcc] at hbe; exact hbe
        have h1 : (s.data.toList.drop (m + 2)).length = 0 := by rw [hb2]; rfl
        rw [List.length_drop, hl] at h1
        omega
      have HP := Lib.hid (show PartsOf s.data.toList 2 [s.extract 0 m, s.extract (m + 2) s.size] from .inr ⟨rfl, by rw [hcc, extract_mkB, extract_mkB]; simp only [List.drop_zero, Nat.sub_zero]; rw [List.take_of_length_le (l := s.data.toList.drop (m + 2)) (by rw [List.length_drop, hl]; omega)], by rw [hcc]⟩)
      clear HN hcc
      have hm2 : (m : Int) + 2 ≤ (s.size : Int) := by omega
      have hm0' : (0 : Int) ≤ (m : Int) := by omega
      go_upto_region 17 with fail
      have HI2 := Lib.hid (I2.out.next ((Below.refl _ _).alloc (Nat.le_refl _) (.cells #[.string s] 9)))
      clear I2
      generalize wr.alloc (.cells #[.string s] 9) = wq at *
      have hm3 : m ≤ s.size := by omega
      have hm4 : m + 2 ≤ s.size := by omega
      have hm5 : (0 : Int) ≤ (m : Int) + 2 := by omega
      have hm6 : (m : Int) ≤ (s.size : Int) := by omega
      have hw64 : IntKind.i64.wrap ((m : Int) + 2) = (m : Int) + 2 := by rw [IntKind.wrap_i64]; omega
      refine wp_region_held_drew (S := fun _ => True) (by kernel_rfl) trivial (fun hHeld => ?_)
      refine wpAnyH_take (i := 0) (oi := _) (v := ?_) rfl (by kernel_rfl) (by kernel_rfl) (by kernel_rfl) (fun _ _ _ h => h) (Or.inl ⟨by rfl, ?_⟩) (by assumption) ?_
      case refine_2 => (intro w hSw; go_simp <;> with_reducible rfl)
      try simp only [List.getElem_toArray, List.getElem_cons_zero, Act.put, List.setIfInBounds_toArray, List.set_cons_zero, List.set_cons_succ]
      refine wpAnyH_take (i := 1) (oi := _) (v := ?_) rfl (by kernel_rfl) (by kernel_rfl) (by kernel_rfl) (fun _ _ _ h => h) (Or.inl ⟨by rfl, ?_⟩) (by assumption) ?_
      case refine_2 => (intro w hSw; go_simp <;> with_reducible rfl)
      try simp only [List.getElem_toArray, List.getElem_cons_zero, List.getElem_cons_succ, Act.put, List.setIfInBounds_toArray, List.set_cons_zero, List.set_cons_succ]
      refine wpAnyH_take (i := 2) (oi := _) (v := ?_) rfl (by kernel_rfl) (by kernel_rfl) (by kernel_rfl) (fun _ _ _ h => h) (Or.inl ⟨by rfl, ?_⟩) (by assumption) ?_
      case refine_2 => (intro w hSw; go_simp <;> with_reducible rfl)
      try simp only [List.getElem_toArray, List.getElem_cons_zero, List.getElem_cons_succ, Act.put, List.setIfInBounds_toArray, List.set_cons_zero, List.set_cons_succ]
      refine wpAnyH_take (i := 3) (oi := _) (v := ?_) rfl (by kernel_rfl) (by kernel_rfl) (by kernel_rfl) (fun _ _ _ h => h) (Or.inl ⟨by rfl, ?_⟩) (by assumption) ?_
      case refine_2 => (intro w hSw; go_simp <;> with_reducible rfl)
      try simp only [List.getElem_toArray, List.getElem_cons_zero, List.getElem_cons_succ, Act.put, List.setIfInBounds_toArray, List.set_cons_zero, List.set_cons_succ]
      refine wpAnyH_take (i := 4) (oi := _) (v := ?_) rfl (by kernel_rfl) (by kernel_rfl) (by kernel_rfl) (fun _ _ _ h => h) (Or.inl ⟨by rfl, ?_⟩) (by assumption) ?_
      case refine_2 => (intro w hSw; go_simp <;> with_reducible rfl)
      try simp only [List.getElem_toArray, List.getElem_cons_zero, List.getElem_cons_succ, Act.put, List.setIfInBounds_toArray, List.set_cons_zero, List.set_cons_succ]
      refine wpAnyH_take (i := 5) (oi := _) (v := ?_) rfl (by kernel_rfl) (by kernel_rfl) (by kernel_rfl) (fun _ _ _ h => h) (Or.inl ⟨by rfl, ?_⟩) (by assumption) ?_
      case refine_2 => (intro w hSw; go_simp <;> with_reducible rfl)
      try simp only [List.getElem_toArray, List.getElem_cons_zero, List.getElem_cons_succ, Act.put, List.setIfInBounds_toArray, List.set_cons_zero, List.set_cons_succ]
      refine wpAnyH_take (i := 6) (oi := _) (v := ?_) rfl (by kernel_rfl) (by kernel_rfl) (by kernel_rfl) (fun _ _ _ h => h) (Or.inl ⟨by rfl, ?_⟩) (by assumption) ?_
      case refine_2 => (intro w hSw; go_simp <;> with_reducible rfl)
      try simp only [List.getElem_toArray, List.getElem_cons_zero, List.getElem_cons_succ, Act.put, List.setIfInBounds_toArray, List.set_cons_zero, List.set_cons_succ]
      refine wpAnyH_ready (rs := [7]) (by kernel_rfl) (by simp) ?_
      refine AllReadyH.cons (o := _) rfl (fun K hK => ?_) AllReadyH.nil
      simp only [List.getElem_toArray, List.getElem_cons_zero, List.getElem_cons_succ]
      go_simp
      refine hK.out _ _ trivial (fun hHeld2 => ?_)
      clear hK K hHeld
      have hHeld := hHeld2
      clear hHeld2
      try simp only [List.getElem_toArray, List.getElem_cons_zero, List.getElem_cons_succ, Act.put, List.setIfInBounds_toArray, List.set_cons_zero, List.set_cons_succ]
      refine wpAnyH_take (i := 8) (oi := _) (v := ?_) rfl (by kernel_rfl) (by kernel_rfl) (by kernel_rfl) (fun _ _ _ h => h) (Or.inl ⟨by rfl, ?_⟩) (by assumption) ?_
      case refine_2 => (intro w hSw; go_simp <;> with_reducible rfl)
      try simp only [List.getElem_toArray, List.getElem_cons_zero, List.getElem_cons_succ, Act.put, List.setIfInBounds_toArray, List.set_cons_zero, List.set_cons_succ]
      refine wpAnyH_done (by kernel_rfl) ?_ _
      clear hHeld
      have HI3 := Lib.hid (HI2.out.next (below_drew ((Below.refl _ wq).alloc (Nat.le_refl _) (.cells #[.string (s.extract 0 m), .string (s.extract (m + 2) s.size)] 9))))
      obtain ⟨gp, hgp⟩ : ∃ gp, gp = wq.heap.size := ⟨_, rfl⟩
      obtain ⟨B, hBd⟩ : ∃ B, B = wq.heap.size + 1 := ⟨_, rfl⟩
      obtain ⟨ps, hps⟩ : ∃ ps, ps = [s.extract 0 m, s.extract (m + 2) s.size] := ⟨_, rfl⟩
      have HPO := Lib.hid (show PartsOf s.data.toList 2 ps by rw [hps]; exact HP.out)
      have hgpB := Lib.hid (show gp < B ∧ w.heap.size + 1 < B by have := HI2.out.size1; omega)
      have hB3 := Lib.hid (show B ≤ ((wq.alloc (.cells #[.string (s.extract 0 m), .string (s.extract (m + 2) s.size)] 9)).drew).heap.size by show B ≤ (wq.alloc (.cells #[.string (s.extract 0 m), .string (s.extract (m + 2) s.size)] 9)).heap.size; rw [World.size_alloc]; omega)
      have G0 := Lib.hid (show GInv w B gp 2 ps [] (.slice none 0 0) ((wq.alloc (.cells #[.string (s.extract 0 m), .string (s.extract (m + 2) s.size)] 9)).drew) from ⟨HI3.out, fun j hj => by
        show (wq.alloc (.cells #[.string (s.extract 0 m), .string (s.extract (m + 2) s.size)] 9)).cell? ⟨gp, j, none⟩ = _
        rw [hgp, hps, World.cell?_alloc_new]
        match j, hj with
        | 0, _ => rfl
        | 1, _ => rfl, ⟨[], OwnV.nil _ _, rfl, fun j v g e => by simp at e⟩, fun j g e => by simp at e⟩)
      have hmt : ((m : Int) + 2).toNat = m + 2 := by omega
      rw [hmt, ← hgp]
      generalize (wq.alloc (.cells #[.string (s.extract 0 m), .string (s.extract (m + 2) s.size)] 9)).drew = W3 at *
      clear HI3 HI2 HP hBd hps hgp hmt hm3 hm4 hm5 hm6 hw64 hm2
      go_wp2_with fail
      have HFM := Lib.hid (show f4 (mkB s.data.toList) = none by rw [mkB_of]; exact HF4.out)
      have hpl : ps.length = 2 := HPO.out.len
      go_loopg [10, 11, 12] 2 (fun g av mv kv wr3 => ∃ (k : Nat) (gss : List (List Nat)), k + g = 2 ∧ gss.length = k ∧ kv = .int .i64 k ∧ mv = .int .i64 ((2 * (gss.map List.length).sum : Nat) : Int) ∧ (gss.map List.length).sum ≤ 10000000000 * k ∧ Hid (GInv w B gp 2 ps gss av wr3) ∧ Hid (B ≤ wr3.heap.size))
      case atStart => exact ⟨0, [], by omega, rfl, rfl, rfl, by simp, G0, hB3⟩
      case round =>
        obtain ⟨k, gss, hkg, hgl, rfl, rfl, hsum, G, HBw⟩ := hrel
        cases gk with
        | zero =>
          obtain rfl : k = 2 := by omega
          obtain ⟨g0, g1, rfl⟩ : ∃ g0 g1, gss = [g0, g1] := by
            match gss, hgl with
            | [g0, g1], _ => exact ⟨_, _, rfl⟩
          have HS0 := Lib.hid (G.out.ok 0 g0 rfl)
          have HS1 := Lib.hid (G.out.ok 1 g1 rfl)
          obtain ⟨vs, hvs1, hvs2, hvs3⟩ := G.out.vals
          obtain ⟨ga, ca, rfl, hga⟩ := own_at hvs1 (n := 2) hvs2 (by omega)
          have hca1 := hvs1.rdv.2.1
          have hca2 := hvs1.rdv.2.2.1
          obtain ⟨v0, hv0⟩ : ∃ v, vs[0]? = some v := ⟨_, List.getElem?_eq_getElem (by rw [hvs2]; simp)⟩
          have ho0 := hvs3 0 v0 g0 hv0 rfl
          obtain ⟨A0, c0, rfl, hr0, ha0⟩ := ho0.form
          rw [bv_length, flat_len] at hr0 hv0
          obtain ⟨v1, hv1⟩ : ∃ v, vs[1]? = some v := ⟨_, List.getElem?_eq_getElem (by rw [hvs2]; simp)⟩
          have ho1 := hvs3 1 v1 g1 hv1 rfl
          obtain ⟨A1, c1, rfl, hr1, ha1⟩ := ho1.form
          rw [bv_length, flat_len] at hr1 hv1
          have qa0 : wr.cell? ⟨ga, 0, none⟩ = some (.slice A0 (2 * g0.length) c0) := (hvs1.cellAt 0 (by omega)).trans hv0
          have qa1 : wr.cell? ⟨ga, 1, none⟩ = some (.slice A1 (2 * g1.length) c1) := (hvs1.cellAt 1 (by omega)).trans hv1
          have hgaB : w.heap.size + 1 ≠ ga := by have h2 := hgpB.out; omega
          have hA0 : ∀ b off, A0 = some ⟨b, off, none⟩ → b ≠ w.heap.size + 1 := fun b off e => by
            rcases ha0 with h | ⟨g, h, hb, _⟩
            · rw [h] at e; cases e
            · rw [h] at e; injection e with e; injection e with e; have h2 := hgpB.out; omega
          have hA1 : ∀ b off, A1 = some ⟨b, off, none⟩ → b ≠ w.heap.size + 1 := fun b off e => by
            rcases ha1 with h | ⟨g, h, hb, _⟩
            · rw [h] at e; cases e
            · rw [h] at e; injection e with e; injection e with e; have h2 := hgpB.out; omega
          have HQ0 := Lib.hid qa0
          have HQ1 := Lib.hid qa1
          have HR1 := Lib.hid hr1
          have HA1 := Lib.hid hA1
          have HR0 := Lib.hid hr0
          have HA0 := Lib.hid hA0
          have hc01 := hr0.2.1
          have hc02 := hr0.2.2.1
          have hc11 := hr1.2.1
          have hc12 := hr1.2.2.1
          clear hvs1 hvs3 hvs2 hv0 ho0 hr0 ha0 qa0 hA0 hv1 ho1 hr1 ha1 qa1 hA1
          simp only [List.map_cons, List.map_nil, List.sum_cons, List.sum_nil, Nat.add_zero] at hsum ⊢
          have HL0 := Lib.hid (flat_len g0)
          obtain ⟨n0, hn0⟩ : ∃ n0, n0 = 2 * g0.length := ⟨_, rfl⟩
          have HL1 := Lib.hid (flat_len g1)
          obtain ⟨n1, hn1⟩ : ∃ n1, n1 = 2 * g1.length := ⟨_, rfl⟩
          rw [← hn1] at HQ1 HR1 HL1 hc11
          rw [← hn0] at HQ0 HR0 HL0 hc01
          rw [show 2 * (g0.length + g1.length) = n0 + n1 by omega]
          by_cases hbd : n0 + n1 < 16
          rotate_left
          · have hb1 : (14 : Int) < (n0 : Int) + (n1 : Int) := by omega
            have hm0 : ¬ (m : Int) < 0 := by omega
            have hm1 : (0 : Int) ≤ (m : Int) := by omega
            have HRB := Lib.hid (show rparseV s.data.toList = .tuple #[.agg (adC false z16), .bool false] by rw [rparseV, parts_long2 HPO.out HFM.out HS0.out HS1.out (by omega)])
            have R7 := Lib.hid G.out.r
            clear G hn0 hn1
            go_wp2_with (first | (refine wpList_load_blk 25 (.tmp 4) (w.heap.size + 1) 25 (adC false z16) _ R7.out.adr (by rfl) (by rfl) Tryz.underlying25 rfl HSz.out (by rfl) ?_) | ((with_reducible refine at_store 25 (.tmp 2) (.tmp 164) ?_); refine wpList_store_blk 25 (.tmp 2) (.tmp 164) w.heap.size 25 (adC false z16) (adC false z16) R7.out.res (by rfl) (by rfl) (by rfl) (by rfl) HSz.out (by rfl) (by rfl) (by rfl) ?_; intro w9 hk9 hg9 hs9; have V9 := Lib.hid hk9; have G9 := Lib.hid (And.intro hg9 hs9); clear hk9 hg9 hs9))
            exact bodyPost_ret (v := .tuple #[.agg (adC false z16), .bool false]) (results_rad Tryz.results44 _ _ w.heap.size (adC false z16) rfl V9.out rfl) rfl ⟨by rw [HRB.out], R7.out.bel.grown G9.out.1 R7.out.bel.size (fun k e => by cases e; exact Nat.le_refl _)⟩

          · have R0 := Lib.hid G.out.r
            have HP2 := Lib.hid (show rparseV s.data.toList = .tuple #[.agg (adC true ((fillB (flat g0) n0).take (16 - n1) ++ flat g1)), .bool true] by rw [rparseV, parts_good2 HPO.out HFM.out HS0.out HS1.out (by omega), ← hn0, ← hn1])
            have hb1 : ¬ (14 : Int) < (n0 : Int) + (n1 : Int) := by omega
            have hm0 : ¬ (m : Int) < 0 := by omega
            have hm1 : (0 : Int) ≤ (m : Int) := by omega
            clear G hsum hbd hn0 hn1
            obtain ⟨w5, hw5⟩ : ∃ W, W = wr := ⟨_, rfl⟩
            rw [← hw5] at HQ0 HR0 HQ1 HR1
            go_wp2_with fail
            go_loopw [17] (fun i wr5 => ∃ k : Nat, k ≤ n0 ∧ i = .int .i64 k ∧ Hid (RInv w false (fillB (flat g0) k) wr5) ∧ Hid (∀ b o, b ≠ w.heap.size + 1 → wr5.cell? ⟨b, o, none⟩ = w5.cell? ⟨b, o, none⟩)) (fun i _ => n0 - (intOf i).toNat)
            case atStart => exact ⟨0, by omega, rfl, Lib.hid (by rw [show fillB (flat g0) 0 = z16 by rw [fillB, List.take_zero]; rfl]; exact R0.out), Lib.hid (fun b o _ => by rw [hw5])⟩
            case round =>
              clear R0
              obtain ⟨k, hk, rfl, I, HS⟩ := hrel
              have q0 : wr.cell? ⟨ga, 0, none⟩ = some (.slice A0 (n0) c0) := (HS.out ga 0 hgaB.symm).trans HQ0.out
              have hfl : (flat g0).length = n0 := HL0.out
              by_cases hlt : k < n0
              · obtain ⟨b0, off0, rfl, _, hcc⟩ := HR0.out.at_ (by omega)
                have hb0 := HA0.out _ _ rfl
                have hkl : k < (flat g0).length := by omega
                have q1 : wr.cell? ⟨b0, off0 + k, none⟩ = some (.int .u8 (((flat g0)[k]'hkl).toNat : Int)) := by
                  rw [HS.out _ _ hb0, hcc k hlt, bv, List.getElem?_map, List.getElem?_eq_getElem hkl]; rfl
                have q2 := (I.out.adr.cell (1 + k)).trans (adC_get false (fillB (flat g0) k) k (by rw [fillB_len _ k (by omega) (by omega)]; omega))
                have f2 := I.out.adr.frozen (1 + k)
                have HI := Lib.hid (show RInv w false (fillB (flat g0) (k + 1)) (wr.setCell ⟨w.heap.size + 1, 1 + k, none⟩ (.int .u8 (((flat g0)[k]'hkl).toNat : Int))) by
                  rw [← fillB_step (flat g0) k hkl (by omega)]; exact I.out.set_ k _)
                have HC2 := Lib.hid (show ∀ b o, b ≠ w.heap.size + 1 → (wr.setCell ⟨w.heap.size + 1, 1 + k, none⟩ (.int .u8 (((flat g0)[k]'hkl).toNat : Int))).cell? ⟨b, o, none⟩ = w5.cell? ⟨b, o, none⟩ from fun b o hb => by
                  rw [cell_far hb]; exact HS.out b o hb)
                have hlt' : (k : Int) < (n0 : Int) := by omega
                have hk16 : (k : Int) < 16 := by omega
                clear I HS hcc
                generalize ((flat g0)[k]'hkl).toNat = x at *
                go_wp2_with fail
                go_roundw
                case rel => exact ⟨k + 1, by omega, by go_num, HI, HC2⟩
                case measure => simp [intOf]; omega
              · obtain rfl : n0 = k := by omega
                have hltf : ¬ (n0 : Int) < (n0 : Int) := by omega
                have ql : wr.cell? ⟨ga, 1, none⟩ = some (.slice A1 (n1) c1) := (HS.out ga 1 hgaB.symm).trans HQ1.out
                have HF0 := Lib.hid (fillB_len (flat g0) (n0) (by omega) (by omega))
                have hfl1 : (flat g1).length = n1 := HL1.out
                have R1 := Lib.hid I.out
                obtain ⟨w6, hw6⟩ : ∃ W, W = wr := ⟨_, rfl⟩
                have HS1' := Lib.hid (show ∀ b o, b ≠ w.heap.size + 1 → w6.cell? ⟨b, o, none⟩ = w5.cell? ⟨b, o, none⟩ by rw [hw6]; exact HS.out)
                have hF1 := HF0.out
                clear I HS
                obtain ⟨FB, hFB⟩ : ∃ FB, FB = fillB (flat g0) (n0) := ⟨_, rfl⟩
                rw [← hFB] at R1 HF0 HP2 hF1
                go_wp2_with fail
                go_loopw [19] (fun i wr5 => ∃ k : Nat, k ≤ n1 ∧ i = .int .i64 k ∧ Hid (RInv w false (FB.take (16 - n1) ++ (flat g1).take k ++ FB.drop (16 - n1 + k)) wr5) ∧ Hid (∀ b o, b ≠ w.heap.size + 1 → wr5.cell? ⟨b, o, none⟩ = w5.cell? ⟨b, o, none⟩)) (fun i _ => n1 - (intOf i).toNat)
                case atStart => exact ⟨0, by omega, rfl, Lib.hid (by rw [List.take_zero, List.append_nil, Nat.add_zero, List.take_append_drop]; exact R1.out), Lib.hid (by rw [← hw6]; exact HS1'.out)⟩
                case round =>
                  clear R1 ql
                  obtain ⟨k, hk, rfl, I, HS⟩ := hrel
                  by_cases hlt : k < n1
                  · obtain ⟨b0, off0, rfl, _, hcc⟩ := HR1.out.at_ (by omega)
                    have hb0 := HA1.out _ _ rfl
                    have hkl : k < (flat g1).length := by omega
                    have q1 : wr.cell? ⟨b0, off0 + k, none⟩ = some (.int .u8 (((flat g1)[k]'hkl).toNat : Int)) := by
                      rw [HS.out _ _ hb0, hcc k hlt, bv, List.getElem?_map, List.getElem?_eq_getElem hkl]; rfl
                    have hL : (FB.take (16 - n1) ++ (flat g1).take k ++ FB.drop (16 - n1 + k)).length = 16 := by
                      rw [List.length_append, List.length_append, List.length_take, List.length_take, List.length_drop]; omega
                    have q2 := (I.out.adr.cell (1 + (16 - n1 + k))).trans (adC_get false _ (16 - n1 + k) (by rw [hL]; omega))
                    have f2 := I.out.adr.frozen (1 + (16 - n1 + k))
                    have HI := Lib.hid (show RInv w false (FB.take (16 - n1) ++ (flat g1).take (k + 1) ++ FB.drop (16 - n1 + (k + 1))) (wr.setCell ⟨w.heap.size + 1, 1 + (16 - n1 + k), none⟩ (.int .u8 (((flat g1)[k]'hkl).toNat : Int))) by
                      rw [← put_step FB (flat g1) (16 - n1) k hkl (by omega)]; exact I.out.set_ _ _)
                    have HC2 := Lib.hid (show ∀ b o, b ≠ w.heap.size + 1 → (wr.setCell ⟨w.heap.size + 1, 1 + (16 - n1 + k), none⟩ (.int .u8 (((flat g1)[k]'hkl).toNat : Int))).cell? ⟨b, o, none⟩ = w5.cell? ⟨b, o, none⟩ from fun b o hb => by
                      rw [cell_far hb]; exact HS.out b o hb)
                    have hlt' : (k : Int) < (n1 : Int) := by omega
                    have hnn : ((16 - n1 + k : Nat) : Int) = 16 - (n1 : Int) + (k : Int) := by omega
                    obtain ⟨J, hJ⟩ : ∃ J : Nat, J = 16 - n1 + k := ⟨_, rfl⟩
                    rw [← hJ] at q2 f2 HI HC2 hnn
                    have hJi : 16 - (n1 : Int) + (k : Int) = (J : Int) := hnn.symm
                    have hJ0 : (J : Int) < 16 := by omega
                    have hJ1 : (0 : Int) ≤ 16 - (n1 : Int) := by omega
                    clear I HS hcc hL hnn
                    clear hJ
                    generalize ((flat g1)[k]'hkl).toNat = x at *
                    go_wp2_with fail
                    go_roundw
                    case rel => exact ⟨k + 1, by omega, by go_num, HI, HC2⟩
                    case measure => simp [intOf]; omega
                  · obtain rfl : n1 = k := by omega
                    have hltg : ¬ (n1 : Int) < (n1 : Int) := by omega
                    have HFin := Lib.hid (show FB.take (16 - n1) ++ (flat g1).take (n1) ++ FB.drop (16 - n1 + n1) = FB.take (16 - n1) ++ flat g1 by
                      rw [List.take_of_length_le (by omega : (flat g1).length ≤ n1), List.drop_eq_nil_of_le (by omega), List.append_nil])
                    rw [HFin.out] at I
                    have hLf : (FB.take (16 - n1) ++ flat g1).length = 16 := by rw [List.length_append, List.length_take]; omega
                    generalize FB.take (16 - n1) ++ flat g1 = lf at *
                    have q0 := I.out.adr.cell 0
                    have f0 := I.out.adr.frozen 0
                    rw [show (adC false lf)[0]? = some (.bool false) from rfl] at q0
                    have hst := I.out.adr.set_ 0 (.bool true)
                    rw [show (adC false lf).setIfInBounds 0 (.bool true) = adC true lf from rfl] at hst
                    have R3 := Lib.hid hst
                    have R4 := Lib.hid (I.out.res.far (p := ⟨w.heap.size + 1, 0, none⟩) (by show w.heap.size ≠ w.heap.size + 1; omega) (.bool true))
                    have B4 := Lib.hid (show Below w.heap.size w (wr.setCell ⟨w.heap.size + 1, 0, none⟩ (.bool true)) from I.out.bel.setCell (by show w.heap.size ≤ w.heap.size + 1; omega) _)
                    have HS2 := Lib.hid (show (Tryz.prog.info? 25).map (·.size) = some (adC true lf).size by rw [adC_size _ _ hLf]; exact adSize)
                    have HS3 := Lib.hid (show (adC false z16).size = (adC true lf).size by rw [adC_size true lf hLf]; rfl)
                    have HS4 := Lib.hid (adC_size true lf hLf)
                    clear hst I HS
                    go_wp2_with (first | (refine wpList_load_blk 25 (.tmp 4) (w.heap.size + 1) 25 (adC true lf) _ R3.out (by rfl) (by rfl) Tryz.underlying25 rfl HS2.out (by rfl) ?_) | ((with_reducible refine at_store 25 (.tmp 2) (.tmp 206) ?_); refine wpList_store_blk 25 (.tmp 2) (.tmp 206) w.heap.size 25 (adC false z16) (adC true lf) R4.out (by rfl) (by rfl) (by rfl) (by rfl) HS2.out HS3.out (adC_one _ _) (by rfl) ?_; intro w9 hk9 hg9 hs9; have V9 := Lib.hid hk9; have G9 := Lib.hid (And.intro hg9 hs9); clear hk9 hg9 hs9))
                    exact bodyPost_ret (v := .tuple #[.agg (adC true lf), .bool true]) (results_rad Tryz.results44 _ _ w.heap.size (adC true lf) rfl V9.out HS4.out) rfl ⟨by rw [HP2.out], B4.out.grown G9.out.1 B4.out.size (fun k e => by cases e; exact Nat.le_refl _)⟩

        | succ g3 =>
          by_cases hk0 : k = 0
          · obtain rfl : k = 0 := by omega
            have hkP : 0 < ps.length := by rw [hpl]; omega
            have q : wr.cell? ⟨gp, 0, none⟩ = some (.string ps[0]) := by
              have e := G.out.parts 0 (by omega)
              rw [List.getElem?_map, List.getElem?_eq_getElem hkP] at e
              exact e
            have hxx := Lib.hid (List.getElem?_eq_getElem hkP)
            have hxs : ps[0].size < 4294967281 := by
              have := HPO.out.small _ (List.getElem_mem hkP)
              omega
            generalize ps[0] = x at *
            have HSp := Lib.hid (fun W => rsplit_any 58 x hxs W)
            have HSG := Lib.hid (show x.data.toList ≠ [] → someG x false = someA false [] (partsB 58 x) from fun h => by rw [someG, if_neg h])
            have HPs := Lib.hid (show ∀ y ∈ partsB 58 x, y.size < 4294967281 from fun y hy => by
              have := parts_size 58 x y hy
              omega)
            have hqn := parts_len 58 x
            have hqc := parts_count 58 x
            have HN1 := Lib.hid (show 1 ≤ (partsB 58 x).length by omega)
            go_wp2_with fail
            refine (HSp.out _).mono ?_
            rintro e w4 ⟨vl, rfl, hol, b⟩
            obtain ⟨gl, cl, rfl, hglb⟩ := own_at hol (n := (partsB 58 x).length) (by simp) (by omega)
            have HC := Lib.hid (fun (j : Nat) (hj : j < (partsB 58 x).length) => hol.cellAt j hj)
            have hcl1 := hol.rdv.2.1
            have hcl2 := hol.rdv.2.2.1
            have G4 := Lib.hid (G.out.next hpl b)
            have hB4 := Lib.hid (show B ≤ w4.heap.size from Nat.le_trans HBw.out b.size)
            have HQ4 := Lib.hid (cell_later b q)
            generalize hqs : partsB 58 x = qs at *
            obtain ⟨N, hN⟩ : ∃ N, N = qs.length := ⟨_, rfl⟩
            have HN0 := Lib.hid hN.symm
            rw [← hN] at HN1 hqn HC hcl1 ⊢
            clear b hol HSp q hqc G hN hqs
            go_wp2_with fail
            go_loopg [13, 15] N (fun g6 ov iv wr6 => ∃ (i : Nat) (acc : List Nat), i + g6 = N ∧ iv = .int .i64 i ∧ acc.length ≤ 2 * i ∧ Hid (x.data.toList = [] → i = 0 ∧ acc = []) ∧ Hid (someA false [] qs = someA false acc (qs.drop i)) ∧ Hid (Below w4.heap.size w4 wr6 ∧ OwnV 5 wr6 w4.heap.size ov (bv (flat acc))))
            case atStart => exact ⟨0, [], by omega, rfl, by simp, Lib.hid (fun _ => ⟨rfl, rfl⟩), Lib.hid rfl, Lib.hid ⟨Below.refl _ _, OwnV.nil _ _⟩⟩
            case round =>
              obtain ⟨i, acc, hig, rfl, hal, HE, HA, J⟩ := hrel
              have hB6 := Lib.hid (Nat.le_trans hB4.out J.out.1.size)
              have qx := cell_later J.out.1 HQ4.out
              by_cases hx0 : x.data.toList = []
              · obtain ⟨rfl, rfl⟩ := HE.out hx0
                have c0 : (x.toList == ([] : List UInt8)) = true := by rw [ByteArray.toList_eq, hx0]; rfl
                have c1 : x.toList.isEmpty = true := by rw [ByteArray.toList_eq, hx0]; rfl
                have c2 : (([] : List UInt8) == x.toList) = true := by rw [ByteArray.toList_eq, hx0]; rfl
                have c3 : x.toList = [] := by rw [ByteArray.toList_eq, hx0]
                have hN0 : (0 : Int) < (N : Int) := by have := HN1.out; omega
                obtain ⟨acc, hacc⟩ : ∃ acc : List Nat, acc = [] := ⟨_, rfl⟩
                rw [← hacc] at J
                have hal : acc.length ≤ 2 := by rw [hacc]; simp
                have hsg : someG x false = some acc := by rw [someG, if_pos hx0, hacc]
                clear hacc
                have hfl : (flat acc).length = 2 * acc.length := flat_len acc
                have G5 := Lib.hid (G4.out.next hpl J.out.1)
                obtain ⟨vs, hvs1, hvs2, hvs3⟩ := G5.out.vals
                have HV1 := Lib.hid hvs1
                have HV3 := Lib.hid hvs3
                have hvl : vs.length = 0 := hvs2.trans hgl
                obtain ⟨Ao, co, rfl, hro, hao⟩ := OwnV.form J.out.2
                have HO := Lib.hid J.out.2
                rw [bv_length, hfl] at HO ⊢
                have hnb : ((2 * acc.length : Nat) : Int) ≤ 40000000000 := by omega
                have hco1 := hro.2.1
                have hco2 := hro.2.2.1
                rw [bv_length, hfl] at hco1
                have HG := Lib.hid (show ∃ y, ps[gss.length]? = some y ∧ someG y (decide (gss.length + 1 = 2)) = some acc from ⟨x, by rw [hgl]; exact hxx.out, by rw [hgl]; exact hsg⟩)
                have HBg := Lib.hid (show ∀ gb, u10.ownBlock = some gb → gp ≠ gb ∧ w.heap.size + 1 < gb from fun gb e => by
                  have h1 := (hvs1.blk_lt e).1
                  have h2 := hgpB.out
                  exact ⟨by omega, by omega⟩)
                clear hvs1 hvs3 hro hao J hfl
                go_wp2_with (at_builtin; refine wpList_append_litB wr (by rfl) (.tmp 142) (.tmp 144) 118 63 (by rfl) B i33 _ 24 Tryz.underlying118 Hi33.out Hz330.out Hz331.out Hz332.out rfl _ vs (by rfl) HV1.out [Value.slice Ao (2 * acc.length) co] 1 rfl (by rfl) (by simp [Value.oneCell']) _ (by rfl) (by rw [hvl]; omega) (by omega) hB6.out ?_; intro av' w7 ho7 hb7 hg7; have hsz7 := hg7.size; have G7 := Lib.hid (GInv.add G5.out hpl hB4.out HV1.out hvs2 HV3.out HO.out HG.out ho7 hg7 HBg.out); clear ho7 hb7 hg7)
                go_roundg g3
                case measure => omega
                case rel => exact ⟨1, gss ++ [acc], by omega, by simp [hgl], by go_num, by simp; omega, by simp; omega, G7, Lib.hid (by have h1 := hB6.out; simp at hsz7; omega)⟩
              · cases gk with
                | zero =>
                  obtain rfl : i = N := by omega
                  have hsg : someG x false = some acc := by rw [HSG.out hx0, HA.out, ← HN0.out, List.drop_length]; rfl
                  have hNN : ¬ (i : Int) < (i : Int) := by omega
                  clear HA HSG
                  have hfl : (flat acc).length = 2 * acc.length := flat_len acc
                  have G5 := Lib.hid (G4.out.next hpl J.out.1)
                  obtain ⟨vs, hvs1, hvs2, hvs3⟩ := G5.out.vals
                  have HV1 := Lib.hid hvs1
                  have HV3 := Lib.hid hvs3
                  have hvl : vs.length = 0 := hvs2.trans hgl
                  obtain ⟨Ao, co, rfl, hro, hao⟩ := OwnV.form J.out.2
                  have HO := Lib.hid J.out.2
                  rw [bv_length, hfl] at HO ⊢
                  have hnb : ((2 * acc.length : Nat) : Int) ≤ 40000000000 := by omega
                  have hco1 := hro.2.1
                  have hco2 := hro.2.2.1
                  rw [bv_length, hfl] at hco1
                  have HG := Lib.hid (show ∃ y, ps[gss.length]? = some y ∧ someG y (decide (gss.length + 1 = 2)) = some acc from ⟨x, by rw [hgl]; exact hxx.out, by rw [hgl]; exact hsg⟩)
                  have HBg := Lib.hid (show ∀ gb, u10.ownBlock = some gb → gp ≠ gb ∧ w.heap.size + 1 < gb from fun gb e => by
                    have h1 := (hvs1.blk_lt e).1
                    have h2 := hgpB.out
                    exact ⟨by omega, by omega⟩)
                  clear hvs1 hvs3 hro hao J hfl
                  go_wp2_with (at_builtin; refine wpList_append_litB wr (by rfl) (.tmp 142) (.tmp 144) 118 63 (by rfl) B i33 _ 24 Tryz.underlying118 Hi33.out Hz330.out Hz331.out Hz332.out rfl _ vs (by rfl) HV1.out [Value.slice Ao (2 * acc.length) co] 1 rfl (by rfl) (by simp [Value.oneCell']) _ (by rfl) (by rw [hvl]; omega) (by omega) hB6.out ?_; intro av' w7 ho7 hb7 hg7; have hsz7 := hg7.size; have G7 := Lib.hid (GInv.add G5.out hpl hB4.out HV1.out hvs2 HV3.out HO.out HG.out ho7 hg7 HBg.out); clear ho7 hb7 hg7)
                  go_roundg g3
                  case measure => omega
                  case rel => exact ⟨1, gss ++ [acc], by omega, by simp [hgl], by go_num, by simp; omega, by simp; omega, G7, Lib.hid (by have h1 := hB6.out; simp at hsz7; omega)⟩
                | succ g6 =>
                  have hNi : i < N := by omega
                  have hql : i < qs.length := by rw [HN0.out]; exact hNi
                  have qy : wr.cell? ⟨gl, i, none⟩ = some (.string qs[i]) := by
                    have e := HC.out i hNi
                    rw [List.getElem?_map, List.getElem?_eq_getElem hql] at e
                    exact cell_later J.out.1 e
                  have hys := HPs.out _ (List.getElem_mem hql)
                  have hst := someA_drop false qs i hql acc
                  generalize qs[i] = y at *
                  have HHx := Lib.hid (fun W => hex_any y hys W)
                  have hi' : (i : Int) < (N : Int) := by omega
                  have d0 : (x.toList == ([] : List UInt8)) = false := by rw [ByteArray.toList_eq, beq_eq_false_iff_ne]; exact hx0
                  have d1 : x.toList.isEmpty = false := by
                    rw [ByteArray.toList_eq]
                    cases hc : x.data.toList with
                    | nil => exact absurd hc hx0
                    | cons a b => rfl
                  have d2 : (([] : List UInt8) == x.toList) = false := by rw [ByteArray.toList_eq, beq_eq_false_iff_ne]; exact fun e => hx0 e.symm
                  have HSt := Lib.hid (show someA false acc (qs.drop i) = if grpB y then someA false (acc ++ [grpN y]) (qs.drop (i + 1)) else none by rw [hst]; rfl)
                  clear hst
                  go_wp2_with fail
                  refine (HHx.out _).mono ?_
                  rintro e wx ⟨rfl, hwx⟩
                  obtain rfl := hwx.symm
                  rw [hexV]
                  cases hgr : grpB y with
                  | false =>
                    have HNo := Lib.hid (show someG x false = none by rw [HSG.out hx0, HA.out, HSt.out, hgr]; rfl)
                    rw [if_neg Bool.false_ne_true]
                    clear hgr HSt HA
                    have HRB := Lib.hid (parseA_bad HPO.out HFM.out hxx.out (show someG x (decide (0 + 1 = 2)) = none from HNo.out))
                    have R7 := Lib.hid ((G4.out.next hpl J.out.1).r)
                    clear J
                    go_wp2_with (first | (refine wpList_load_blk 25 (.tmp 4) (w.heap.size + 1) 25 (adC false z16) _ R7.out.adr (by rfl) (by rfl) Tryz.underlying25 rfl HSz.out (by rfl) ?_) | ((with_reducible refine at_store 25 (.tmp 2) (.tmp 132) ?_); refine wpList_store_blk 25 (.tmp 2) (.tmp 132) w.heap.size 25 (adC false z16) (adC false z16) R7.out.res (by rfl) (by rfl) (by rfl) (by rfl) HSz.out (by rfl) (by rfl) (by rfl) ?_; intro w9 hk9 hg9 hs9; have V9 := Lib.hid hk9; have G9 := Lib.hid (And.intro hg9 hs9); clear hk9 hg9 hs9))
                    exact bodyPost_ret (v := .tuple #[.agg (adC false z16), .bool false]) (results_rad Tryz.results44 _ _ w.heap.size (adC false z16) rfl V9.out rfl) rfl ⟨by rw [HRB.out], R7.out.bel.grown G9.out.1 R7.out.bel.size (fun k e => by cases e; exact Nat.le_refl _)⟩
                  | true =>
                    have HA2 := Lib.hid (show someA false [] qs = someA false (acc ++ [grpN y]) (qs.drop (i + 1)) by rw [HA.out, HSt.out, hgr]; rfl)
                    have hgn := grpN_lt hgr
                    rw [if_pos rfl]
                    have HFl := Lib.hid (show flat (acc ++ [grpN y]) = flat acc ++ [UInt8.ofNat (grpN y / 256), UInt8.ofNat (grpN y % 256)] by rw [flat_append]; rfl)
                    clear hgr HSt HA
                    generalize grpN y = n at *
                    have hw1 : IntKind.u8.wrap ((n : Int) / 256) = ((UInt8.ofNat (n / 256)).toNat : Int) := by
                      rw [UInt8.toNat_ofNat']; simp [IntKind.wrap, IntKind.bits, IntKind.signed]
                    have hw2 : IntKind.u8.wrap ((n : Int) % 256) = ((UInt8.ofNat (n % 256)).toNat : Int) := by
                      rw [UInt8.toNat_ofNat']; simp [IntKind.wrap, IntKind.bits, IntKind.signed]
                    generalize UInt8.ofNat (n / 256) = c0 at *
                    generalize UInt8.ofNat (n % 256) = c1 at *
                    go_wp2_with (at_builtin; refine wpList_append_lit wr (by rfl) (.tmp 133) (.tmp 140) 63 5 (by rfl) w4.heap.size i5 _ 1 Tryz.underlying63 Hi5.out Hz50.out Hz51.out Hz52.out rfl _ (bv (flat acc)) (by rfl) J.out.2 (bv [c0, c1]) 2 rfl (by rfl) (bv_one _) _ (by rfl) (by rw [bv_length, flat_len]; omega) (by omega) J.out.1.size ?_; intro v' w5 ho hb5 hg5; have J5 := Lib.hid (And.intro (J.out.1.trans (((Below.refl _ wr).alloc J.out.1.size _).trans hb5)) ho); clear ho hb5 hg5)
                    go_roundg g6
                    case measure => omega
                    case rel => exact ⟨i + 1, acc ++ [n], by omega, by go_num, by simp; omega, Lib.hid (fun h => absurd h hx0), HA2, Lib.hid ⟨J5.out.1, by rw [HFl.out, bv_append]; exact J5.out.2⟩⟩

          · obtain rfl : k = 1 := by omega
            have hkP : 1 < ps.length := by rw [hpl]; omega
            have q : wr.cell? ⟨gp, 1, none⟩ = some (.string ps[1]) := by
              have e := G.out.parts 1 (by omega)
              rw [List.getElem?_map, List.getElem?_eq_getElem hkP] at e
              exact e
            have hxx := Lib.hid (List.getElem?_eq_getElem hkP)
            have hxs : ps[1].size < 4294967281 := by
              have := HPO.out.small _ (List.getElem_mem hkP)
              omega
            generalize ps[1] = x at *
            have HSp := Lib.hid (fun W => rsplit_any 58 x hxs W)
            have HSG := Lib.hid (show x.data.toList ≠ [] → someG x true = someA true [] (partsB 58 x) from fun h => by rw [someG, if_neg h])
            have HPs := Lib.hid (show ∀ y ∈ partsB 58 x, y.size < 4294967281 from fun y hy => by
              have := parts_size 58 x y hy
              omega)
            have hqn := parts_len 58 x
            have hqc := parts_count 58 x
            have HN1 := Lib.hid (show 1 ≤ (partsB 58 x).length by omega)
            go_wp2_with fail
            refine (HSp.out _).mono ?_
            rintro e w4 ⟨vl, rfl, hol, b⟩
            obtain ⟨gl, cl, rfl, hglb⟩ := own_at hol (n := (partsB 58 x).length) (by simp) (by omega)
            have HC := Lib.hid (fun (j : Nat) (hj : j < (partsB 58 x).length) => hol.cellAt j hj)
            have hcl1 := hol.rdv.2.1
            have hcl2 := hol.rdv.2.2.1
            have G4 := Lib.hid (G.out.next hpl b)
            have hB4 := Lib.hid (show B ≤ w4.heap.size from Nat.le_trans HBw.out b.size)
            have HQ4 := Lib.hid (cell_later b q)
            generalize hqs : partsB 58 x = qs at *
            obtain ⟨N, hN⟩ : ∃ N, N = qs.length := ⟨_, rfl⟩
            have HN0 := Lib.hid hN.symm
            rw [← hN] at HN1 hqn HC hcl1 ⊢
            clear b hol HSp q hqc G hN hqs
            go_wp2_with fail
            go_loopg [13, 15] N (fun g6 ov iv wr6 => ∃ (i : Nat) (acc : List Nat), i + g6 = N ∧ iv = .int .i64 i ∧ acc.length ≤ 2 * i ∧ Hid (x.data.toList = [] → i = 0 ∧ acc = []) ∧ Hid (someA true [] qs = someA true acc (qs.drop i)) ∧ Hid (Below w4.heap.size w4 wr6 ∧ OwnV 5 wr6 w4.heap.size ov (bv (flat acc))))
            case atStart => exact ⟨0, [], by omega, rfl, by simp, Lib.hid (fun _ => ⟨rfl, rfl⟩), Lib.hid rfl, Lib.hid ⟨Below.refl _ _, OwnV.nil _ _⟩⟩
            case round =>
              obtain ⟨i, acc, hig, rfl, hal, HE, HA, J⟩ := hrel
              have hB6 := Lib.hid (Nat.le_trans hB4.out J.out.1.size)
              have qx := cell_later J.out.1 HQ4.out
              by_cases hx0 : x.data.toList = []
              · obtain ⟨rfl, rfl⟩ := HE.out hx0
                have c0 : (x.toList == ([] : List UInt8)) = true := by rw [ByteArray.toList_eq, hx0]; rfl
                have c1 : x.toList.isEmpty = true := by rw [ByteArray.toList_eq, hx0]; rfl
                have c2 : (([] : List UInt8) == x.toList) = true := by rw [ByteArray.toList_eq, hx0]; rfl
                have c3 : x.toList = [] := by rw [ByteArray.toList_eq, hx0]
                have hN0 : (0 : Int) < (N : Int) := by have := HN1.out; omega
                obtain ⟨acc, hacc⟩ : ∃ acc : List Nat, acc = [] := ⟨_, rfl⟩
                rw [← hacc] at J
                have hal : acc.length ≤ 2 := by rw [hacc]; simp
                have hsg : someG x true = some acc := by rw [someG, if_pos hx0, hacc]
                clear hacc
                have hfl : (flat acc).length = 2 * acc.length := flat_len acc
                have G5 := Lib.hid (G4.out.next hpl J.out.1)
                obtain ⟨vs, hvs1, hvs2, hvs3⟩ := G5.out.vals
                have HV1 := Lib.hid hvs1
                have HV3 := Lib.hid hvs3
                have hvl : vs.length = 1 := hvs2.trans hgl
                obtain ⟨Ao, co, rfl, hro, hao⟩ := OwnV.form J.out.2
                have HO := Lib.hid J.out.2
                rw [bv_length, hfl] at HO ⊢
                have hnb : ((2 * acc.length : Nat) : Int) ≤ 40000000000 := by omega
                have hco1 := hro.2.1
                have hco2 := hro.2.2.1
                rw [bv_length, hfl] at hco1
                have HG := Lib.hid (show ∃ y, ps[gss.length]? = some y ∧ someG y (decide (gss.length + 1 = 2)) = some acc from ⟨x, by rw [hgl]; exact hxx.out, by rw [hgl]; exact hsg⟩)
                have HBg := Lib.hid (show ∀ gb, u10.ownBlock = some gb → gp ≠ gb ∧ w.heap.size + 1 < gb from fun gb e => by
                  have h1 := (hvs1.blk_lt e).1
                  have h2 := hgpB.out
                  exact ⟨by omega, by omega⟩)
                clear hvs1 hvs3 hro hao J hfl
                go_wp2_with (at_builtin; refine wpList_append_litB wr (by rfl) (.tmp 142) (.tmp 144) 118 63 (by rfl) B i33 _ 24 Tryz.underlying118 Hi33.out Hz330.out Hz331.out Hz332.out rfl _ vs (by rfl) HV1.out [Value.slice Ao (2 * acc.length) co] 1 rfl (by rfl) (by simp [Value.oneCell']) _ (by rfl) (by rw [hvl]; omega) (by omega) hB6.out ?_; intro av' w7 ho7 hb7 hg7; have hsz7 := hg7.size; have G7 := Lib.hid (GInv.add G5.out hpl hB4.out HV1.out hvs2 HV3.out HO.out HG.out ho7 hg7 HBg.out); clear ho7 hb7 hg7)
                go_roundg g3
                case measure => omega
                case rel => exact ⟨2, gss ++ [acc], by omega, by simp [hgl], by go_num, by simp; omega, by simp; omega, G7, Lib.hid (by have h1 := hB6.out; simp at hsz7; omega)⟩
              · cases gk with
                | zero =>
                  obtain rfl : i = N := by omega
                  have hsg : someG x true = some acc := by rw [HSG.out hx0, HA.out, ← HN0.out, List.drop_length]; rfl
                  have hNN : ¬ (i : Int) < (i : Int) := by omega
                  clear HA HSG
                  have hfl : (flat acc).length = 2 * acc.length := flat_len acc
                  have G5 := Lib.hid (G4.out.next hpl J.out.1)
                  obtain ⟨vs, hvs1, hvs2, hvs3⟩ := G5.out.vals
                  have HV1 := Lib.hid hvs1
                  have HV3 := Lib.hid hvs3
                  have hvl : vs.length = 1 := hvs2.trans hgl
                  obtain ⟨Ao, co, rfl, hro, hao⟩ := OwnV.form J.out.2
                  have HO := Lib.hid J.out.2
                  rw [bv_length, hfl] at HO ⊢
                  have hnb : ((2 * acc.length : Nat) : Int) ≤ 40000000000 := by omega
                  have hco1 := hro.2.1
                  have hco2 := hro.2.2.1
                  rw [bv_length, hfl] at hco1
                  have HG := Lib.hid (show ∃ y, ps[gss.length]? = some y ∧ someG y (decide (gss.length + 1 = 2)) = some acc from ⟨x, by rw [hgl]; exact hxx.out, by rw [hgl]; exact hsg⟩)
                  have HBg := Lib.hid (show ∀ gb, u10.ownBlock = some gb → gp ≠ gb ∧ w.heap.size + 1 < gb from fun gb e => by
                    have h1 := (hvs1.blk_lt e).1
                    have h2 := hgpB.out
                    exact ⟨by omega, by omega⟩)
                  clear hvs1 hvs3 hro hao J hfl
                  go_wp2_with (at_builtin; refine wpList_append_litB wr (by rfl) (.tmp 142) (.tmp 144) 118 63 (by rfl) B i33 _ 24 Tryz.underlying118 Hi33.out Hz330.out Hz331.out Hz332.out rfl _ vs (by rfl) HV1.out [Value.slice Ao (2 * acc.length) co] 1 rfl (by rfl) (by simp [Value.oneCell']) _ (by rfl) (by rw [hvl]; omega) (by omega) hB6.out ?_; intro av' w7 ho7 hb7 hg7; have hsz7 := hg7.size; have G7 := Lib.hid (GInv.add G5.out hpl hB4.out HV1.out hvs2 HV3.out HO.out HG.out ho7 hg7 HBg.out); clear ho7 hb7 hg7)
                  go_roundg g3
                  case measure => omega
                  case rel => exact ⟨2, gss ++ [acc], by omega, by simp [hgl], by go_num, by simp; omega, by simp; omega, G7, Lib.hid (by have h1 := hB6.out; simp at hsz7; omega)⟩
                | succ g6 =>
                  have hNi : i < N := by omega
                  have hql : i < qs.length := by rw [HN0.out]; exact hNi
                  have qy : wr.cell? ⟨gl, i, none⟩ = some (.string qs[i]) := by
                    have e := HC.out i hNi
                    rw [List.getElem?_map, List.getElem?_eq_getElem hql] at e
                    exact cell_later J.out.1 e
                  have hys := HPs.out _ (List.getElem_mem hql)
                  have hst := someA_drop true qs i hql acc
                  generalize qs[i] = y at *
                  have HHx := Lib.hid (fun W => hex_any y hys W)
                  have hi' : (i : Int) < (N : Int) := by omega
                  have d0 : (x.toList == ([] : List UInt8)) = false := by rw [ByteArray.toList_eq, beq_eq_false_iff_ne]; exact hx0
                  have d1 : x.toList.isEmpty = false := by
                    rw [ByteArray.toList_eq]
                    cases hc : x.data.toList with
                    | nil => exact absurd hc hx0
                    | cons a b => rfl
                  have d2 : (([] : List UInt8) == x.toList) = false := by rw [ByteArray.toList_eq, beq_eq_false_iff_ne]; exact fun e => hx0 e.symm
                  by_cases hin : i + 1 = N
                  · have hin' : ((i : Int) == (N : Int) - 1) = true := by rw [beq_iff_eq]; omega
                    rw [HN0.out, decide_eq_true hin] at hst
                    have HFr := Lib.hid (fun W => rfour_any y hys W)
                    go_wp2_with fail
                    refine (HFr.out _).mono ?_
                    rintro e wx ⟨⟨v4, rfl, ho4, hn4⟩, b4⟩
                    have J4 := Lib.hid (And.intro (J.out.1.trans (b4.mono J.out.1.size)) (J.out.2.below b4))
                    have qy4 := cell_later b4 qy
                    cases hf4 : f4 y with
                    | some bb =>
                      have hbl := f4_len hf4
                      rw [hf4, Option.getD_some] at ho4
                      rw [hf4] at hst
                      obtain ⟨A4, c4, rfl, _, _⟩ := ho4.form
                      rw [bv_length, hbl]
                      have HFl := Lib.hid (show flat (acc ++ two bb) = flat acc ++ bb by
                        obtain ⟨a0, a1, a2, a3, rfl⟩ := two_len hf4
                        rw [flat_append, flat_two])
                      have htw : (two bb).length = 2 := by
                        obtain ⟨a0, a1, a2, a3, rfl⟩ := two_len hf4
                        rfl
                      have HA2 := Lib.hid (show someA true [] qs = someA true (acc ++ two bb) (qs.drop (i + 1)) by
                        rw [HA.out, hst, List.drop_eq_nil_of_le (by rw [HN0.out]; omega)]
                        rfl)
                      have HF4 := Lib.hid hf4
                      clear hf4 hst ho4 b4 J HA hn4
                      go_wp2_with fail
                      refine (HFr.out _).mono ?_
                      rintro e wz ⟨⟨v5, rfl, ho5, hn5⟩, b5⟩
                      rw [HF4.out, Option.getD_some] at ho5
                      have J5 := Lib.hid (And.intro (J4.out.1.trans (b5.mono J4.out.1.size)) (J4.out.2.below b5))
                      obtain ⟨A5, c5, rfl, hr5, _⟩ := ho5.form
                      have HR5 := Lib.hid hr5
                      clear b5 J4 ho5 hn5 hr5
                      rw [bv_length, hbl] at HR5 ⊢
                      go_wp2_with (at_builtin; refine wpList_append_rdv wz (by rfl) (.tmp 118) (.tmp 123) 63 5 (by rfl) w4.heap.size i5 _ 1 Tryz.underlying63 Hi5.out Hz50.out Hz51.out Hz52.out rfl _ (bv (flat acc)) (by rfl) J5.out.2 A5 4 c5 (bv bb) (by rfl) HR5.out (bv_one _) (by rw [bv_length, flat_len]; omega) (by omega) J5.out.1.size ?_; intro v' w5 ho hb5 hg5; have J6 := Lib.hid (And.intro (J5.out.1.trans hb5) ho); clear ho hb5 hg5)
                      go_roundg g6
                      case measure => omega
                      case rel => exact ⟨i + 1, acc ++ two bb, by omega, by go_num, by simp [htw]; omega, Lib.hid (fun h => absurd h hx0), HA2, Lib.hid ⟨J6.out.1, by rw [HFl.out, bv_append]; exact J6.out.2⟩⟩
                    | none =>
                      obtain rfl := hn4 hf4
                      rw [hf4] at hst
                      have HSt := Lib.hid (show someA true acc (qs.drop i) = if grpB y then someA true (acc ++ [grpN y]) (qs.drop (i + 1)) else none by rw [hst]; rfl)
                      clear hf4 hst ho4 J hn4 qy
                      have J := J4
                      have hB6b := Lib.hid (Nat.le_trans hB4.out J4.out.1.size)
                      clear J4 b4 hB6
                      have hB6 := hB6b
                      clear hB6b
                      go_wp2_with fail
                      refine (HHx.out _).mono ?_
                      rintro e wq ⟨rfl, hwx⟩
                      obtain rfl := hwx.symm
                      rw [hexV]
                      cases hgr : grpB y with
                      | false =>
                        have HNo := Lib.hid (show someG x true = none by rw [HSG.out hx0, HA.out, HSt.out, hgr]; rfl)
                        rw [if_neg Bool.false_ne_true]
                        clear hgr HSt HA
                        have HRB := Lib.hid (parseA_bad HPO.out HFM.out hxx.out (show someG x (decide (1 + 1 = 2)) = none from HNo.out))
                        have R7 := Lib.hid ((G4.out.next hpl J.out.1).r)
                        clear J
                        go_wp2_with (first | (refine wpList_load_blk 25 (.tmp 4) (w.heap.size + 1) 25 (adC false z16) _ R7.out.adr (by rfl) (by rfl) Tryz.underlying25 rfl HSz.out (by rfl) ?_) | ((with_reducible refine at_store 25 (.tmp 2) (.tmp 132) ?_); refine wpList_store_blk 25 (.tmp 2) (.tmp 132) w.heap.size 25 (adC false z16) (adC false z16) R7.out.res (by rfl) (by rfl) (by rfl) (by rfl) HSz.out (by rfl) (by rfl) (by rfl) ?_; intro w9 hk9 hg9 hs9; have V9 := Lib.hid hk9; have G9 := Lib.hid (And.intro hg9 hs9); clear hk9 hg9 hs9))
                        exact bodyPost_ret (v := .tuple #[.agg (adC false z16), .bool false]) (results_rad Tryz.results44 _ _ w.heap.size (adC false z16) rfl V9.out rfl) rfl ⟨by rw [HRB.out], R7.out.bel.grown G9.out.1 R7.out.bel.size (fun k e => by cases e; exact Nat.le_refl _)⟩
                      | true =>
                        have HA2 := Lib.hid (show someA true [] qs = someA true (acc ++ [grpN y]) (qs.drop (i + 1)) by rw [HA.out, HSt.out, hgr]; rfl)
                        have hgn := grpN_lt hgr
                        rw [if_pos rfl]
                        have HFl := Lib.hid (show flat (acc ++ [grpN y]) = flat acc ++ [UInt8.ofNat (grpN y / 256), UInt8.ofNat (grpN y % 256)] by rw [flat_append]; rfl)
                        clear hgr HSt HA
                        generalize grpN y = n at *
                        have hw1 : IntKind.u8.wrap ((n : Int) / 256) = ((UInt8.ofNat (n / 256)).toNat : Int) := by
                          rw [UInt8.toNat_ofNat']; simp [IntKind.wrap, IntKind.bits, IntKind.signed]
                        have hw2 : IntKind.u8.wrap ((n : Int) % 256) = ((UInt8.ofNat (n % 256)).toNat : Int) := by
                          rw [UInt8.toNat_ofNat']; simp [IntKind.wrap, IntKind.bits, IntKind.signed]
                        generalize UInt8.ofNat (n / 256) = c0 at *
                        generalize UInt8.ofNat (n % 256) = c1 at *
                        go_wp2_with (at_builtin; refine wpList_append_lit wx (by rfl) (.tmp 133) (.tmp 140) 63 5 (by rfl) w4.heap.size i5 _ 1 Tryz.underlying63 Hi5.out Hz50.out Hz51.out Hz52.out rfl _ (bv (flat acc)) (by rfl) J.out.2 (bv [c0, c1]) 2 rfl (by rfl) (bv_one _) _ (by rfl) (by rw [bv_length, flat_len]; omega) (by omega) J.out.1.size ?_; intro v' w5 ho hb5 hg5; have J5 := Lib.hid (And.intro (J.out.1.trans (((Below.refl _ wx).alloc J.out.1.size _).trans hb5)) ho); clear ho hb5 hg5)
                        go_roundg g6
                        case measure => omega
                        case rel => exact ⟨i + 1, acc ++ [n], by omega, by go_num, by simp; omega, Lib.hid (fun h => absurd h hx0), HA2, Lib.hid ⟨J5.out.1, by rw [HFl.out, bv_append]; exact J5.out.2⟩⟩
                  · have hin' : ((i : Int) == (N : Int) - 1) = false := by rw [beq_eq_false_iff_ne]; omega
                    have HSt := Lib.hid (show someA true acc (qs.drop i) = if grpB y then someA true (acc ++ [grpN y]) (qs.drop (i + 1)) else none by rw [hst, HN0.out, decide_eq_false hin]; rfl)
                    clear hst
                    go_wp2_with fail
                    refine (HHx.out _).mono ?_
                    rintro e wx ⟨rfl, hwx⟩
                    obtain rfl := hwx.symm
                    rw [hexV]
                    cases hgr : grpB y with
                    | false =>
                      have HNo := Lib.hid (show someG x true = none by rw [HSG.out hx0, HA.out, HSt.out, hgr]; rfl)
                      rw [if_neg Bool.false_ne_true]
                      clear hgr HSt HA
                      have HRB := Lib.hid (parseA_bad HPO.out HFM.out hxx.out (show someG x (decide (1 + 1 = 2)) = none from HNo.out))
                      have R7 := Lib.hid ((G4.out.next hpl J.out.1).r)
                      clear J
                      go_wp2_with (first | (refine wpList_load_blk 25 (.tmp 4) (w.heap.size + 1) 25 (adC false z16) _ R7.out.adr (by rfl) (by rfl) Tryz.underlying25 rfl HSz.out (by rfl) ?_) | ((with_reducible refine at_store 25 (.tmp 2) (.tmp 132) ?_); refine wpList_store_blk 25 (.tmp 2) (.tmp 132) w.heap.size 25 (adC false z16) (adC false z16) R7.out.res (by rfl) (by rfl) (by rfl) (by rfl) HSz.out (by rfl) (by rfl) (by rfl) ?_; intro w9 hk9 hg9 hs9; have V9 := Lib.hid hk9; have G9 := Lib.hid (And.intro hg9 hs9); clear hk9 hg9 hs9))
                      exact bodyPost_ret (v := .tuple #[.agg (adC false z16), .bool false]) (results_rad Tryz.results44 _ _ w.heap.size (adC false z16) rfl V9.out rfl) rfl ⟨by rw [HRB.out], R7.out.bel.grown G9.out.1 R7.out.bel.size (fun k e => by cases e; exact Nat.le_refl _)⟩
                    | true =>
                      have HA2 := Lib.hid (show someA true [] qs = someA true (acc ++ [grpN y]) (qs.drop (i + 1)) by rw [HA.out, HSt.out, hgr]; rfl)
                      have hgn := grpN_lt hgr
                      rw [if_pos rfl]
                      have HFl := Lib.hid (show flat (acc ++ [grpN y]) = flat acc ++ [UInt8.ofNat (grpN y / 256), UInt8.ofNat (grpN y % 256)] by rw [flat_append]; rfl)
                      clear hgr HSt HA
                      generalize grpN y = n at *
                      have hw1 : IntKind.u8.wrap ((n : Int) / 256) = ((UInt8.ofNat (n / 256)).toNat : Int) := by
                        rw [UInt8.toNat_ofNat']; simp [IntKind.wrap, IntKind.bits, IntKind.signed]
                      have hw2 : IntKind.u8.wrap ((n : Int) % 256) = ((UInt8.ofNat (n % 256)).toNat : Int) := by
                        rw [UInt8.toNat_ofNat']; simp [IntKind.wrap, IntKind.bits, IntKind.signed]
                      generalize UInt8.ofNat (n / 256) = c0 at *
                      generalize UInt8.ofNat (n % 256) = c1 at *
                      go_wp2_with (at_builtin; refine wpList_append_lit wr (by rfl) (.tmp 133) (.tmp 140) 63 5 (by rfl) w4.heap.size i5 _ 1 Tryz.underlying63 Hi5.out Hz50.out Hz51.out Hz52.out rfl _ (bv (flat acc)) (by rfl) J.out.2 (bv [c0, c1]) 2 rfl (by rfl) (bv_one _) _ (by rfl) (by rw [bv_length, flat_len]; omega) (by omega) J.out.1.size ?_; intro v' w5 ho hb5 hg5; have J5 := Lib.hid (And.intro (J.out.1.trans (((Below.refl _ wr).alloc J.out.1.size _).trans hb5)) ho); clear ho hb5 hg5)
                      go_roundg g6
                      case measure => omega
                      case rel => exact ⟨i + 1, acc ++ [n], by omega, by go_num, by simp; omega, Lib.hid (fun h => absurd h hx0), HA2, Lib.hid ⟨J5.out.1, by rw [HFl.out, bv_append]; exact J5.out.2⟩⟩
end Go.Proofs.YtonafonhadocgaaGreatDoor
