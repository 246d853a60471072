/- The reference's ParseEnds. -/
import Derived.Test.YtgdnckglfhabnaaDoorRfParseM
import Derived.Test.YtgdnckglfhabnaaDoorRfParse1
import Derived.Test.YtgdnckglfhabnaaDoorRfParse2a
import Derived.Test.YtgdnckglfhabnaaDoorRfParse2b
import Derived.Test.YtgdnckglfhabnaaDoorRfPEndsL
import Derived.Test.YtgdnckglfhabnaaDoorRfEnds
namespace Go.Proofs.YtgdnckglfhabnaaDoor
open Go.RowKit Go.Shelf

set_option maxRecDepth 100000 in
set_option maxHeartbeats 64000000 in
theorem rparse_four (s : ByteArray) (hs : s.size < 4294967281) {bb : List UInt8} (hf : f4 s = some bb) (w : World) :
    Calls Tryd.prog 16 #[.string s] w fun e w' => e = .returned (rparseV s.data.toList) ∧ Below w.heap.size w w' := by
  obtain ⟨i5, hi5, hz50, hz51, hz52⟩ := info_parts info_u8p
  have Hi5 := Lib.hid hi5
  have Hz50 := Lib.hid hz50
  have Hz51 := Lib.hid hz51
  have Hz52 := Lib.hid hz52
  clear hi5 hz50 hz51 hz52
  obtain ⟨i33, hi33, hz330, hz331, hz332⟩ := info_parts info_bs
  have Hi33 := Lib.hid hi33
  have Hz330 := Lib.hid hz330
  have Hz331 := Lib.hid hz331
  have Hz332 := Lib.hid hz332
  clear hi33 hz330 hz331 hz332
  have HFo := Lib.hid (fun W => rfour_any s hs W)
  have HBz := Lib.hid (show Tryd.prog.built 24 [] = some (adC false z16) by kernel_rfl)
  have HSz := Lib.hid (show (Tryd.prog.info? 24).map (·.size) = some (adC false z16).size by rw [adC_size _ _ rfl]; exact adSize)
  have HK4 := Lib.hid (blk_second w)
  go_enter Tryd.func16, Tryd.ntmps16
  go_upto_region 2 with (first | ((with_reducible refine at_build 24 #[] ?_); refine wpList_build_eq 24 #[] (adC false z16) (by rfl) HBz.out (by rfl) ?_) | ((with_reducible refine at_store 24 (.tmp 4) (.tmp 20) ?_); refine wpList_store_blk 24 (.tmp 4) (.tmp 20) (w.heap.size + 1) 24 (adC false z16) (adC false z16) HK4.out (by rfl) (by rfl) (by rfl) (by rfl) HSz.out (by rfl) (by rfl) (by rfl) ?_; intro w1 hk1 hg1 hs1; have I1 := Lib.hid (RInv.first hk1 hg1); clear hk1 hg1 hs1))
  clear HK4
  go_wp2_with fail
  refine (HFo.out _).mono ?_
  rintro e w2 ⟨⟨v, rfl, hov, hnv⟩, b⟩
  have I2 := Lib.hid (I1.out.next b)
  clear b I1 HFo
  have hbl := f4_len hf
  have HR := Lib.hid (show rparseV s.data.toList = .tuple #[.agg (adC false (bb ++ List.replicate 12 0)), .bool true] by
    rw [rparseV, parseA, mkB_of, hf])
  rw [hf, Option.getD_some] at hov
  obtain ⟨gv, cv, rfl, hgv⟩ := own_at hov (n := 4) (by rw [bv_length, hbl]) (by omega)
  have HC := Lib.hid (fun (k : Nat) (hk : k < 4) => hov.cellAt k hk)
  have hcv := hov.rdv.2.1
  have hcv2 := hov.rdv.2.2.1
  have hgI := hov.blk_lt (g := gv) rfl
  have hsz1 := I2.out.size1
  have hbg : w.heap.size + 1 ≠ gv := by
    intro e
    have h1 := I2.out.adr
    rcases hov.2 with ⟨e1, _⟩ | ⟨g2, c2, cur2, e1, _, hg2, _⟩
    · cases e1
    · injection e1 with e1
      injection e1 with e1
      injection e1 with e1
      subst e1
      rw [← e] at hg2
      unfold Blk at h1
      rw [h1] at hg2
      injection hg2 with hg2
      injection hg2 with _ h3 _
      exact absurd h3 (by decide)
  clear hf hnv hov
  go_wp2_with fail
  go_loopw [6] (fun i wr => ∃ k : Nat, k ≤ 4 ∧ i = .int .i64 k ∧ Hid (RInv w false (fillB bb k) wr) ∧ Hid (∀ j, j < 4 → wr.cell? ⟨gv, j, none⟩ = (bv bb)[j]?)) (fun i _ => 4 - (intOf i).toNat)
  case atStart => exact ⟨0, by omega, rfl, Lib.hid (by rw [show fillB bb 0 = z16 by rw [fillB, List.take_zero]; rfl]; exact I2.out), HC⟩
  case round =>
    clear I2 HC
    obtain ⟨k, hk, rfl, I, HC⟩ := hrel
    by_cases hlt : k < 4
    · have hkl : k < bb.length := by omega
      have q1 : wr.cell? ⟨gv, k, none⟩ = some (.int .u8 ((bb[k]'hkl).toNat : Int)) := by
        rw [HC.out k hlt, bv, List.getElem?_map, List.getElem?_eq_getElem hkl]; rfl
      have q2 := (I.out.adr.cell (1 + k)).trans (adC_get false (fillB bb k) k (by rw [fillB_len bb k (by omega) (by omega)]; omega))
      have f2 := I.out.adr.frozen (1 + k)
      have HI := Lib.hid (show RInv w false (fillB bb (k + 1)) (wr.setCell ⟨w.heap.size + 1, 1 + k, none⟩ (.int .u8 ((bb[k]'hkl).toNat : Int))) by
        rw [← fillB_step bb k hkl (by omega)]; exact I.out.set_ k _)
      have HC2 := Lib.hid (show ∀ j, j < 4 → (wr.setCell ⟨w.heap.size + 1, 1 + k, none⟩ (.int .u8 ((bb[k]'hkl).toNat : Int))).cell? ⟨gv, j, none⟩ = (bv bb)[j]? from fun j hj => by
        rw [cell_far (by show gv ≠ w.heap.size + 1; omega)]; exact HC.out j hj)
      have hcv' : (k : Int) < 4 := by omega
      clear I HC
      generalize (bb[k]'hkl).toNat = x at *
      go_wp2_with fail
      go_roundw
      case rel => exact ⟨k + 1, by omega, by go_num, HI, HC2⟩
      case measure => simp [intOf]; omega
    · obtain rfl : k = 4 := by omega
      have HL := Lib.hid (show fillB bb 4 = bb ++ List.replicate 12 0 by rw [fillB, List.take_of_length_le (by omega)])
      rw [HL.out] at I
      have HS2 := Lib.hid (show (Tryd.prog.info? 24).map (·.size) = some (adC false (bb ++ List.replicate 12 0)).size by rw [adC_size _ _ (by simp [hbl])]; exact adSize)
      have HS3 := Lib.hid (show (adC false z16).size = (adC false (bb ++ List.replicate 12 0)).size by rw [adC_size false (bb ++ List.replicate 12 0) (by simp [hbl])]; rfl)
      have HS4 := Lib.hid (adC_size false (bb ++ List.replicate 12 0) (by simp [hbl]))
      go_wp2_with (first | (refine wpList_load_blk 24 (.tmp 4) (w.heap.size + 1) 24 (adC false (bb ++ List.replicate 12 0)) _ I.out.adr (by rfl) (by rfl) Tryd.underlying24 rfl HS2.out (by rfl) ?_) | ((with_reducible refine at_store 24 (.tmp 2) (.tmp 37) ?_); refine wpList_store_blk 24 (.tmp 2) (.tmp 37) w.heap.size 24 (adC false z16) (adC false (bb ++ List.replicate 12 0)) I.out.res (by rfl) (by rfl) (by rfl) (by rfl) HS2.out HS3.out (adC_one _ _) (by rfl) ?_; intro w9 hk9 hg9 hs9; have V9 := Lib.hid hk9; have G9 := Lib.hid (And.intro hg9 hs9); clear hk9 hg9 hs9))
      exact bodyPost_ret (v := .tuple #[.agg (adC false (bb ++ List.replicate 12 0)), .bool true]) (results_rad Tryd.results16 _ _ w.heap.size (adC false (bb ++ List.replicate 12 0)) rfl V9.out HS4.out) rfl ⟨by rw [HR.out], I.out.bel.grown G9.out.1 I.out.bel.size (fun k e => by cases e; exact Nat.le_refl _)⟩
end Go.Proofs.YtgdnckglfhabnaaDoor
namespace Go.Proofs.YtgdnckglfhabnaaDoor
open Go.RowKit Go.Shelf

theorem rparse_any (s : ByteArray) (hs : s.size < 4294967281) (w : World) :
    Calls Tryd.prog 16 #[.string s] w fun e w' => e = .returned (rparseV s.data.toList) ∧ Below w.heap.size w w' := by
  cases hf : f4 s with
  | some bb => exact rparse_four s hs hf w
  | none =>
    cases hc : (cutL s.data.toList).2.2 with
    | false => exact rparse_one s hs hf hc w
    | true =>
      by_cases hb : (cutL s.data.toList).2.1 = []
      · exact rparse_two_b s hs hf hc hb w
      · exact rparse_two_a s hs hf hc hb w
end Go.Proofs.YtgdnckglfhabnaaDoor
namespace Go.Proofs.YtgdnckglfhabnaaDoor
open Go.RowKit Go.Shelf

set_option maxRecDepth 100000 in
set_option maxHeartbeats 8000000 in
theorem rparseEnds_any (s : ByteArray) (hs : s.size < 4294967281) (w : World) :
    Calls Tryd.prog 18 #[.string s] w fun e w' => e = .returned (rpeV s) ∧ Below w.heap.size w w' := by
  have hl0 : s.data.toList.length = s.size := rfl
  have HB0 := Lib.hid (show Tryd.prog.built 32 [] = some (enC false z16 0) by kernel_rfl)
  have HSE0 := Lib.hid (show (Tryd.prog.info? 32).map (·.size) = some (enC false z16 0).size by rw [enC_size _ _ _ (by rfl)]; exact enSize)
  have I0 := Lib.hid (And.intro ((Below.refl _ w).alloc (Nat.le_refl _) (.cells (enC false z16 0) 32)) (Blk.new w 32 (enC false z16 0)))
  go_enter Tryd.func18, Tryd.ntmps18
  go_wp2_with fail
  go_loopw [4] (fun i wr => ∃ k : Nat, k ≤ s.size ∧ i = .int .i64 k ∧ Hid (∀ j n, j < k → s.data.toList[j]? = some 58 → numL (s.data.toList.drop (j + 1)) 65535 = some n → rAt s.data.toList j n = none) ∧ Hid (Below w.heap.size w wr ∧ Blk wr w.heap.size 32 (enC false z16 0))) (fun i _ => s.size - (intOf i).toNat)
  case atStart => exact ⟨0, by omega, rfl, Lib.hid (fun j n hj => by omega), I0⟩
  case round =>
    clear I0
    obtain ⟨k, hk, rfl, HA, I⟩ := hrel
    by_cases hlt : k < s.size
    · have HNU := Lib.hid (fun W => number_any (s.extract (k + 1) s.size) 65535 (by omega) (by rw [ByteArray.size_extract]; omega) W)
      rw [show (s.extract (k + 1) s.size).data.toList = s.data.toList.drop (k + 1) by
        rw [extract_mkB]
        show (s.data.toList.drop (k + 1)).take (s.size - (k + 1)) = _
        rw [List.take_of_length_le (by rw [List.length_drop]; omega)]] at HNU
      have hlt' : (k : Int) < (s.size : Int) := by omega
      obtain ⟨nn, hnn⟩ : ∃ nn, nn = numL (s.data.toList.drop (k + 1)) 65535 := ⟨_, rfl⟩
      have HNN := Lib.hid hnn.symm
      rw [← hnn] at HNU
      clear hnn
      go_wp2_with fail
      refine (HNU.out _).mono ?_
      rintro e w1 ⟨rfl, rfl⟩
      clear HNU
      cases nn with
      | none =>
        rw [show numV none = .int .i64 (-1) from rfl]
        have HNX := Lib.hid (show ∀ j n, j < k + 1 → s.data.toList[j]? = some 58 → numL (s.data.toList.drop (j + 1)) 65535 = some n → rAt s.data.toList j n = none from fun j n hj h58 hnum => by
          by_cases hjk : j < k
          · exact HA.out j n hjk h58 hnum
          · obtain rfl : j = k := by omega
            rw [HNN.out] at hnum
            cases hnum)
        clear HA HNN
        by_cases hc : s[k] = 58
        · have c58 : ((s[k].toNat : Int) == 58) = true := by rw [hc]; rfl
          have c58n : ((s[k].toNat : Int) != 58) = false := by rw [bne, c58]; rfl
          clear hc
          go_wp2_with fail
          go_roundw
          case rel => exact ⟨k + 1, by omega, by go_num, HNX, I⟩
          case measure => simp [intOf]; omega
        · have c58 : ((s[k].toNat : Int) == 58) = false := by
            rw [beq_eq_false_iff_ne]
            intro e
            exact hc (UInt8.toNat_inj.1 (by show _ = 58; omega))
          have c58n : ((s[k].toNat : Int) != 58) = true := by rw [bne, c58]; rfl
          clear hc
          go_wp2_with fail
          go_roundw
          case rel => exact ⟨k + 1, by omega, by go_num, HNX, I⟩
          case measure => simp [intOf]; omega
      | some n =>
        rw [show numV (some n) = .int .i64 (n : Int) from rfl]
        by_cases hc : s[k] = 58
        rotate_left
        · have HNX := Lib.hid (show ∀ j n, j < k + 1 → s.data.toList[j]? = some 58 → numL (s.data.toList.drop (j + 1)) 65535 = some n → rAt s.data.toList j n = none from fun j n hj h58 hnum => by
            by_cases hjk : j < k
            · exact HA.out j n hjk h58 hnum
            · obtain rfl : j = k := by omega
              rw [List.getElem?_eq_getElem (by omega)] at h58
              injection h58 with h58
              exact absurd h58 hc)
          clear HA HNN
          have c58 : ((s[k].toNat : Int) == 58) = false := by
            rw [beq_eq_false_iff_ne]
            intro e
            exact hc (UInt8.toNat_inj.1 (by show _ = 58; omega))
          have c58n : ((s[k].toNat : Int) != 58) = true := by rw [bne, c58]; rfl
          clear hc
          go_wp2_with fail
          go_roundw
          case rel => exact ⟨k + 1, by omega, by go_num, HNX, I⟩
          case measure => simp [intOf]; omega
        · have c58 : ((s[k].toNat : Int) == 58) = true := by rw [hc]; rfl
          have c58n : ((s[k].toNat : Int) != 58) = false := by rw [bne, c58]; rfl
          clear hc
          have hn16 : n < 65536 := numL_lt HNN.out
          have hn0 : ¬ (n : Int) < 0 := by omega
          have HX := Lib.hid (show (s.extract 0 k).data.toList = s.data.toList.take k by rw [extract_mkB]; simp [mkB])
          have hxs : (s.extract 0 k).size = k := by rw [Lib.size_eq, HX.out, List.length_take, hl0]; omega
          have hkk : k ≤ s.size := by omega
          go_upto_region 7 with fail
          generalize s.extract 0 k = x at *
          have hxle : x.size ≤ s.size := by omega
          clear hxs
          have hxl : x.data.toList.length = x.size := rfl
          have HYN := Lib.hid (show rtrim (s.data.toList.take k) = if 1 < x.size ∧ x.data.toList[0]? = some 91 ∧ x.data.toList[x.size - 1]? = some 93 then (x.data.toList.drop 1).take (x.size - 2) else x.data.toList by rw [rtrim, ← HX.out, hxl])
          clear HX
          by_cases h1 : 1 < x.size
          rotate_left
          · have h1' : ¬ (1 : Int) < (x.size : Int) := by omega
            go_upto_region 9 with fail
            obtain ⟨y, hy⟩ : ∃ y, y = x := ⟨_, rfl⟩
            have HY := Lib.hid (show parseA y.data.toList = parseA (rtrim (s.data.toList.take k)) by rw [hy, HYN.out, if_neg (fun h => h1 h.1)])
            have hys : y.size < 4294967281 := by rw [hy]; omega
            clear HYN h1
            subst hy
            have HPJ := Lib.hid (fun W => rparse_any y hys W)
            rw [show rparseV y.data.toList = .tuple #[.agg (adC (parse3 y.data.toList).1 (parse3 y.data.toList).2.1), .bool (parseA y.data.toList).isSome] by
              unfold rparseV parse3
              cases parseA y.data.toList <;> rfl] at HPJ
            have HRA := Lib.hid (show rAt s.data.toList k n = if (parseA y.data.toList).isSome = true ∧ endsT (parse3 y.data.toList).1 (parse3 y.data.toList).2.1 n = s.data.toList then some ((parse3 y.data.toList).1, (parse3 y.data.toList).2.1, n) else none by
              rw [rAt, ← HY.out]
              unfold parse3
              cases parseA y.data.toList with
              | none => rfl
              | some x =>
                by_cases he : endsT x.1 x.2 n = s.data.toList
                · simp [he]
                · simp [he])
            have hp3 := parse3_ok y.data.toList
            generalize (parseA y.data.toList).isSome = ok at *
            generalize parse3 y.data.toList = pr at *
            obtain ⟨v6, l, er⟩ := pr
            have hl : l.length = 16 := hp3.1
            clear hp3 HY
            dsimp only at *
            have HSA := Lib.hid (show (Tryd.prog.info? 24).map (·.size) = some (adC v6 l).size by rw [adC_size _ _ hl]; exact adSize)
            have HSZ := Lib.hid (show (adC false z16).size = (adC v6 l).size by rw [adC_size _ _ hl]; rfl)
            have HS1 := Lib.hid (adC_one v6 l)
            have hw16 : IntKind.u16.wrap (n : Int) = (n : Int) := by
              simp [IntKind.wrap, IntKind.bits, IntKind.signed]; omega
            have HBU := Lib.hid (built_en v6 l n hl)
            have HSE := Lib.hid (show (Tryd.prog.info? 32).map (·.size) = some (enC v6 l n).size by rw [enC_size _ _ _ hl]; exact enSize)
            have HSF := Lib.hid (show (enC false z16 0).size = (enC v6 l n).size by rw [enC_size _ _ _ hl]; rfl)
            have HS2 := Lib.hid (enC_one v6 l n)
            have HEN := Lib.hid (fun W => rends_any v6 l n hl hn16 W)
            have HZN := Lib.hid (enC_size v6 l n hl)
            clear hl
            go_wp2_with fail
            refine (HPJ.out _).mono ?_
            rintro e w2 ⟨rfl, b⟩
            have B3 := Lib.hid (I.out.1.trans (b.mono I.out.1.size))
            have K3 := Lib.hid (I.out.2.keep b)
            clear b HPJ I
            cases ok with
            | false =>
              go_wp2_with (first | (refine wpList_load_blk 24 (.tmp 7) w2.heap.size 24 (adC v6 l) _ K5.out (by rfl) (by rfl) Tryd.underlying24 rfl HSA.out (by rfl) ?_) | ((with_reducible refine at_build 32 #[(0, .tmp 58), (1, .tmp 60)] ?_); refine wpList_build_eq 32 #[(0, .tmp 58), (1, .tmp 60)] (enC v6 l n) (by rfl) HBU.out (by rfl) ?_) | ((with_reducible refine at_store 24 (.tmp 7) (.tmp 56) ?_); refine wpList_store_blk 24 (.tmp 7) (.tmp 56) w2.heap.size 24 (adC false z16) (adC v6 l) (Blk.new w2 24 (adC false z16)) (by rfl) (by rfl) (by rfl) (by rfl) HSA.out HSZ.out HS1.out (by rfl) ?_; intro w3 hk3 hg3 hs3; have K5 := Lib.hid hk3; have B4 := Lib.hid (print_world B3.out B3.out.size hg3); have K4 := Lib.hid ((K3.out.alloc _).grown hg3 (fun e => by have := Option.some.inj e; have := K3.out.lt; omega)); clear hk3 hg3 hs3) | ((with_reducible refine at_store 32 (.tmp 9) (.tmp 61) ?_); refine wpList_store_blk 32 (.tmp 9) (.tmp 61) w3.heap.size 32 (enC false z16 0) (enC v6 l n) (Blk.new w3 32 (enC false z16 0)) (by rfl) (by rfl) (by rfl) (by rfl) HSE.out HSF.out HS2.out (by rfl) ?_; intro w5 hk5 hg5 hs5; have K9 := Lib.hid hk5; have B6 := Lib.hid (print_world B4.out B4.out.size hg5); have K6 := Lib.hid ((K4.out.alloc _).grown hg5 (fun e => by have := Option.some.inj e; have := K4.out.lt; omega)); clear hk5 hg5 hs5))
              clear K5 K9
              have HNX := Lib.hid (show ∀ j n, j < k + 1 → s.data.toList[j]? = some 58 → numL (s.data.toList.drop (j + 1)) 65535 = some n → rAt s.data.toList j n = none from fun j n hj h58 hnum => by
                by_cases hjk : j < k
                · exact HA.out j n hjk h58 hnum
                · obtain rfl : j = k := by omega
                  rw [HNN.out] at hnum
                  injection hnum with hnum
                  rw [← hnum, HRA.out, if_neg (fun h => by cases h.1)])
              clear HRA HA
              go_roundw
              case rel => exact ⟨k + 1, by omega, by go_num, HNX, Lib.hid ⟨B6.out, K6.out⟩⟩
              case measure => simp [intOf]; omega
            | true =>
              go_wp2_with (first | (refine wpList_load_blk 24 (.tmp 7) w2.heap.size 24 (adC v6 l) _ K5.out (by rfl) (by rfl) Tryd.underlying24 rfl HSA.out (by rfl) ?_) | ((with_reducible refine at_build 32 #[(0, .tmp 58), (1, .tmp 60)] ?_); refine wpList_build_eq 32 #[(0, .tmp 58), (1, .tmp 60)] (enC v6 l n) (by rfl) HBU.out (by rfl) ?_) | ((with_reducible refine at_store 24 (.tmp 7) (.tmp 56) ?_); refine wpList_store_blk 24 (.tmp 7) (.tmp 56) w2.heap.size 24 (adC false z16) (adC v6 l) (Blk.new w2 24 (adC false z16)) (by rfl) (by rfl) (by rfl) (by rfl) HSA.out HSZ.out HS1.out (by rfl) ?_; intro w3 hk3 hg3 hs3; have K5 := Lib.hid hk3; have B4 := Lib.hid (print_world B3.out B3.out.size hg3); have K4 := Lib.hid ((K3.out.alloc _).grown hg3 (fun e => by have := Option.some.inj e; have := K3.out.lt; omega)); clear hk3 hg3 hs3) | ((with_reducible refine at_store 32 (.tmp 9) (.tmp 61) ?_); refine wpList_store_blk 32 (.tmp 9) (.tmp 61) w3.heap.size 32 (enC false z16 0) (enC v6 l n) (Blk.new w3 32 (enC false z16 0)) (by rfl) (by rfl) (by rfl) (by rfl) HSE.out HSF.out HS2.out (by rfl) ?_; intro w5 hk5 hg5 hs5; have K9 := Lib.hid hk5; have B6 := Lib.hid (print_world B4.out B4.out.size hg5); have K6 := Lib.hid ((K4.out.alloc _).grown hg5 (fun e => by have := Option.some.inj e; have := K4.out.lt; omega)); clear hk5 hg5 hs5) | (refine wpList_load_blk 32 (.tmp 9) w3.heap.size 32 (enC v6 l n) _ K9.out (by rfl) (by rfl) Tryd.underlying32 rfl HSE.out (by rfl) ?_))
              refine (HEN.out _).mono ?_
              rintro e w6 ⟨rfl, b⟩
              have K7 := Lib.hid (K6.out.keep b)
              have K10 := Lib.hid (K9.out.keep b)
              have B7 := Lib.hid (B6.out.trans (b.mono B6.out.size))
              clear b K6 K9 B6 HEN
              by_cases hts : endsT v6 l n = s.data.toList
              · have HR := Lib.hid (show rpeV s = .tuple #[.agg (enC v6 l n), .bool true] by
                  have h1 := rAt_sound hn16 (show rAt s.data.toList k n = some (v6, l, n) by rw [HRA.out, if_pos ⟨by trivial, hts⟩])
                  rw [mkB_of] at h1
                  rw [rpeV, h1])
                rw [hts]
                clear HRA HA hts
                go_wp2_with (first | (refine wpList_load_blk 32 (.tmp 9) w3.heap.size 32 (enC v6 l n) _ K10.out (by rfl) (by rfl) Tryd.underlying32 rfl HSE.out (by rfl) ?_) | ((with_reducible refine at_store 32 (.tmp 2) (.tmp 69) ?_); refine wpList_store_blk 32 (.tmp 2) (.tmp 69) w.heap.size 32 (enC false z16 0) (enC v6 l n) K7.out (by rfl) (by rfl) (by rfl) (by rfl) HSE.out HSF.out HS2.out (by rfl) ?_; intro w9 hk9 hg9 hs9; have V9 := Lib.hid hk9; have G9 := Lib.hid (And.intro hg9 hs9); clear hk9 hg9 hs9))
                exact bodyPost_ret (v := .tuple #[.agg (enC v6 l n), .bool true]) (results_en Tryd.results18 _ _ w.heap.size (enC v6 l n) rfl V9.out HZN.out) rfl ⟨by rw [HR.out], B7.out.grown G9.out.1 B7.out.size (fun k e => by cases e; exact Nat.le_refl _)⟩
              · have hne : ((⟨(endsT v6 l n).toArray⟩ : ByteArray).toList == s.toList) = false := str_ne (fun e => hts (by rw [← e]))
                have hne2 : (endsT v6 l n == s.toList) = false := by
                  rw [beq_eq_false_iff_ne]
                  intro e
                  rw [ByteArray.toList_eq] at e
                  exact hts e
                have HNX := Lib.hid (show ∀ j n, j < k + 1 → s.data.toList[j]? = some 58 → numL (s.data.toList.drop (j + 1)) 65535 = some n → rAt s.data.toList j n = none from fun j n hj h58 hnum => by
                  by_cases hjk : j < k
                  · exact HA.out j n hjk h58 hnum
                  · obtain rfl : j = k := by omega
                    rw [HNN.out] at hnum
                    injection hnum with hnum
                    rw [← hnum, HRA.out, if_neg (fun h => hts h.2)])
                clear HRA HA hts
                generalize endsT v6 l n = t at *
                go_wp2_with fail
                go_roundw
                case rel => exact ⟨k + 1, by omega, by go_num, HNX, Lib.hid ⟨B7.out, K7.out⟩⟩
                case measure => simp [intOf]; omega
          by_cases h2 : x[0]'(by omega) = 91
          rotate_left
          · have h1' : (1 : Int) < (x.size : Int) := by omega
            have hx0 : 0 < x.size := by omega
            have c2 : ((x[0].toNat : Int) == 91) = false := by
              rw [beq_eq_false_iff_ne]
              intro e
              exact h2 (UInt8.toNat_inj.1 (by show _ = 91; omega))
            have H2 := Lib.hid h2
            clear h2
            go_upto_region 9 with fail
            obtain ⟨y, hy⟩ : ∃ y, y = x := ⟨_, rfl⟩
            have HY := Lib.hid (show parseA y.data.toList = parseA (rtrim (s.data.toList.take k)) by rw [hy, HYN.out, if_neg (fun h => H2.out (by have h3 := h.2.1; rw [List.getElem?_eq_getElem (by omega)] at h3; injection h3))])
            have hys : y.size < 4294967281 := by rw [hy]; omega
            clear HYN H2
            subst hy
            have HPJ := Lib.hid (fun W => rparse_any y hys W)
            rw [show rparseV y.data.toList = .tuple #[.agg (adC (parse3 y.data.toList).1 (parse3 y.data.toList).2.1), .bool (parseA y.data.toList).isSome] by
              unfold rparseV parse3
              cases parseA y.data.toList <;> rfl] at HPJ
            have HRA := Lib.hid (show rAt s.data.toList k n = if (parseA y.data.toList).isSome = true ∧ endsT (parse3 y.data.toList).1 (parse3 y.data.toList).2.1 n = s.data.toList then some ((parse3 y.data.toList).1, (parse3 y.data.toList).2.1, n) else none by
              rw [rAt, ← HY.out]
              unfold parse3
              cases parseA y.data.toList with
              | none => rfl
              | some x =>
                by_cases he : endsT x.1 x.2 n = s.data.toList
                · simp [he]
                · simp [he])
            have hp3 := parse3_ok y.data.toList
            generalize (parseA y.data.toList).isSome = ok at *
            generalize parse3 y.data.toList = pr at *
            obtain ⟨v6, l, er⟩ := pr
            have hl : l.length = 16 := hp3.1
            clear hp3 HY
            dsimp only at *
            have HSA := Lib.hid (show (Tryd.prog.info? 24).map (·.size) = some (adC v6 l).size by rw [adC_size _ _ hl]; exact adSize)
            have HSZ := Lib.hid (show (adC false z16).size = (adC v6 l).size by rw [adC_size _ _ hl]; rfl)
            have HS1 := Lib.hid (adC_one v6 l)
            have hw16 : IntKind.u16.wrap (n : Int) = (n : Int) := by
              simp [IntKind.wrap, IntKind.bits, IntKind.signed]; omega
            have HBU := Lib.hid (built_en v6 l n hl)
            have HSE := Lib.hid (show (Tryd.prog.info? 32).map (·.size) = some (enC v6 l n).size by rw [enC_size _ _ _ hl]; exact enSize)
            have HSF := Lib.hid (show (enC false z16 0).size = (enC v6 l n).size by rw [enC_size _ _ _ hl]; rfl)
            have HS2 := Lib.hid (enC_one v6 l n)
            have HEN := Lib.hid (fun W => rends_any v6 l n hl hn16 W)
            have HZN := Lib.hid (enC_size v6 l n hl)
            clear hl
            go_wp2_with fail
            refine (HPJ.out _).mono ?_
            rintro e w2 ⟨rfl, b⟩
            have B3 := Lib.hid (I.out.1.trans (b.mono I.out.1.size))
            have K3 := Lib.hid (I.out.2.keep b)
            clear b HPJ I
            cases ok with
            | false =>
              go_wp2_with (first | (refine wpList_load_blk 24 (.tmp 7) w2.heap.size 24 (adC v6 l) _ K5.out (by rfl) (by rfl) Tryd.underlying24 rfl HSA.out (by rfl) ?_) | ((with_reducible refine at_build 32 #[(0, .tmp 58), (1, .tmp 60)] ?_); refine wpList_build_eq 32 #[(0, .tmp 58), (1, .tmp 60)] (enC v6 l n) (by rfl) HBU.out (by rfl) ?_) | ((with_reducible refine at_store 24 (.tmp 7) (.tmp 56) ?_); refine wpList_store_blk 24 (.tmp 7) (.tmp 56) w2.heap.size 24 (adC false z16) (adC v6 l) (Blk.new w2 24 (adC false z16)) (by rfl) (by rfl) (by rfl) (by rfl) HSA.out HSZ.out HS1.out (by rfl) ?_; intro w3 hk3 hg3 hs3; have K5 := Lib.hid hk3; have B4 := Lib.hid (print_world B3.out B3.out.size hg3); have K4 := Lib.hid ((K3.out.alloc _).grown hg3 (fun e => by have := Option.some.inj e; have := K3.out.lt; omega)); clear hk3 hg3 hs3) | ((with_reducible refine at_store 32 (.tmp 9) (.tmp 61) ?_); refine wpList_store_blk 32 (.tmp 9) (.tmp 61) w3.heap.size 32 (enC false z16 0) (enC v6 l n) (Blk.new w3 32 (enC false z16 0)) (by rfl) (by rfl) (by rfl) (by rfl) HSE.out HSF.out HS2.out (by rfl) ?_; intro w5 hk5 hg5 hs5; have K9 := Lib.hid hk5; have B6 := Lib.hid (print_world B4.out B4.out.size hg5); have K6 := Lib.hid ((K4.out.alloc _).grown hg5 (fun e => by have := Option.some.inj e; have := K4.out.lt; omega)); clear hk5 hg5 hs5))
              clear K5 K9
              have HNX := Lib.hid (show ∀ j n, j < k + 1 → s.data.toList[j]? = some 58 → numL (s.data.toList.drop (j + 1)) 65535 = some n → rAt s.data.toList j n = none from fun j n hj h58 hnum => by
                by_cases hjk : j < k
                · exact HA.out j n hjk h58 hnum
                · obtain rfl : j = k := by omega
                  rw [HNN.out] at hnum
                  injection hnum with hnum
                  rw [← hnum, HRA.out, if_neg (fun h => by cases h.1)])
              clear HRA HA
              go_roundw
              case rel => exact ⟨k + 1, by omega, by go_num, HNX, Lib.hid ⟨B6.out, K6.out⟩⟩
              case measure => simp [intOf]; omega
            | true =>
              go_wp2_with (first | (refine wpList_load_blk 24 (.tmp 7) w2.heap.size 24 (adC v6 l) _ K5.out (by rfl) (by rfl) Tryd.underlying24 rfl HSA.out (by rfl) ?_) | ((with_reducible refine at_build 32 #[(0, .tmp 58), (1, .tmp 60)] ?_); refine wpList_build_eq 32 #[(0, .tmp 58), (1, .tmp 60)] (enC v6 l n) (by rfl) HBU.out (by rfl) ?_) | ((with_reducible refine at_store 24 (.tmp 7) (.tmp 56) ?_); refine wpList_store_blk 24 (.tmp 7) (.tmp 56) w2.heap.size 24 (adC false z16) (adC v6 l) (Blk.new w2 24 (adC false z16)) (by rfl) (by rfl) (by rfl) (by rfl) HSA.out HSZ.out HS1.out (by rfl) ?_; intro w3 hk3 hg3 hs3; have K5 := Lib.hid hk3; have B4 := Lib.hid (print_world B3.out B3.out.size hg3); have K4 := Lib.hid ((K3.out.alloc _).grown hg3 (fun e => by have := Option.some.inj e; have := K3.out.lt; omega)); clear hk3 hg3 hs3) | ((with_reducible refine at_store 32 (.tmp 9) (.tmp 61) ?_); refine wpList_store_blk 32 (.tmp 9) (.tmp 61) w3.heap.size 32 (enC false z16 0) (enC v6 l n) (Blk.new w3 32 (enC false z16 0)) (by rfl) (by rfl) (by rfl) (by rfl) HSE.out HSF.out HS2.out (by rfl) ?_; intro w5 hk5 hg5 hs5; have K9 := Lib.hid hk5; have B6 := Lib.hid (print_world B4.out B4.out.size hg5); have K6 := Lib.hid ((K4.out.alloc _).grown hg5 (fun e => by have := Option.some.inj e; have := K4.out.lt; omega)); clear hk5 hg5 hs5) | (refine wpList_load_blk 32 (.tmp 9) w3.heap.size 32 (enC v6 l n) _ K9.out (by rfl) (by rfl) Tryd.underlying32 rfl HSE.out (by rfl) ?_))
              refine (HEN.out _).mono ?_
              rintro e w6 ⟨rfl, b⟩
              have K7 := Lib.hid (K6.out.keep b)
              have K10 := Lib.hid (K9.out.keep b)
              have B7 := Lib.hid (B6.out.trans (b.mono B6.out.size))
              clear b K6 K9 B6 HEN
              by_cases hts : endsT v6 l n = s.data.toList
              · have HR := Lib.hid (show rpeV s = .tuple #[.agg (enC v6 l n), .bool true] by
                  have h1 := rAt_sound hn16 (show rAt s.data.toList k n = some (v6, l, n) by rw [HRA.out, if_pos ⟨by trivial, hts⟩])
                  rw [mkB_of] at h1
                  rw [rpeV, h1])
                rw [hts]
                clear HRA HA hts
                go_wp2_with (first | (refine wpList_load_blk 32 (.tmp 9) w3.heap.size 32 (enC v6 l n) _ K10.out (by rfl) (by rfl) Tryd.underlying32 rfl HSE.out (by rfl) ?_) | ((with_reducible refine at_store 32 (.tmp 2) (.tmp 69) ?_); refine wpList_store_blk 32 (.tmp 2) (.tmp 69) w.heap.size 32 (enC false z16 0) (enC v6 l n) K7.out (by rfl) (by rfl) (by rfl) (by rfl) HSE.out HSF.out HS2.out (by rfl) ?_; intro w9 hk9 hg9 hs9; have V9 := Lib.hid hk9; have G9 := Lib.hid (And.intro hg9 hs9); clear hk9 hg9 hs9))
                exact bodyPost_ret (v := .tuple #[.agg (enC v6 l n), .bool true]) (results_en Tryd.results18 _ _ w.heap.size (enC v6 l n) rfl V9.out HZN.out) rfl ⟨by rw [HR.out], B7.out.grown G9.out.1 B7.out.size (fun k e => by cases e; exact Nat.le_refl _)⟩
              · have hne : ((⟨(endsT v6 l n).toArray⟩ : ByteArray).toList == s.toList) = false := str_ne (fun e => hts (by rw [← e]))
                have hne2 : (endsT v6 l n == s.toList) = false := by
                  rw [beq_eq_false_iff_ne]
                  intro e
                  rw [ByteArray.toList_eq] at e
                  exact hts e
                have HNX := Lib.hid (show ∀ j n, j < k + 1 → s.data.toList[j]? = some 58 → numL (s.data.toList.drop (j + 1)) 65535 = some n → rAt s.data.toList j n = none from fun j n hj h58 hnum => by
                  by_cases hjk : j < k
                  · exact HA.out j n hjk h58 hnum
                  · obtain rfl : j = k := by omega
                    rw [HNN.out] at hnum
                    injection hnum with hnum
                    rw [← hnum, HRA.out, if_neg (fun h => hts h.2)])
                clear HRA HA hts
                generalize endsT v6 l n = t at *
                go_wp2_with fail
                go_roundw
                case rel => exact ⟨k + 1, by omega, by go_num, HNX, Lib.hid ⟨B7.out, K7.out⟩⟩
                case measure => simp [intOf]; omega
          by_cases h3 : x[x.size - 1]'(by omega) = 93
          rotate_left
          · have h1' : (1 : Int) < (x.size : Int) := by omega
            have hx0 : 0 < x.size := by omega
            have c2 : ((x[0].toNat : Int) == 91) = true := by rw [h2]; rfl
            have hxw : (x.size : Int) - 1 < (x.size : Int) := by omega
            have hxw0 : (0 : Int) ≤ (x.size : Int) - 1 := by omega
            have hxn : ((x.size : Int) - 1).toNat = x.size - 1 := by omega
            have c3 : ((x[x.size - 1].toNat : Int) == 93) = false := by
              rw [beq_eq_false_iff_ne]
              intro e
              exact h3 (UInt8.toNat_inj.1 (by show _ = 93; omega))
            have H2 := Lib.hid h2
            have H3 := Lib.hid h3
            clear h2 h3
            go_upto_region 9 with fail
            obtain ⟨y, hy⟩ : ∃ y, y = x := ⟨_, rfl⟩
            have HY := Lib.hid (show parseA y.data.toList = parseA (rtrim (s.data.toList.take k)) by rw [hy, HYN.out, if_neg (fun h => H3.out (by have h4 := h.2.2; rw [List.getElem?_eq_getElem (by omega)] at h4; injection h4))])
            have hys : y.size < 4294967281 := by rw [hy]; omega
            clear HYN H2 H3
            subst hy
            have HPJ := Lib.hid (fun W => rparse_any y hys W)
            rw [show rparseV y.data.toList = .tuple #[.agg (adC (parse3 y.data.toList).1 (parse3 y.data.toList).2.1), .bool (parseA y.data.toList).isSome] by
              unfold rparseV parse3
              cases parseA y.data.toList <;> rfl] at HPJ
            have HRA := Lib.hid (show rAt s.data.toList k n = if (parseA y.data.toList).isSome = true ∧ endsT (parse3 y.data.toList).1 (parse3 y.data.toList).2.1 n = s.data.toList then some ((parse3 y.data.toList).1, (parse3 y.data.toList).2.1, n) else none by
              rw [rAt, ← HY.out]
              unfold parse3
              cases parseA y.data.toList with
              | none => rfl
              | some x =>
                by_cases he : endsT x.1 x.2 n = s.data.toList
                · simp [he]
                · simp [he])
            have hp3 := parse3_ok y.data.toList
            generalize (parseA y.data.toList).isSome = ok at *
            generalize parse3 y.data.toList = pr at *
            obtain ⟨v6, l, er⟩ := pr
            have hl : l.length = 16 := hp3.1
            clear hp3 HY
            dsimp only at *
            have HSA := Lib.hid (show (Tryd.prog.info? 24).map (·.size) = some (adC v6 l).size by rw [adC_size _ _ hl]; exact adSize)
            have HSZ := Lib.hid (show (adC false z16).size = (adC v6 l).size by rw [adC_size _ _ hl]; rfl)
            have HS1 := Lib.hid (adC_one v6 l)
            have hw16 : IntKind.u16.wrap (n : Int) = (n : Int) := by
              simp [IntKind.wrap, IntKind.bits, IntKind.signed]; omega
            have HBU := Lib.hid (built_en v6 l n hl)
            have HSE := Lib.hid (show (Tryd.prog.info? 32).map (·.size) = some (enC v6 l n).size by rw [enC_size _ _ _ hl]; exact enSize)
            have HSF := Lib.hid (show (enC false z16 0).size = (enC v6 l n).size by rw [enC_size _ _ _ hl]; rfl)
            have HS2 := Lib.hid (enC_one v6 l n)
            have HEN := Lib.hid (fun W => rends_any v6 l n hl hn16 W)
            have HZN := Lib.hid (enC_size v6 l n hl)
            clear hl
            go_wp2_with fail
            refine (HPJ.out _).mono ?_
            rintro e w2 ⟨rfl, b⟩
            have B3 := Lib.hid (I.out.1.trans (b.mono I.out.1.size))
            have K3 := Lib.hid (I.out.2.keep b)
            clear b HPJ I
            cases ok with
            | false =>
              go_wp2_with (first | (refine wpList_load_blk 24 (.tmp 7) w2.heap.size 24 (adC v6 l) _ K5.out (by rfl) (by rfl) Tryd.underlying24 rfl HSA.out (by rfl) ?_) | ((with_reducible refine at_build 32 #[(0, .tmp 58), (1, .tmp 60)] ?_); refine wpList_build_eq 32 #[(0, .tmp 58), (1, .tmp 60)] (enC v6 l n) (by rfl) HBU.out (by rfl) ?_) | ((with_reducible refine at_store 24 (.tmp 7) (.tmp 56) ?_); refine wpList_store_blk 24 (.tmp 7) (.tmp 56) w2.heap.size 24 (adC false z16) (adC v6 l) (Blk.new w2 24 (adC false z16)) (by rfl) (by rfl) (by rfl) (by rfl) HSA.out HSZ.out HS1.out (by rfl) ?_; intro w3 hk3 hg3 hs3; have K5 := Lib.hid hk3; have B4 := Lib.hid (print_world B3.out B3.out.size hg3); have K4 := Lib.hid ((K3.out.alloc _).grown hg3 (fun e => by have := Option.some.inj e; have := K3.out.lt; omega)); clear hk3 hg3 hs3) | ((with_reducible refine at_store 32 (.tmp 9) (.tmp 61) ?_); refine wpList_store_blk 32 (.tmp 9) (.tmp 61) w3.heap.size 32 (enC false z16 0) (enC v6 l n) (Blk.new w3 32 (enC false z16 0)) (by rfl) (by rfl) (by rfl) (by rfl) HSE.out HSF.out HS2.out (by rfl) ?_; intro w5 hk5 hg5 hs5; have K9 := Lib.hid hk5; have B6 := Lib.hid (print_world B4.out B4.out.size hg5); have K6 := Lib.hid ((K4.out.alloc _).grown hg5 (fun e => by have := Option.some.inj e; have := K4.out.lt; omega)); clear hk5 hg5 hs5))
              clear K5 K9
              have HNX := Lib.hid (show ∀ j n, j < k + 1 → s.data.toList[j]? = some 58 → numL (s.data.toList.drop (j + 1)) 65535 = some n → rAt s.data.toList j n = none from fun j n hj h58 hnum => by
                by_cases hjk : j < k
                · exact HA.out j n hjk h58 hnum
                · obtain rfl : j = k := by omega
                  rw [HNN.out] at hnum
                  injection hnum with hnum
                  rw [← hnum, HRA.out, if_neg (fun h => by cases h.1)])
              clear HRA HA
              go_roundw
              case rel => exact ⟨k + 1, by omega, by go_num, HNX, Lib.hid ⟨B6.out, K6.out⟩⟩
              case measure => simp [intOf]; omega
            | true =>
              go_wp2_with (first | (refine wpList_load_blk 24 (.tmp 7) w2.heap.size 24 (adC v6 l) _ K5.out (by rfl) (by rfl) Tryd.underlying24 rfl HSA.out (by rfl) ?_) | ((with_reducible refine at_build 32 #[(0, .tmp 58), (1, .tmp 60)] ?_); refine wpList_build_eq 32 #[(0, .tmp 58), (1, .tmp 60)] (enC v6 l n) (by rfl) HBU.out (by rfl) ?_) | ((with_reducible refine at_store 24 (.tmp 7) (.tmp 56) ?_); refine wpList_store_blk 24 (.tmp 7) (.tmp 56) w2.heap.size 24 (adC false z16) (adC v6 l) (Blk.new w2 24 (adC false z16)) (by rfl) (by rfl) (by rfl) (by rfl) HSA.out HSZ.out HS1.out (by rfl) ?_; intro w3 hk3 hg3 hs3; have K5 := Lib.hid hk3; have B4 := Lib.hid (print_world B3.out B3.out.size hg3); have K4 := Lib.hid ((K3.out.alloc _).grown hg3 (fun e => by have := Option.some.inj e; have := K3.out.lt; omega)); clear hk3 hg3 hs3) | ((with_reducible refine at_store 32 (.tmp 9) (.tmp 61) ?_); refine wpList_store_blk 32 (.tmp 9) (.tmp 61) w3.heap.size 32 (enC false z16 0) (enC v6 l n) (Blk.new w3 32 (enC false z16 0)) (by rfl) (by rfl) (by rfl) (by rfl) HSE.out HSF.out HS2.out (by rfl) ?_; intro w5 hk5 hg5 hs5; have K9 := Lib.hid hk5; have B6 := Lib.hid (print_world B4.out B4.out.size hg5); have K6 := Lib.hid ((K4.out.alloc _).grown hg5 (fun e => by have := Option.some.inj e; have := K4.out.lt; omega)); clear hk5 hg5 hs5) | (refine wpList_load_blk 32 (.tmp 9) w3.heap.size 32 (enC v6 l n) _ K9.out (by rfl) (by rfl) Tryd.underlying32 rfl HSE.out (by rfl) ?_))
              refine (HEN.out _).mono ?_
              rintro e w6 ⟨rfl, b⟩
              have K7 := Lib.hid (K6.out.keep b)
              have K10 := Lib.hid (K9.out.keep b)
              have B7 := Lib.hid (B6.out.trans (b.mono B6.out.size))
              clear b K6 K9 B6 HEN
              by_cases hts : endsT v6 l n = s.data.toList
              · have HR := Lib.hid (show rpeV s = .tuple #[.agg (enC v6 l n), .bool true] by
                  have h1 := rAt_sound hn16 (show rAt s.data.toList k n = some (v6, l, n) by rw [HRA.out, if_pos ⟨by trivial, hts⟩])
                  rw [mkB_of] at h1
                  rw [rpeV, h1])
                rw [hts]
                clear HRA HA hts
                go_wp2_with (first | (refine wpList_load_blk 32 (.tmp 9) w3.heap.size 32 (enC v6 l n) _ K10.out (by rfl) (by rfl) Tryd.underlying32 rfl HSE.out (by rfl) ?_) | ((with_reducible refine at_store 32 (.tmp 2) (.tmp 69) ?_); refine wpList_store_blk 32 (.tmp 2) (.tmp 69) w.heap.size 32 (enC false z16 0) (enC v6 l n) K7.out (by rfl) (by rfl) (by rfl) (by rfl) HSE.out HSF.out HS2.out (by rfl) ?_; intro w9 hk9 hg9 hs9; have V9 := Lib.hid hk9; have G9 := Lib.hid (And.intro hg9 hs9); clear hk9 hg9 hs9))
                exact bodyPost_ret (v := .tuple #[.agg (enC v6 l n), .bool true]) (results_en Tryd.results18 _ _ w.heap.size (enC v6 l n) rfl V9.out HZN.out) rfl ⟨by rw [HR.out], B7.out.grown G9.out.1 B7.out.size (fun k e => by cases e; exact Nat.le_refl _)⟩
              · have hne : ((⟨(endsT v6 l n).toArray⟩ : ByteArray).toList == s.toList) = false := str_ne (fun e => hts (by rw [← e]))
                have hne2 : (endsT v6 l n == s.toList) = false := by
                  rw [beq_eq_false_iff_ne]
                  intro e
                  rw [ByteArray.toList_eq] at e
                  exact hts e
                have HNX := Lib.hid (show ∀ j n, j < k + 1 → s.data.toList[j]? = some 58 → numL (s.data.toList.drop (j + 1)) 65535 = some n → rAt s.data.toList j n = none from fun j n hj h58 hnum => by
                  by_cases hjk : j < k
                  · exact HA.out j n hjk h58 hnum
                  · obtain rfl : j = k := by omega
                    rw [HNN.out] at hnum
                    injection hnum with hnum
                    rw [← hnum, HRA.out, if_neg (fun h => hts h.2)])
                clear HRA HA hts
                generalize endsT v6 l n = t at *
                go_wp2_with fail
                go_roundw
                case rel => exact ⟨k + 1, by omega, by go_num, HNX, Lib.hid ⟨B7.out, K7.out⟩⟩
                case measure => simp [intOf]; omega
          have h1' : (1 : Int) < (x.size : Int) := by omega
          have hx0 : 0 < x.size := by omega
          have c2 : ((x[0].toNat : Int) == 91) = true := by rw [h2]; rfl
          have hxw : (x.size : Int) - 1 < (x.size : Int) := by omega
          have hxw0 : (0 : Int) ≤ (x.size : Int) - 1 := by omega
          have hxn : ((x.size : Int) - 1).toNat = x.size - 1 := by omega
          have c3 : ((x[x.size - 1].toNat : Int) == 93) = true := by rw [h3]; rfl
          have hxw1 : (1 : Int) ≤ (x.size : Int) - 1 := by omega
          have hxw2 : (x.size : Int) - 1 ≤ (x.size : Int) := by omega
          have H2 := Lib.hid h2
          have H3 := Lib.hid h3
          clear h2 h3
          go_upto_region 9 with fail
          obtain ⟨y, hy⟩ : ∃ y, y = x.extract 1 (x.size - 1) := ⟨_, rfl⟩
          have HY := Lib.hid (show parseA y.data.toList = parseA (rtrim (s.data.toList.take k)) by
            rw [hy, HYN.out, if_pos ⟨h1, by rw [List.getElem?_eq_getElem (by omega)]; exact congrArg some H2.out, by rw [List.getElem?_eq_getElem (by omega)]; exact congrArg some H3.out⟩, extract_mkB]
            simp only [mkB]
            rw [show x.size - 1 - 1 = x.size - 2 by omega])
          have hys : y.size < 4294967281 := by rw [hy, ByteArray.size_extract]; omega
          rw [← hy]
          clear HYN hy H2 H3
          have HPJ := Lib.hid (fun W => rparse_any y hys W)
          rw [show rparseV y.data.toList = .tuple #[.agg (adC (parse3 y.data.toList).1 (parse3 y.data.toList).2.1), .bool (parseA y.data.toList).isSome] by
            unfold rparseV parse3
            cases parseA y.data.toList <;> rfl] at HPJ
          have HRA := Lib.hid (show rAt s.data.toList k n = if (parseA y.data.toList).isSome = true ∧ endsT (parse3 y.data.toList).1 (parse3 y.data.toList).2.1 n = s.data.toList then some ((parse3 y.data.toList).1, (parse3 y.data.toList).2.1, n) else none by
            rw [rAt, ← HY.out]
            unfold parse3
            cases parseA y.data.toList with
            | none => rfl
            | some x =>
              by_cases he : endsT x.1 x.2 n = s.data.toList
              · simp [he]
              · simp [he])
          have hp3 := parse3_ok y.data.toList
          generalize (parseA y.data.toList).isSome = ok at *
          generalize parse3 y.data.toList = pr at *
          obtain ⟨v6, l, er⟩ := pr
          have hl : l.length = 16 := hp3.1
          clear hp3 HY
          dsimp only at *
          have HSA := Lib.hid (show (Tryd.prog.info? 24).map (·.size) = some (adC v6 l).size by rw [adC_size _ _ hl]; exact adSize)
          have HSZ := Lib.hid (show (adC false z16).size = (adC v6 l).size by rw [adC_size _ _ hl]; rfl)
          have HS1 := Lib.hid (adC_one v6 l)
          have hw16 : IntKind.u16.wrap (n : Int) = (n : Int) := by
            simp [IntKind.wrap, IntKind.bits, IntKind.signed]; omega
          have HBU := Lib.hid (built_en v6 l n hl)
          have HSE := Lib.hid (show (Tryd.prog.info? 32).map (·.size) = some (enC v6 l n).size by rw [enC_size _ _ _ hl]; exact enSize)
          have HSF := Lib.hid (show (enC false z16 0).size = (enC v6 l n).size by rw [enC_size _ _ _ hl]; rfl)
          have HS2 := Lib.hid (enC_one v6 l n)
          have HEN := Lib.hid (fun W => rends_any v6 l n hl hn16 W)
          have HZN := Lib.hid (enC_size v6 l n hl)
          clear hl
          go_wp2_with fail
          refine (HPJ.out _).mono ?_
          rintro e w2 ⟨rfl, b⟩
          have B3 := Lib.hid (I.out.1.trans (b.mono I.out.1.size))
          have K3 := Lib.hid (I.out.2.keep b)
          clear b HPJ I
          cases ok with
          | false =>
            go_wp2_with (first | (refine wpList_load_blk 24 (.tmp 7) w2.heap.size 24 (adC v6 l) _ K5.out (by rfl) (by rfl) Tryd.underlying24 rfl HSA.out (by rfl) ?_) | ((with_reducible refine at_build 32 #[(0, .tmp 58), (1, .tmp 60)] ?_); refine wpList_build_eq 32 #[(0, .tmp 58), (1, .tmp 60)] (enC v6 l n) (by rfl) HBU.out (by rfl) ?_) | ((with_reducible refine at_store 24 (.tmp 7) (.tmp 56) ?_); refine wpList_store_blk 24 (.tmp 7) (.tmp 56) w2.heap.size 24 (adC false z16) (adC v6 l) (Blk.new w2 24 (adC false z16)) (by rfl) (by rfl) (by rfl) (by rfl) HSA.out HSZ.out HS1.out (by rfl) ?_; intro w3 hk3 hg3 hs3; have K5 := Lib.hid hk3; have B4 := Lib.hid (print_world B3.out B3.out.size hg3); have K4 := Lib.hid ((K3.out.alloc _).grown hg3 (fun e => by have := Option.some.inj e; have := K3.out.lt; omega)); clear hk3 hg3 hs3) | ((with_reducible refine at_store 32 (.tmp 9) (.tmp 61) ?_); refine wpList_store_blk 32 (.tmp 9) (.tmp 61) w3.heap.size 32 (enC false z16 0) (enC v6 l n) (Blk.new w3 32 (enC false z16 0)) (by rfl) (by rfl) (by rfl) (by rfl) HSE.out HSF.out HS2.out (by rfl) ?_; intro w5 hk5 hg5 hs5; have K9 := Lib.hid hk5; have B6 := Lib.hid (print_world B4.out B4.out.size hg5); have K6 := Lib.hid ((K4.out.alloc _).grown hg5 (fun e => by have := Option.some.inj e; have := K4.out.lt; omega)); clear hk5 hg5 hs5))
            clear K5 K9
            have HNX := Lib.hid (show ∀ j n, j < k + 1 → s.data.toList[j]? = some 58 → numL (s.data.toList.drop (j + 1)) 65535 = some n → rAt s.data.toList j n = none from fun j n hj h58 hnum => by
              by_cases hjk : j < k
              · exact HA.out j n hjk h58 hnum
              · obtain rfl : j = k := by omega
                rw [HNN.out] at hnum
                injection hnum with hnum
                rw [← hnum, HRA.out, if_neg (fun h => by cases h.1)])
            clear HRA HA
            go_roundw
            case rel => exact ⟨k + 1, by omega, by go_num, HNX, Lib.hid ⟨B6.out, K6.out⟩⟩
            case measure => simp [intOf]; omega
          | true =>
            go_wp2_with (first | (refine wpList_load_blk 24 (.tmp 7) w2.heap.size 24 (adC v6 l) _ K5.out (by rfl) (by rfl) Tryd.underlying24 rfl HSA.out (by rfl) ?_) | ((with_reducible refine at_build 32 #[(0, .tmp 58), (1, .tmp 60)] ?_); refine wpList_build_eq 32 #[(0, .tmp 58), (1, .tmp 60)] (enC v6 l n) (by rfl) HBU.out (by rfl) ?_) | ((with_reducible refine at_store 24 (.tmp 7) (.tmp 56) ?_); refine wpList_store_blk 24 (.tmp 7) (.tmp 56) w2.heap.size 24 (adC false z16) (adC v6 l) (Blk.new w2 24 (adC false z16)) (by rfl) (by rfl) (by rfl) (by rfl) HSA.out HSZ.out HS1.out (by rfl) ?_; intro w3 hk3 hg3 hs3; have K5 := Lib.hid hk3; have B4 := Lib.hid (print_world B3.out B3.out.size hg3); have K4 := Lib.hid ((K3.out.alloc _).grown hg3 (fun e => by have := Option.some.inj e; have := K3.out.lt; omega)); clear hk3 hg3 hs3) | ((with_reducible refine at_store 32 (.tmp 9) (.tmp 61) ?_); refine wpList_store_blk 32 (.tmp 9) (.tmp 61) w3.heap.size 32 (enC false z16 0) (enC v6 l n) (Blk.new w3 32 (enC false z16 0)) (by rfl) (by rfl) (by rfl) (by rfl) HSE.out HSF.out HS2.out (by rfl) ?_; intro w5 hk5 hg5 hs5; have K9 := Lib.hid hk5; have B6 := Lib.hid (print_world B4.out B4.out.size hg5); have K6 := Lib.hid ((K4.out.alloc _).grown hg5 (fun e => by have := Option.some.inj e; have := K4.out.lt; omega)); clear hk5 hg5 hs5) | (refine wpList_load_blk 32 (.tmp 9) w3.heap.size 32 (enC v6 l n) _ K9.out (by rfl) (by rfl) Tryd.underlying32 rfl HSE.out (by rfl) ?_))
            refine (HEN.out _).mono ?_
            rintro e w6 ⟨rfl, b⟩
            have K7 := Lib.hid (K6.out.keep b)
            have K10 := Lib.hid (K9.out.keep b)
            have B7 := Lib.hid (B6.out.trans (b.mono B6.out.size))
            clear b K6 K9 B6 HEN
            by_cases hts : endsT v6 l n = s.data.toList
            · have HR := Lib.hid (show rpeV s = .tuple #[.agg (enC v6 l n), .bool true] by
                have h1 := rAt_sound hn16 (show rAt s.data.toList k n = some (v6, l, n) by rw [HRA.out, if_pos ⟨by trivial, hts⟩])
                rw [mkB_of] at h1
                rw [rpeV, h1])
              rw [hts]
              clear HRA HA hts
              go_wp2_with (first | (refine wpList_load_blk 32 (.tmp 9) w3.heap.size 32 (enC v6 l n) _ K10.out (by rfl) (by rfl) Tryd.underlying32 rfl HSE.out (by rfl) ?_) | ((with_reducible refine at_store 32 (.tmp 2) (.tmp 69) ?_); refine wpList_store_blk 32 (.tmp 2) (.tmp 69) w.heap.size 32 (enC false z16 0) (enC v6 l n) K7.out (by rfl) (by rfl) (by rfl) (by rfl) HSE.out HSF.out HS2.out (by rfl) ?_; intro w9 hk9 hg9 hs9; have V9 := Lib.hid hk9; have G9 := Lib.hid (And.intro hg9 hs9); clear hk9 hg9 hs9))
              exact bodyPost_ret (v := .tuple #[.agg (enC v6 l n), .bool true]) (results_en Tryd.results18 _ _ w.heap.size (enC v6 l n) rfl V9.out HZN.out) rfl ⟨by rw [HR.out], B7.out.grown G9.out.1 B7.out.size (fun k e => by cases e; exact Nat.le_refl _)⟩
            · have hne : ((⟨(endsT v6 l n).toArray⟩ : ByteArray).toList == s.toList) = false := str_ne (fun e => hts (by rw [← e]))
              have hne2 : (endsT v6 l n == s.toList) = false := by
                rw [beq_eq_false_iff_ne]
                intro e
                rw [ByteArray.toList_eq] at e
                exact hts e
              have HNX := Lib.hid (show ∀ j n, j < k + 1 → s.data.toList[j]? = some 58 → numL (s.data.toList.drop (j + 1)) 65535 = some n → rAt s.data.toList j n = none from fun j n hj h58 hnum => by
                by_cases hjk : j < k
                · exact HA.out j n hjk h58 hnum
                · obtain rfl : j = k := by omega
                  rw [HNN.out] at hnum
                  injection hnum with hnum
                  rw [← hnum, HRA.out, if_neg (fun h => hts h.2)])
              clear HRA HA hts
              generalize endsT v6 l n = t at *
              go_wp2_with fail
              go_roundw
              case rel => exact ⟨k + 1, by omega, by go_num, HNX, Lib.hid ⟨B7.out, K7.out⟩⟩
              case measure => simp [intOf]; omega

    · have HR := Lib.hid (show rpeV s = .tuple #[.agg (enC false z16 0), .bool false] by
        have h1 := rAt_none (s := s.data.toList) (fun j n h58 hnum => HA.out j n (by
          rcases Nat.lt_or_ge j s.size with h | h
          · omega
          · rw [List.getElem?_eq_none (by omega)] at h58; cases h58) h58 hnum)
        rw [mkB_of] at h1
        rw [rpeV, h1])
      obtain rfl : k = s.size := by omega
      clear HA
      go_wp2_with (first | ((with_reducible refine at_build 32 #[] ?_); refine wpList_build_eq 32 #[] (enC false z16 0) (by rfl) HB0.out (by rfl) ?_) | ((with_reducible refine at_store 32 (.tmp 2) (.tmp 70) ?_); refine wpList_store_blk 32 (.tmp 2) (.tmp 70) w.heap.size 32 (enC false z16 0) (enC false z16 0) I.out.2 (by rfl) (by rfl) (by rfl) (by rfl) HSE0.out (by rfl) (by rfl) (by rfl) ?_; intro w9 hk9 hg9 hs9; have V9 := Lib.hid hk9; have G9 := Lib.hid (And.intro hg9 hs9); clear hk9 hg9 hs9))
      exact bodyPost_ret (v := .tuple #[.agg (enC false z16 0), .bool false]) (results_en Tryd.results18 _ _ w.heap.size (enC false z16 0) rfl V9.out (enC_size _ _ _ (by rfl))) rfl ⟨by rw [HR.out], I.out.1.grown G9.out.1 I.out.1.size (fun k e => by cases e; exact Nat.le_refl _)⟩

end Go.Proofs.YtgdnckglfhabnaaDoor
