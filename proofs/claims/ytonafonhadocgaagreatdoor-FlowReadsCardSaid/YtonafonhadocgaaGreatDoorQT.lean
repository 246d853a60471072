/- Laws and walks that the claim's last text leans on, joined: each part says above itself what it proves. -/
import Derived.Test.YtonafonhadocgaaGreatDoorQS
import Derived.Test.YtonafonhadocgaaGreatDoorQL

/- The reference's ParseKey of chapter 28. -/
namespace Go.Proofs.YtonafonhadocgaaGreatDoor
open Go.RowKit Go.Shelf

/-- What the reference's ParseKey returns. -/
def rkeyV (l : List UInt8) : Value := match keyP l with
  | some (a, b, x) => .tuple #[.agg (keC a b x), .bool true]
  | none => .tuple #[.agg (keC zE zE 0), .bool false]
theorem built_kx (a b : En) (x : Nat) (ha : a.2.1.length = 16) (hb : b.2.1.length = 16) : Tryz.prog.built 36 [(0, .agg (flC a b)), (1, .int .u64 (x : Int))] = some (keC a b x) := by
  obtain ⟨u, l, p⟩ := a
  obtain ⟨v, m, q⟩ := b
  obtain ⟨b0, b1, b2, b3, b4, b5, b6, b7, b8, b9, b10, b11, b12, b13, b14, b15, rfl⟩ := sixteen l ha
  obtain ⟨c0, c1, c2, c3, c4, c5, c6, c7, c8, c9, c10, c11, c12, c13, c14, c15, rfl⟩ := sixteen m hb
  kernel_rfl
theorem rf_ways (x : List UInt8) : ∃ (a b : En) (ok : Bool), a.2.1.length = 16 ∧ b.2.1.length = 16 ∧ rflV x = .tuple #[.agg (flC a b), .bool ok] ∧ ((ok = true ∧ flowP x = some (a, b)) ∨ (ok = false ∧ flowP x = none)) := by
  unfold rflV
  cases h : flowP x with
  | none => exact ⟨zE, zE, false, rfl, rfl, rfl, .inr ⟨rfl, rfl⟩⟩
  | some y =>
    obtain ⟨_, h1, h2⟩ := flowP_sound (a := y.1) (b := y.2) h
    exact ⟨y.1, y.2, true, h1.len, h2.len, rfl, .inl ⟨rfl, rfl⟩⟩
theorem rfold_step {d : List UInt8} {j v : Nat} {c : UInt8} (h : rfold (d.take j) = some v) (hc : d[j]? = some c) : rfold (d.take (j + 1)) = if isLo c then some ((16 * v + loN c) % 18446744073709551616) else none := by
  unfold rfold at *
  rw [List.take_add_one, hc, List.foldl_append, h]
  rfl
theorem rfold_bad {d : List UInt8} {j : Nat} (h : rfold (d.take j) = none) : rfold d = none := by
  have e : d = d.take j ++ d.drop j := (List.take_append_drop j d).symm
  rw [e]
  unfold rfold at *
  rw [List.foldl_append, h, rfold_none]
theorem rfold_lt {d : List UInt8} {v : Nat} (h : rfold d = some v) : v < 18446744073709551616 := by
  refine snoc_ind (P := fun d => ∀ v, rfold d = some v → v < 18446744073709551616) ?_ ?_ d v h
  · intro v h
    injection h with h
    omega
  · intro l x ih v h
    unfold rfold at *
    rw [List.foldl_append] at h
    cases hl : List.foldl (fun o c => o.bind fun k => if isLo c then some ((16 * k + loN c) % 18446744073709551616) else none) (some 0) l with
    | none => rw [hl] at h; cases h
    | some k =>
      rw [hl] at h
      simp only [List.foldl_cons, List.foldl_nil, Option.bind_some] at h
      split at h
      · injection h with h
        omega
      · cases h
theorem isLo_ways (c : UInt8) : (48 ≤ c.toNat ∧ c.toNat ≤ 57 ∧ isLo c = true ∧ loN c = c.toNat - 48) ∨ (97 ≤ c.toNat ∧ c.toNat ≤ 102 ∧ isLo c = true ∧ loN c = c.toNat - 87) ∨ (isLo c = false ∧ (c.toNat < 48 ∨ (57 < c.toNat ∧ c.toNat < 97) ∨ 102 < c.toNat)) := by
  unfold isLo loN
  simp
  omega

theorem wrap16 (x c q : Nat) (_hx : x < 18446744073709551616) (hq : q ≤ c) (_hc : c < 256) : IntKind.u64.wrap (IntKind.u64.wrap (16 * (x : Int)) + ((c : Int) - (q : Int))) = (((16 * x + (c - q)) % 18446744073709551616 : Nat) : Int) := by
  simp [IntKind.wrap, IntKind.bits, IntKind.signed]
  omega

set_option maxRecDepth 100000 in
set_option maxHeartbeats 8000000 in
theorem rpkey_any (s : ByteArray) (hs : s.size < 4294967281) (w : World) :
    Calls Tryz.prog 11 #[.string s] w fun e w' => e = .returned (rkeyV s.data.toList) ∧ Below w.heap.size w w' := by
  have hsl : s.data.toList.length = s.size := rfl
  have HBZ := Lib.hid built_kz
  have HYZ := Lib.hid (show (Tryz.prog.info? 36).map (·.size) = some (keC zE zE 0).size from kySize)
  have HZ37 := Lib.hid (show (keC zE zE 0).size = 37 from rfl)
  have HOZ := Lib.hid (keC_one zE zE 0)
  have K0 := Lib.hid (Blk.new w 36 (keC zE zE 0))
  have B0 := Lib.hid ((Below.refl _ w).alloc (Nat.le_refl _) (.cells (keC zE zE 0) 36))
  have HNO := Lib.hid (show rkeyP s.data.toList = none → rkeyV s.data.toList = .tuple #[.agg (keC zE zE 0), .bool false] from fun h => by
    rw [rkeyP_eq] at h
    rw [rkeyV, h])
  by_cases h17 : s.size < 17
  · have HR := Lib.hid (HNO.out (by unfold rkeyP; exact if_pos (.inl (by omega))))
    clear HNO
    go_enter Tryz.func11, Tryz.ntmps11
    go_wp2_with (first | ((with_reducible refine at_build 36 #[] ?_); refine wpList_build_eq 36 #[] (keC zE zE 0) (by rfl) HBZ.out (by rfl) ?_) | ((with_reducible refine at_store 36 (.tmp 2) (.tmp 21) ?_); refine wpList_store_blk 36 (.tmp 2) (.tmp 21) w.heap.size 36 (keC zE zE 0) (keC zE zE 0) K0.out (by rfl) (by rfl) (by rfl) (by rfl) HYZ.out (by rfl) HOZ.out (by rfl) ?_; intro w9 hk hg hs; have V9 := Lib.hid hk; have G9 := Lib.hid (And.intro hg hs); clear hk hg hs))
    exact bodyPost_ret (v := .tuple #[.agg (keC zE zE 0), .bool false]) (results_ke Tryz.results11 _ _ w.heap.size (keC zE zE 0) rfl V9.out HZ37.out) rfl ⟨by rw [HR.out], B0.out.grown G9.out.1 B0.out.size (fun k e => by cases e; exact Nat.le_refl _)⟩
  obtain ⟨at0, hat⟩ : ∃ at0, s.size = at0 + 17 := ⟨s.size - 17, by omega⟩
  have hai : (s.size : Int) - 17 = (at0 : Int) := by omega
  obtain ⟨x0, hx0⟩ : ∃ x0, x0 = s[at0]'(by omega) := ⟨_, rfl⟩
  have HX0 := Lib.hid (show s.data.toList[at0]? = some x0 by rw [hx0, List.getElem?_eq_getElem (by exact (by omega : at0 < s.size))]; rfl)
  by_cases h32 : x0.toNat = 32
  · have hxe : x0 = 32 := UInt8.toNat_inj.1 h32
    have HRK := Lib.hid (show rkeyP s.data.toList = match rfold (s.data.toList.drop (at0 + 1)), flowP (s.data.toList.take at0) with
        | some n, some x => some (x.1, x.2, n)
        | _, _ => none by
      unfold rkeyP
      rw [show s.data.toList.length - 17 = at0 by omega, if_neg (by rw [HX0.out, hxe]; simp; omega)]
      rfl)
    have hxi : (x0.toNat : Int) = 32 := by omega
    have HD16 := Lib.hid (show (s.data.toList.drop (at0 + 1)).length = 16 by rw [List.length_drop]; omega)
    have HDG := Lib.hid (show ∀ j (h : at0 + 1 + j < s.size), (s.data.toList.drop (at0 + 1))[j]? = some (s[at0 + 1 + j]'h) from fun j h => by
      rw [List.getElem?_drop, List.getElem?_eq_getElem (by exact h)]
      rfl)
    have HS := Lib.hid hat
    generalize hd : s.data.toList.drop (at0 + 1) = d at *
    clear hd
    go_enter Tryz.func11, Tryz.ntmps11
    have h32i : ((s[at0]'(by omega)).toNat : Int) = 32 := by rw [← hx0]; exact hxi
    clear hx0 h32 hxe HX0 hxi h17 hai
    go_upto_region 4 with fail
    clear h32i
    go_wp2_with fail
    go_loopg [5, 6] 16 (fun g v i wr => ∃ j x : Nat, j + g = 16 ∧ i = .int .i64 ((at0 : Int) + 1 + (j : Int)) ∧ v = .int .u64 (x : Int) ∧ Hid (rfold (d.take j) = some x ∧ x < 18446744073709551616) ∧ Hid (Below w.heap.size w wr ∧ Blk wr w.heap.size 36 (keC zE zE 0)))
    case atStart => exact ⟨0, 0, by omega, by simp, rfl, Lib.hid ⟨rfl, by decide⟩, Lib.hid ⟨B0.out, K0.out⟩⟩
    case round =>
      clear B0 K0
      obtain ⟨j, x, hjg, rfl, rfl, J, I⟩ := hrel
      cases gk with
      | zero =>
        obtain rfl : j = 16 := by omega
        have HF := Lib.hid (show rfold d = some x by have h := J.out.1; rwa [List.take_of_length_le (by rw [HD16.out]; exact Nat.le_refl _)] at h)
        clear J
        obtain ⟨a, b, ok, la, lb, hv, HW⟩ := rf_ways (s.data.toList.take at0)
        have HP := Lib.hid (fun W => rfparse_any (s.extract 0 at0) (by rw [ByteArray.size_extract]; omega) W)
        rw [Lib.extract_from_zero, hv] at HP
        have HWW := Lib.hid HW
        have HFS := Lib.hid (show (Tryz.prog.info? 30).map (·.size) = some (flC a b).size by rw [flC_size _ _ la lb]; exact flSize)
        have HFZ := Lib.hid (show (flC zE zE).size = (flC a b).size by rw [flC_size _ _ la lb]; rfl)
        have HFO := Lib.hid (flC_one a b)
        have HBK := Lib.hid (built_kx a b x la lb)
        have HKS := Lib.hid (show (Tryz.prog.info? 36).map (·.size) = some (keC a b x).size by rw [keC_size _ _ _ la lb]; exact kySize)
        have HKZ := Lib.hid (show (keC zE zE 0).size = (keC a b x).size by rw [keC_size _ _ _ la lb]; rfl)
        have HKO := Lib.hid (keC_one a b x)
        have HKN := Lib.hid (keC_size a b x la lb)
        clear HW hv la lb
        go_wp2_with fail
        refine (HP.out _).mono ?_
        rintro e w2 ⟨rfl, b2⟩
        have B2 := Lib.hid (I.out.1.trans (b2.mono I.out.1.size))
        have K2 := Lib.hid (I.out.2.keep b2)
        clear b2 I HP
        go_upto_region 15 with ((with_reducible refine at_store 30 (.tmp 8) (.tmp 63) ?_); refine wpList_store_blk 30 (.tmp 8) (.tmp 63) w2.heap.size 30 (flC zE zE) (flC a b) (Blk.new w2 30 (flC zE zE)) (by rfl) (by rfl) (by rfl) (by rfl) HFS.out HFZ.out HFO.out (by rfl) ?_; intro w3 hk hg hs; have KF := Lib.hid hk; have B3 := Lib.hid (print_world B2.out B2.out.size hg); have K3 := Lib.hid ((K2.out.alloc _).grown hg (fun e => by have := Option.some.inj e; have := K2.out.lt; omega)); clear hk hg hs)
        clear B2 K2
        rcases HWW.out with ⟨rfl, ea⟩ | ⟨rfl, ea⟩
        · have HR := Lib.hid (show rkeyV s.data.toList = .tuple #[.agg (keC a b x), .bool true] by
            have h : keyP s.data.toList = some (a, b, x) := by rw [← rkeyP_eq, HRK.out, HF.out, ea]
            rw [rkeyV, h])
          clear HWW ea HF HRK
          go_wp2_with (first | (refine wpList_load_blk 30 (.tmp 8) w2.heap.size 30 (flC a b) _ KF.out (by rfl) (by rfl) Tryz.underlying30 rfl HFS.out (by rfl) ?_) | ((with_reducible refine at_build 36 #[(0, .tmp 68), (1, .tmp 69)] ?_); refine wpList_build_eq 36 #[(0, .tmp 68), (1, .tmp 69)] (keC a b x) (by rfl) HBK.out (by rfl) ?_) | ((with_reducible refine at_store 36 (.tmp 2) (.tmp 70) ?_); refine wpList_store_blk 36 (.tmp 2) (.tmp 70) w.heap.size 36 (keC zE zE 0) (keC a b x) K3.out (by rfl) (by rfl) (by rfl) (by rfl) HKS.out HKZ.out HKO.out (by rfl) ?_; intro w9 hk hg hs; have V9 := Lib.hid hk; have G9 := Lib.hid (And.intro hg hs); clear hk hg hs))
          exact bodyPost_ret (v := .tuple #[.agg (keC a b x), .bool true]) (results_ke Tryz.results11 _ _ w.heap.size (keC a b x) rfl V9.out HKN.out) rfl ⟨by rw [HR.out], B3.out.grown G9.out.1 B3.out.size (fun k e => by cases e; exact Nat.le_refl _)⟩
        · have HR := Lib.hid (HNO.out (by rw [HRK.out, HF.out, ea]))
          clear HWW ea HF HRK
          go_wp2_with (first | ((with_reducible refine at_build 36 #[] ?_); refine wpList_build_eq 36 #[] (keC zE zE 0) (by rfl) HBZ.out (by rfl) ?_) | ((with_reducible refine at_store 36 (.tmp 2) (.tmp 67) ?_); refine wpList_store_blk 36 (.tmp 2) (.tmp 67) w.heap.size 36 (keC zE zE 0) (keC zE zE 0) K3.out (by rfl) (by rfl) (by rfl) (by rfl) HYZ.out (by rfl) HOZ.out (by rfl) ?_; intro w9 hk hg hs; have V9 := Lib.hid hk; have G9 := Lib.hid (And.intro hg hs); clear hk hg hs))
          exact bodyPost_ret (v := .tuple #[.agg (keC zE zE 0), .bool false]) (results_ke Tryz.results11 _ _ w.heap.size (keC zE zE 0) rfl V9.out HZ37.out) rfl ⟨by rw [HR.out], B3.out.grown G9.out.1 B3.out.size (fun k e => by cases e; exact Nat.le_refl _)⟩
      | succ g3 =>
        have hjs : at0 + 1 + j < s.size := by omega
        have HST := Lib.hid (rfold_step J.out.1 (HDG.out j hjs))
        have hxl := J.out.2
        have hcl := (s[at0 + 1 + j]'hjs).toNat_lt
        rcases isLo_ways (s[at0 + 1 + j]'hjs) with ⟨c1, c2, e1, e2⟩ | ⟨c1, c2, e1, e2⟩ | ⟨e1, e2⟩
        · rw [e1, e2, if_pos rfl] at HST
          clear e1 e2
          have c1' : (48 : Int) ≤ ((s[at0 + 1 + j]'hjs).toNat : Int) := by omega
          have c2' : ((s[at0 + 1 + j]'hjs).toNat : Int) ≤ 57 := by omega
          have hw : IntKind.u64.wrap (IntKind.u64.wrap (16 * (x : Int)) + (((s[at0 + 1 + j]'hjs).toNat : Int) - 48)) = (((16 * x + ((s[at0 + 1 + j]'hjs).toNat - 48)) % 18446744073709551616 : Nat) : Int) := wrap16 x _ 48 hxl c1 (by omega)
          have HW := Lib.hid hw
          clear hw
          have HZ := Lib.hid (show (16 * x + ((s[at0 + 1 + j]'hjs).toNat - 48)) % 18446744073709551616 < 18446744073709551616 from Nat.mod_lt _ (by decide))
          generalize (16 * x + ((s[at0 + 1 + j]'hjs).toNat - 48)) % 18446744073709551616 = z at *
          clear J hcl hxl c1 c2
          go_wp2_with fail
          go_roundg g3
          case measure => omega
          case rel => exact ⟨j + 1, z, by omega, by go_num, by rw [HW.out], Lib.hid ⟨HST.out, HZ.out⟩, I⟩
        · rw [e1, e2, if_pos rfl] at HST
          clear e1 e2
          have c0' : ¬ ((s[at0 + 1 + j]'hjs).toNat : Int) ≤ 57 := by omega
          have c0'' : (48 : Int) ≤ ((s[at0 + 1 + j]'hjs).toNat : Int) := by omega
          have c1' : (97 : Int) ≤ ((s[at0 + 1 + j]'hjs).toNat : Int) := by omega
          have c2' : ((s[at0 + 1 + j]'hjs).toNat : Int) ≤ 102 := by omega
          have hw : IntKind.u64.wrap (IntKind.u64.wrap (16 * (x : Int)) + (((s[at0 + 1 + j]'hjs).toNat : Int) - 87)) = (((16 * x + ((s[at0 + 1 + j]'hjs).toNat - 87)) % 18446744073709551616 : Nat) : Int) := wrap16 x _ 87 hxl (by omega) (by omega)
          have HW := Lib.hid hw
          clear hw
          have HZ := Lib.hid (show (16 * x + ((s[at0 + 1 + j]'hjs).toNat - 87)) % 18446744073709551616 < 18446744073709551616 from Nat.mod_lt _ (by decide))
          generalize (16 * x + ((s[at0 + 1 + j]'hjs).toNat - 87)) % 18446744073709551616 = z at *
          clear J hcl hxl c1 c2
          go_wp2_with fail
          go_roundg g3
          case measure => omega
          case rel => exact ⟨j + 1, z, by omega, by go_num, by rw [HW.out], Lib.hid ⟨HST.out, HZ.out⟩, I⟩
        · rw [e1] at HST
          have HR := Lib.hid (HNO.out (by rw [HRK.out, rfold_bad (by rw [HST.out]; rfl)]))
          clear e1 J HST hcl hxl
          rcases e2 with e2 | ⟨e2, e3⟩ | e2
          · have c1' : ¬ (48 : Int) ≤ ((s[at0 + 1 + j]'hjs).toNat : Int) := by omega
            have c2' : ¬ (97 : Int) ≤ ((s[at0 + 1 + j]'hjs).toNat : Int) := by omega
            go_wp2_with (first | ((with_reducible refine at_build 36 #[] ?_); refine wpList_build_eq 36 #[] (keC zE zE 0) (by rfl) HBZ.out (by rfl) ?_) | ((with_reducible refine at_store 36 (.tmp 2) (.tmp 57) ?_); refine wpList_store_blk 36 (.tmp 2) (.tmp 57) w.heap.size 36 (keC zE zE 0) (keC zE zE 0) I.out.2 (by rfl) (by rfl) (by rfl) (by rfl) HYZ.out (by rfl) HOZ.out (by rfl) ?_; intro w9 hk hg hs; have V9 := Lib.hid hk; have G9 := Lib.hid (And.intro hg hs); clear hk hg hs))
            exact bodyPost_ret (v := .tuple #[.agg (keC zE zE 0), .bool false]) (results_ke Tryz.results11 _ _ w.heap.size (keC zE zE 0) rfl V9.out HZ37.out) rfl ⟨by rw [HR.out], I.out.1.grown G9.out.1 I.out.1.size (fun k e => by cases e; exact Nat.le_refl _)⟩
          · have c1' : (48 : Int) ≤ ((s[at0 + 1 + j]'hjs).toNat : Int) := by omega
            have c2' : ¬ ((s[at0 + 1 + j]'hjs).toNat : Int) ≤ 57 := by omega
            have c3' : ¬ (97 : Int) ≤ ((s[at0 + 1 + j]'hjs).toNat : Int) := by omega
            go_wp2_with (first | ((with_reducible refine at_build 36 #[] ?_); refine wpList_build_eq 36 #[] (keC zE zE 0) (by rfl) HBZ.out (by rfl) ?_) | ((with_reducible refine at_store 36 (.tmp 2) (.tmp 57) ?_); refine wpList_store_blk 36 (.tmp 2) (.tmp 57) w.heap.size 36 (keC zE zE 0) (keC zE zE 0) I.out.2 (by rfl) (by rfl) (by rfl) (by rfl) HYZ.out (by rfl) HOZ.out (by rfl) ?_; intro w9 hk hg hs; have V9 := Lib.hid hk; have G9 := Lib.hid (And.intro hg hs); clear hk hg hs))
            exact bodyPost_ret (v := .tuple #[.agg (keC zE zE 0), .bool false]) (results_ke Tryz.results11 _ _ w.heap.size (keC zE zE 0) rfl V9.out HZ37.out) rfl ⟨by rw [HR.out], I.out.1.grown G9.out.1 I.out.1.size (fun k e => by cases e; exact Nat.le_refl _)⟩
          · have c1' : (48 : Int) ≤ ((s[at0 + 1 + j]'hjs).toNat : Int) := by omega
            have c2' : ¬ ((s[at0 + 1 + j]'hjs).toNat : Int) ≤ 57 := by omega
            have c3' : (97 : Int) ≤ ((s[at0 + 1 + j]'hjs).toNat : Int) := by omega
            have c4' : ¬ ((s[at0 + 1 + j]'hjs).toNat : Int) ≤ 102 := by omega
            go_wp2_with (first | ((with_reducible refine at_build 36 #[] ?_); refine wpList_build_eq 36 #[] (keC zE zE 0) (by rfl) HBZ.out (by rfl) ?_) | ((with_reducible refine at_store 36 (.tmp 2) (.tmp 57) ?_); refine wpList_store_blk 36 (.tmp 2) (.tmp 57) w.heap.size 36 (keC zE zE 0) (keC zE zE 0) I.out.2 (by rfl) (by rfl) (by rfl) (by rfl) HYZ.out (by rfl) HOZ.out (by rfl) ?_; intro w9 hk hg hs; have V9 := Lib.hid hk; have G9 := Lib.hid (And.intro hg hs); clear hk hg hs))
            exact bodyPost_ret (v := .tuple #[.agg (keC zE zE 0), .bool false]) (results_ke Tryz.results11 _ _ w.heap.size (keC zE zE 0) rfl V9.out HZ37.out) rfl ⟨by rw [HR.out], I.out.1.grown G9.out.1 I.out.1.size (fun k e => by cases e; exact Nat.le_refl _)⟩
  · have HR := Lib.hid (HNO.out (by
      unfold rkeyP
      rw [show s.data.toList.length - 17 = at0 by omega, if_pos (.inr (by rw [HX0.out]; intro e; injection e with e; exact h32 (by rw [e]; rfl)))]))
    have h32i : ¬ ((s[at0]'(by omega)).toNat : Int) = 32 := by rw [← hx0]; omega
    have h32b : (((s[at0]'(by omega)).toNat : Int) != 32) = true := bne_iff_ne.2 h32i
    clear hx0 h32 HX0 h17 HNO
    go_enter Tryz.func11, Tryz.ntmps11
    go_wp2_with (first | ((with_reducible refine at_build 36 #[] ?_); refine wpList_build_eq 36 #[] (keC zE zE 0) (by rfl) HBZ.out (by rfl) ?_) | ((with_reducible refine at_store 36 (.tmp 2) (.tmp 21) ?_); refine wpList_store_blk 36 (.tmp 2) (.tmp 21) w.heap.size 36 (keC zE zE 0) (keC zE zE 0) K0.out (by rfl) (by rfl) (by rfl) (by rfl) HYZ.out (by rfl) HOZ.out (by rfl) ?_; intro w9 hk hg hs; have V9 := Lib.hid hk; have G9 := Lib.hid (And.intro hg hs); clear hk hg hs))
    exact bodyPost_ret (v := .tuple #[.agg (keC zE zE 0), .bool false]) (results_ke Tryz.results11 _ _ w.heap.size (keC zE zE 0) rfl V9.out HZ37.out) rfl ⟨by rw [HR.out], B0.out.grown G9.out.1 B0.out.size (fun k e => by cases e; exact Nat.le_refl _)⟩
end Go.Proofs.YtonafonhadocgaaGreatDoor
