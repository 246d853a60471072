/- Laws and walks that the claim's last text leans on, joined: each part says above itself what it proves. -/
import Derived.Test.YtonafonhadocgaaGreatDoorQK
import Derived.Test.YtonafonhadocgaaGreatDoorQR
import Derived.Deep.LoopGhost
import Derived.Test.YtonafonhadocgaaGreatDoorQG
import Derived.Laws.RangeAny
import Derived.Lib.OthersKept
import Derived.Test.YtonafonhadocgaaGreatDoorQL

/- The reference's Parse of chapter 28. -/
namespace Go.Proofs.YtonafonhadocgaaGreatDoor
open Go.RowKit Go.Shelf

theorem ext_take (s : ByteArray) (k : Nat) : s.extract 0 k = mkB (s.data.toList.take k) := by
  have : (⟨(s.extract 0 k).data.toList.toArray⟩ : ByteArray) = s.extract 0 k := rfl
  rw [← this, Lib.extract_from_zero]
  rfl
theorem ext_drop (s : ByteArray) (k : Nat) : s.extract k s.size = mkB (s.data.toList.drop k) := by
  have : (⟨(s.extract k s.size).data.toList.toArray⟩ : ByteArray) = s.extract k s.size := rfl
  rw [← this, Lib.extract_to_end]
  rfl
theorem ext_mid (s : ByteArray) (k : Nat) : s.extract k (k + 3) = mkB ((s.data.toList.drop k).take 3) := by
  have h : (s.extract k (k + 3)).data.toList = (s.data.toList.drop k).take 3 := by
    have h1 := Lib.extract_toList s k (k + 3)
    rw [ByteArray.toList_eq, show k + 3 - k = 3 by omega] at h1
    exact h1
  have : (⟨(s.extract k (k + 3)).data.toList.toArray⟩ : ByteArray) = s.extract k (k + 3) := rfl
  rw [← this, h]
  rfl
theorem rpe_ways (x : List UInt8) : ∃ (a : En) (ok : Bool), a.2.1.length = 16 ∧ rpeV (mkB x) = .tuple #[.agg (enC a.1 a.2.1 a.2.2), .bool ok] ∧ ((ok = true ∧ enP x = some a) ∨ (ok = false ∧ enP x = none)) := by
  unfold rpeV enP
  cases h : peL (mkB x) with
  | none => exact ⟨zE, false, rfl, rfl, .inr ⟨rfl, rfl⟩⟩
  | some y => exact ⟨y, true, (enP_sound h).2.len, rfl, .inl ⟨rfl, rfl⟩⟩
/-- What the reference's Parse returns. -/
def rflV (l : List UInt8) : Value := match flowP l with
  | some (a, b) => .tuple #[.agg (flC a b), .bool true]
  | none => .tuple #[.agg (flC zE zE), .bool false]

set_option maxRecDepth 100000 in
set_option maxHeartbeats 8000000 in
theorem rfparse_any (s : ByteArray) (hs : s.size < 4294967281) (w : World) :
    Calls Tryz.prog 10 #[.string s] w fun e w' => e = .returned (rflV s.data.toList) ∧ Below w.heap.size w w' := by
  have hsl : s.data.toList.length = s.size := rfl
  have HBZ := Lib.hid built_z
  have HFY := Lib.hid (show (Tryz.prog.info? 30).map (·.size) = some (flC zE zE).size from flSize)
  have I0 := Lib.hid (And.intro ((Below.refl _ w).alloc (Nat.le_refl _) (.cells (flC zE zE) 30)) (Blk.new w 30 (flC zE zE)))
  have HP := Lib.hid (fun (t : ByteArray) (h : t.size ≤ s.size) W => rparseEnds_any t (by omega) W)
  go_enter Tryz.func10, Tryz.ntmps10
  go_wp2_with fail
  go_loopg [4] (s.size + 1) (fun g i wr => ∃ k : Nat, k + g = s.size + 1 ∧ i = .int .i64 k ∧ Hid (∀ j, j < k → rfAt s.data.toList j = none) ∧ Hid (Below w.heap.size w wr ∧ Blk wr w.heap.size 30 (flC zE zE)))
  case atStart => exact ⟨0, by omega, rfl, Lib.hid (fun j hj => by omega), I0⟩
  case round =>
    clear I0
    obtain ⟨k, hkg, rfl, HN, I⟩ := hrel
    by_cases hk3 : k + 3 ≤ s.size
    · cases gk with
      | zero => omega
      | succ g2 =>
        by_cases harr : (s.data.toList.drop k).take 3 = arrow
        · have hx : s.extract k (k + 3) = ⟨#[32, 62, 32]⟩ := by rw [ext_mid, harr]; rfl
          have HAR := Lib.hid harr
          obtain ⟨a, ok, la, hra, HWA⟩ := rpe_ways (s.data.toList.take k)
          obtain ⟨b, is, lb, hrb, HWB⟩ := rpe_ways (s.data.toList.drop (k + 3))
          have HPA := Lib.hid (fun W => HP.out (s.extract 0 k) (by rw [ByteArray.size_extract]; omega) W)
          have HPB := Lib.hid (fun W => HP.out (s.extract (k + 3) s.size) (by rw [ByteArray.size_extract]; omega) W)
          rw [show rpeV (s.extract 0 k) = .tuple #[.agg (enC a.1 a.2.1 a.2.2), .bool ok] by rw [ext_take]; exact hra] at HPA
          rw [show rpeV (s.extract (k + 3) s.size) = .tuple #[.agg (enC b.1 b.2.1 b.2.2), .bool is] by rw [ext_drop]; exact hrb] at HPB
          have WA := Lib.hid HWA
          have WB := Lib.hid HWB
          have HSA := Lib.hid (show (Tryz.prog.info? 28).map (·.size) = some (enC a.1 a.2.1 a.2.2).size by rw [enC_size _ _ _ la]; exact enSize)
          have HSZA := Lib.hid (show (enC false z16 0).size = (enC a.1 a.2.1 a.2.2).size by rw [enC_size _ _ _ la]; rfl)
          have HSB := Lib.hid (show (Tryz.prog.info? 28).map (·.size) = some (enC b.1 b.2.1 b.2.2).size by rw [enC_size _ _ _ lb]; exact enSize)
          have HSZB := Lib.hid (show (enC false z16 0).size = (enC b.1 b.2.1 b.2.2).size by rw [enC_size _ _ _ lb]; rfl)
          have HOA := Lib.hid (enC_one a.1 a.2.1 a.2.2)
          have HOB := Lib.hid (enC_one b.1 b.2.1 b.2.2)
          have HBU := Lib.hid (built_fl a b la lb)
          have HFS := Lib.hid (show (Tryz.prog.info? 30).map (·.size) = some (flC a b).size by rw [flC_size _ _ la lb]; exact flSize)
          have HFZ := Lib.hid (show (flC zE zE).size = (flC a b).size by rw [flC_size _ _ la lb]; rfl)
          have HFO := Lib.hid (flC_one a b)
          have HFN := Lib.hid (flC_size a b la lb)
          clear harr hra hrb HWA HWB la lb
          go_upto_region 5 with fail
          go_wp2_with fail
          refine (HPA.out _).mono ?_
          rintro e w2 ⟨rfl, b2⟩
          have B2 := Lib.hid (I.out.1.trans (b2.mono I.out.1.size))
          have K2 := Lib.hid (I.out.2.keep b2)
          clear b2 I HPA
          go_upto_region 6 with ((with_reducible refine at_store 28 (.tmp 5) (.tmp 27) ?_); refine wpList_store_blk 28 (.tmp 5) (.tmp 27) w2.heap.size 28 (enC false z16 0) (enC a.1 a.2.1 a.2.2) (Blk.new w2 28 (enC false z16 0)) (by rfl) (by rfl) (by rfl) (by rfl) HSA.out HSZA.out HOA.out (by rfl) ?_; intro w3 hk hg hs; have KA := Lib.hid hk; have B3 := Lib.hid (print_world B2.out B2.out.size hg); have K3 := Lib.hid ((K2.out.alloc _).grown hg (fun e => by have := Option.some.inj e; have := K2.out.lt; omega)); clear hk hg hs)
          clear B2 K2
          go_wp2_with fail
          refine (HPB.out _).mono ?_
          rintro e w4 ⟨rfl, b4⟩
          have B4 := Lib.hid (B3.out.trans (b4.mono B3.out.size))
          have K4 := Lib.hid (K3.out.keep b4)
          have KA4 := Lib.hid (KA.out.keep b4)
          clear b4 B3 K3 KA HPB
          go_upto_region 7 with ((with_reducible refine at_store 28 (.tmp 7) (.tmp 35) ?_); refine wpList_store_blk 28 (.tmp 7) (.tmp 35) w4.heap.size 28 (enC false z16 0) (enC b.1 b.2.1 b.2.2) (Blk.new w4 28 (enC false z16 0)) (by rfl) (by rfl) (by rfl) (by rfl) HSB.out HSZB.out HOB.out (by rfl) ?_; intro w5 hk hg hs; have KB := Lib.hid hk; have B5 := Lib.hid (print_world B4.out B4.out.size hg); have K5 := Lib.hid ((K4.out.alloc _).grown hg (fun e => by have := Option.some.inj e; have := K4.out.lt; omega)); have KA5 := Lib.hid ((KA4.out.alloc _).grown hg (fun e => by have := Option.some.inj e; have := KA4.out.lt; omega)); clear hk hg hs)
          clear B4 K4 KA4
          have hstep : rfAt s.data.toList k = none → ∀ j, j < k + 1 → rfAt s.data.toList j = none := fun h j hj => by
            rcases Nat.lt_or_ge j k with h1 | h1
            · exact HN.out j h1
            · rw [show j = k by omega]; exact h
          rcases WA.out with ⟨rfl, ea⟩ | ⟨rfl, ea⟩
          rotate_left
          · have HS := Lib.hid (hstep (by unfold rfAt; rw [if_pos HAR.out, ea]))
            clear hstep WA WB ea hx
            go_wp2_with fail
            go_roundg g2
            case measure => omega
            case rel => exact ⟨k + 1, by omega, by go_num, HS, Lib.hid ⟨B5.out, K5.out⟩⟩
          rcases WB.out with ⟨rfl, eb⟩ | ⟨rfl, eb⟩
          rotate_left
          · have HS := Lib.hid (hstep (by unfold rfAt; rw [if_pos HAR.out, ea, eb]))
            clear hstep WA WB ea eb hx
            go_wp2_with fail
            go_roundg g2
            case measure => omega
            case rel => exact ⟨k + 1, by omega, by go_num, HS, Lib.hid ⟨B5.out, K5.out⟩⟩
          have HR := Lib.hid (show rflV s.data.toList = .tuple #[.agg (flC a b), .bool true] by
            have h : rfAt s.data.toList k = some (a, b) := by unfold rfAt; rw [if_pos HAR.out, ea, eb]
            rw [rflV, rfAt_some h])
          clear hstep WA WB ea eb hx HN
          go_wp2_with (first | (refine wpList_load_blk 28 (.tmp 5) w2.heap.size 28 (enC a.1 a.2.1 a.2.2) _ KA5.out (by rfl) (by rfl) Tryz.underlying28 rfl HSA.out (by rfl) ?_) | (refine wpList_load_blk 28 (.tmp 7) w4.heap.size 28 (enC b.1 b.2.1 b.2.2) _ KB.out (by rfl) (by rfl) Tryz.underlying28 rfl HSB.out (by rfl) ?_) | ((with_reducible refine at_build 30 #[(0, .tmp 41), (1, .tmp 42)] ?_); refine wpList_build_eq 30 #[(0, .tmp 41), (1, .tmp 42)] (flC a b) (by rfl) HBU.out (by rfl) ?_) | ((with_reducible refine at_store 30 (.tmp 2) (.tmp 43) ?_); refine wpList_store_blk 30 (.tmp 2) (.tmp 43) w.heap.size 30 (flC zE zE) (flC a b) K5.out (by rfl) (by rfl) (by rfl) (by rfl) HFS.out HFZ.out HFO.out (by rfl) ?_; intro w9 hk hg hs; have V9 := Lib.hid hk; have G9 := Lib.hid (And.intro hg hs); clear hk hg hs))
          exact bodyPost_ret (v := .tuple #[.agg (flC a b), .bool true]) (results_fl Tryz.results10 _ _ w.heap.size (flC a b) rfl V9.out HFN.out) rfl ⟨by rw [HR.out], B5.out.grown G9.out.1 B5.out.size (fun k e => by cases e; exact Nat.le_refl _)⟩
        · have HS := Lib.hid (show ∀ j, j < k + 1 → rfAt s.data.toList j = none from fun j hj => by
            rcases Nat.lt_or_ge j k with h1 | h1
            · exact HN.out j h1
            · rw [show j = k by omega]; unfold rfAt; exact if_neg harr)
          have hx1 : ((s.extract k (k + 3)).toList == [32, 62, 32]) = false := by
            rw [ext_mid, ByteArray.toList_eq]
            show (((s.data.toList.drop k).take 3) == arrow) = false
            exact beq_eq_false_iff_ne.2 harr
          clear harr
          go_wp2_with fail
          go_roundg g2
          case measure => omega
          case rel => exact ⟨k + 1, by omega, by go_num, HS, I⟩
    · have HR := Lib.hid (show rflV s.data.toList = .tuple #[.agg (flC zE zE), .bool false] by
        rw [rflV, rfAt_none fun i hi => HN.out i (by omega)])
      clear HN
      go_wp2_with (first | ((with_reducible refine at_build 30 #[] ?_); refine wpList_build_eq 30 #[] (flC zE zE) (by rfl) HBZ.out (by rfl) ?_) | ((with_reducible refine at_store 30 (.tmp 2) (.tmp 44) ?_); refine wpList_store_blk 30 (.tmp 2) (.tmp 44) w.heap.size 30 (flC zE zE) (flC zE zE) I.out.2 (by rfl) (by rfl) (by rfl) (by rfl) HFY.out (by rfl) (flC_one zE zE) (by rfl) ?_; intro w9 hk hg hs; have V9 := Lib.hid hk; have G9 := Lib.hid (And.intro hg hs); clear hk hg hs))
      exact bodyPost_ret (v := .tuple #[.agg (flC zE zE), .bool false]) (results_fl Tryz.results10 _ _ w.heap.size (flC zE zE) rfl V9.out (flC_size zE zE rfl rfl)) rfl ⟨by rw [HR.out], I.out.1.grown G9.out.1 I.out.1.size (fun k e => by cases e; exact Nat.le_refl _)⟩
end Go.Proofs.YtonafonhadocgaaGreatDoor

/- What text.Unhex has read behind so many bytes: plain. -/
namespace Go.Proofs.YtonafonhadocgaaGreatDoor
open Go.RowKit

def dgB (c : Nat) : Bool := decide (48 ≤ c ∧ c ≤ 57) || decide (97 ≤ c ∧ c ≤ 102)
def dgN (c : Nat) : Nat := if dgB c then (if c ≤ 57 then c - 48 else c - 87) else 0
theorem isLo_dg (c : UInt8) : isLo c = dgB c.toNat := rfl
theorem loN_dg {c : UInt8} (h : isLo c = true) : loN c = dgN c.toNat := by
  rw [isLo_dg] at h
  rw [dgN, if_pos h]
  rfl
structure UnSt (l : List UInt8) (k : Nat) (pre : List UInt8) (hi : Nat) : Prop where
  eq : unhexL l = (unhexL (l.drop (2 * (k / 2)))).map (pre ++ ·)
  len : pre.length = k / 2
  odd : k % 2 = 1 → ∃ a, l[k - 1]? = some a ∧ isLo a = true ∧ hi = loN a
  hi16 : hi < 16
theorem UnSt.start (l : List UInt8) : UnSt l 0 [] 0 := ⟨by cases h : unhexL l <;> simp [h], rfl, fun h => absurd h (by decide), by omega⟩
section
variable {l pre : List UInt8} {k hi : Nat} {c : UInt8}
theorem drop_at (h : l[k]? = some c) : l.drop k = c :: l.drop (k + 1) := by
  have hk := (List.getElem?_eq_some_iff.1 h).1
  rw [List.drop_eq_getElem_cons hk]
  rw [List.getElem?_eq_getElem hk] at h
  injection h with h
  rw [h]
theorem un_head (h : isLo c = false) (r : List UInt8) : unhexL (c :: r) = none := by
  cases r with
  | nil => rfl
  | cons b r => rw [unhexL, h]; rfl
theorem un_second {a : UInt8} (h : isLo c = false) (r : List UInt8) : unhexL (a :: c :: r) = none := by
  rw [unhexL, h, Bool.and_false]; rfl
theorem UnSt.two (h : UnSt l k pre hi) (ho : k % 2 = 1) (hc : l[k]? = some c) : ∃ a, isLo a = true ∧ hi = loN a ∧ l.drop (2 * (k / 2)) = a :: c :: l.drop (k + 1) := by
  obtain ⟨a, h1, h2, h3⟩ := h.odd ho
  refine ⟨a, h2, h3, ?_⟩
  rw [show 2 * (k / 2) = k - 1 by omega, drop_at h1, show k - 1 + 1 = k by omega, drop_at hc]
theorem UnSt.bad (h : UnSt l k pre hi) (hc : l[k]? = some c) (hn : isLo c = false) : unhexL l = none := by
  rw [h.eq]
  rcases Nat.mod_two_eq_zero_or_one k with he | ho
  · rw [show 2 * (k / 2) = k by omega, drop_at hc, un_head hn]; rfl
  · obtain ⟨a, _, _, e⟩ := h.two ho hc
    rw [e, un_second hn]; rfl
theorem UnSt.even (h : UnSt l k pre hi) (he : k % 2 = 0) (hc : l[k]? = some c) (hn : isLo c = true) : UnSt l (k + 1) pre (loN c) :=
  ⟨by rw [h.eq, show 2 * ((k + 1) / 2) = 2 * (k / 2) by omega], by rw [h.len]; omega, fun _ => ⟨c, by rw [Nat.add_sub_cancel]; exact hc, hn, rfl⟩, (lo_hxd' hn).1⟩
theorem UnSt.more (h : UnSt l k pre hi) (ho : k % 2 = 1) (hc : l[k]? = some c) (hn : isLo c = true) : UnSt l (k + 1) (pre ++ [UInt8.ofNat (hi * 16 + loN c)]) hi := by
  obtain ⟨a, ha, e1, e2⟩ := h.two ho hc
  refine ⟨?_, by rw [List.length_append, h.len]; simp; omega, fun h2 => by omega, h.hi16⟩
  rw [h.eq, e2, unhexL, ha, hn, e1, show 2 * ((k + 1) / 2) = k + 1 by omega]
  cases unhexL (l.drop (k + 1)) with
  | none => rfl
  | some bs => simp
theorem UnSt.done (h : UnSt l k pre hi) (he : k % 2 = 0) (hk : l.length ≤ k) : unhexL l = some pre := by
  rw [h.eq, List.drop_eq_nil_of_le (by omega)]
  simp [unhexL]
theorem UnSt.half (h : UnSt l k pre hi) (ho : k % 2 = 1) (hk : l.length = k) : unhexL l = none := by
  obtain ⟨a, h1, _, _⟩ := h.odd ho
  rw [h.eq, show 2 * (k / 2) = k - 1 by omega, drop_at h1, List.drop_eq_nil_of_le (by omega)]
  rfl
end
end Go.Proofs.YtonafonhadocgaaGreatDoor

/- text.digit, text.Unhex. -/
namespace Go.Proofs.YtonafonhadocgaaGreatDoor
open Go.RowKit Go.Shelf

set_option maxRecDepth 100000 in
theorem digit_any (c : Nat) (hc : c ≤ 2147483647) (w : World) :
    Calls Tryz.prog 42 #[.int .i32 (c : Int)] w fun e w' => e = .returned (.tuple #[.int .i64 (dgN c : Int), .bool (dgB c)]) ∧ w' = w := by
  by_cases h1 : c < 48
  · have e1 : dgB c = false := by unfold dgB; simp; omega
    have e2 : dgN c = 0 := by unfold dgN; rw [e1]; rfl
    rw [e1, e2]
    go_enter Tryz.func42, Tryz.ntmps42
    go_wp2_with fail
    go_ret2
    exact ⟨rfl, rfl⟩
  by_cases h2 : c ≤ 57
  · have e1 : dgB c = true := by unfold dgB; simp; omega
    have e2 : dgN c = c - 48 := by unfold dgN; rw [e1, if_pos rfl, if_pos h2]
    have e3 : ((c - 48 : Nat) : Int) = (c : Int) - 48 := by omega
    rw [e1, e2, e3]
    go_enter Tryz.func42, Tryz.ntmps42
    go_wp2_with fail
    go_ret2
    exact ⟨rfl, rfl⟩
  by_cases h3 : c < 97
  · have e1 : dgB c = false := by unfold dgB; simp; omega
    have e2 : dgN c = 0 := by unfold dgN; rw [e1]; rfl
    rw [e1, e2]
    go_enter Tryz.func42, Tryz.ntmps42
    go_wp2_with fail
    go_ret2
    exact ⟨rfl, rfl⟩
  by_cases h4 : c ≤ 102
  · have e1 : dgB c = true := by unfold dgB; simp; omega
    have e2 : dgN c = c - 87 := by unfold dgN; rw [e1, if_pos rfl, if_neg h2]
    have e3 : ((c - 87 : Nat) : Int) = (c : Int) - 97 + 10 := by omega
    rw [e1, e2, e3]
    go_enter Tryz.func42, Tryz.ntmps42
    go_wp2_with fail
    go_ret2
    exact ⟨rfl, rfl⟩
  · have e1 : dgB c = false := by unfold dgB; simp; omega
    have e2 : dgN c = 0 := by unfold dgN; rw [e1]; rfl
    rw [e1, e2]
    go_enter Tryz.func42, Tryz.ntmps42
    go_wp2_with fail
    go_ret2
    exact ⟨rfl, rfl⟩

theorem Own.grown {w w' : World} {base : Nat} {v : Value} {l : List UInt8} (h : Own w base v l) {row : Option Nat} (hg : w.grownBy w' row) (hr : ∀ g, v.ownBlock = some g → some g ≠ row) : Own w' base v l := by
  refine ⟨h.1, ?_⟩
  rcases h.2 with hn | ⟨g, cap, cur, rfl, hb', hgg, rest⟩
  · exact .inl hn
  · exact .inr ⟨g, cap, cur, rfl, hb', by rw [hg.block g (Array.getElem?_eq_some_iff.1 hgg).1 (hr g rfl)]; exact hgg, rest⟩
theorem grown_iterAt (w : World) (k : Nat) (s : ByteArray) (pos : Nat) : w.grownBy (w.iterAt k s pos) (some k) :=
  ⟨rfl, rfl, rfl, by rw [Lib.iterAt_size]; exact Nat.le_refl _, fun j _ hj => Lib.iterAt_other w k j s pos (fun e => hj (by rw [e]))⟩
theorem nib_or : ∀ a b : Fin 16, bits BinOp.or IntKind.i64 ((a.val * 16 : Nat) : Int) (b.val : Int) = ((a.val * 16 + b.val : Nat) : Int) := by decide +kernel
theorem nib_or' {a b : Nat} (ha : a < 16) (hb : b < 16) : bits BinOp.or IntKind.i64 ((a : Int) * 16) (b : Int) = ((a * 16 + b : Nat) : Int) := nib_or ⟨a, ha⟩ ⟨b, hb⟩

set_option maxRecDepth 100000 in
set_option maxHeartbeats 8000000 in
theorem unhex_any (s : ByteArray) (hs : s.size ≤ 4294967281) (w : World) :
    Calls Tryz.prog 24 #[.string s] w fun e w' => Below w.heap.size w w' ∧
      ((unhexL s.data.toList = none ∧ e = .returned (.tuple #[.slice none 0 0, .bool false])) ∨
       ∃ bs A c, unhexL s.data.toList = some bs ∧ e = .returned (.tuple #[.slice A bs.length c, .bool true]) ∧ Rd w' A bs.length c bs) := by
  have hsl : s.data.toList.length = s.size := rfl
  obtain ⟨i0, hi0, hz0, hz1, hz2⟩ := info_parts info_u8
  go_enter Tryz.func24, Tryz.ntmps24
  go_wp2_with fail
  go_loopw [4, 5] (fun v hi wr => ∃ (k h : Nat) (pre : List UInt8) (A : Option Addr) (c : Nat), k ≤ s.size ∧ hi = .int .i64 (h : Int) ∧ v = .slice A (k / 2) c ∧ Hid (UnSt s.data.toList k pre h ∧ Own wr (w.heap.size + 1) (.slice A (k / 2) c) pre ∧ wr.heap[w.heap.size]? = some (.stringIter s k) ∧ Below w.heap.size w wr)) (fun _ _ wr => s.size - wr.iterPos w.heap.size)
  case atStart => exact ⟨0, 0, [], none, 0, Nat.zero_le _, rfl, rfl, Lib.hid ⟨UnSt.start _, Own.nil _ _, World.iter_heap w s 0, (Below.refl _ w).alloc (Nat.le_refl _) _⟩⟩
  case round =>
    obtain ⟨k, h, pre, A, c, hk, rfl, rfl, I⟩ := hrel
    have hit := I.out.2.2.1
    have hsz : w.heap.size < wr.heap.size := (Array.getElem?_eq_some_iff.1 hit).1
    have IS := Lib.hid I.out.1
    have HIO := Lib.hid I.out.2.1
    have IB := Lib.hid I.out.2.2.2
    clear I
    by_cases hp : k < s.size
    · obtain ⟨x, hx⟩ : ∃ x, x = s[k]'hp := ⟨_, rfl⟩
      have HL := Lib.hid (show s.data.toList[k]? = some x by rw [hx, List.getElem?_eq_getElem (by exact hp)]; rfl)
      have hnx : ∀ ty, (Instr.next (.pointer (some ⟨w.heap.size, 0, none⟩)) true ty).run Tryz.prog wr = _ := fun ty => Lib.run_next_any_at wr w.heap.size s k ty hit hp
      by_cases ha : x.toNat < 128
      · have hd := decode_ascii s k hp (by rw [← hx]; exact ha)
        rw [← hx] at hd
        rw [hd] at hnx
        have HIO2 := Lib.hid (HIO.out.grown (grown_iterAt wr w.heap.size s (k + 1)) (fun g hg e => by have := HIO.out.lt g hg; injection e with e; omega))
        have IB2 := Lib.hid (Lib.below_iterAt IB.out (k := w.heap.size) (Nat.le_refl _) s (k + 1))
        have IT2 := Lib.hid (Lib.iterAt_heap wr w.heap.size s k (k + 1) hit)
        have hsz2 : w.heap.size < (wr.iterAt w.heap.size s (k + 1)).heap.size := by rw [Lib.iterAt_size]; exact hsz
        have HIT := Lib.hid hit
        clear hit hd hx hsz HIO IB
        have hpar := Nat.mod_two_eq_zero_or_one k
        go_wp2_with fail
        refine (digit_any x.toNat (by omega) _).mono ?_
        rintro e w2 ⟨rfl, rfl⟩
        cases hg : dgB x.toNat with
        | false =>
          have HN := Lib.hid (IS.out.bad HL.out hg)
          clear hpar
          go_wp2_with fail
          go_ret2
          exact ⟨IB2.out, .inl ⟨HN.out, rfl⟩⟩
        | true =>
          have HD := Lib.hid (loN_dg (c := x) hg)
          rcases hpar with he | ho
          · have hm : (k : Int) % 2 = 0 := by omega
            have HS := Lib.hid (IS.out.even he HL.out hg)
            have HK := Lib.hid (show (k + 1) / 2 = k / 2 by omega)
            clear he hg
            go_wp2_with fail
            go_roundw
            case rel => exact ⟨k + 1, dgN x.toNat, pre, A, c, hp, rfl, by rw [HK.out], Lib.hid ⟨by rw [← HD.out]; exact HS.out, by rw [HK.out]; exact HIO2.out, IT2.out, IB2.out⟩⟩
            case measure =>
              simp only [World.iterPos, IT2.out, HIT.out]
              omega
          · have hm : (k : Int) % 2 = 1 := by omega
            have HS := Lib.hid (IS.out.more ho HL.out hg)
            have HK := Lib.hid (show (k + 1) / 2 = k / 2 + 1 by omega)
            have hor := nib_or' IS.out.hi16 (lo_hxd' (c := x) hg).1
            have hlo := (lo_hxd' (c := x) hg).1
            have hhi := IS.out.hi16
            have HPL := Lib.hid IS.out.len
            have HKS := Lib.hid (show k / 2 + 1 ≤ 140737488355328 by omega)
            rw [HD.out] at hor hlo HS
            clear ho hg IS HD
            go_wp2_with (at_builtin; refine wpList_append_rd _ rfl (.tmp 27) (.tmp 33) 63 rfl (w.heap.size + 1) i0 _ Tryz.underlying63 hi0 hz0 hz1 hz2 rfl _ pre rfl (HIO2.out.alloc _) _ _ _ [UInt8.ofNat (h * 16 + dgN x.toNat)] rfl (lit_rd _ [UInt8.ofNat (h * 16 + dgN x.toNat)] _ 1 (by simp [bv]; omega) rfl (by omega)) (by rw [HPL.out]; exact HKS.out) (by rw [World.size_alloc]; omega) (k / 2 + 1) (by rw [HPL.out]) ?_; intro A1 c1 w1 ho hb hg hat; have HX := Lib.hid (And.intro ho hb); clear ho hb hg hat)
            have HB1 := Lib.hid (((IB2.out.alloc (by omega) (.cells #[.int .u8 ((h : Int) * 16 + (dgN x.toNat : Int))] 5)).trans (HX.out.2.mono (Nat.le_succ _))))
            have HT1 := Lib.hid (((HX.out.2.block w.heap.size (Nat.lt_succ_self _)).trans (Below.heap_alloc _ _ _ hsz2)).trans IT2.out)
            go_roundw
            case rel => exact ⟨k + 1, h, pre ++ [UInt8.ofNat (h * 16 + dgN x.toNat)], A1, c1, hp, rfl, by rw [HK.out], Lib.hid ⟨HS.out, by rw [HK.out]; exact HX.out.1, HT1.out, HB1.out⟩⟩
            case measure =>
              simp only [World.iterPos, HT1.out, HIT.out]
              omega
      · have hhi := Go.decode_high s k hp (by rw [← hx]; omega)
        have hle := decode_le s k
        have IB2 := Lib.hid (Lib.below_iterAt IB.out (k := w.heap.size) (Nat.le_refl _) s (k + (Utf8.decode s k).2))
        obtain ⟨r, hr⟩ : ∃ r, r = (Utf8.decode s k).1 := ⟨_, rfl⟩
        rw [← hr] at hnx hhi hle
        have hz : dgB r = false := by
          unfold dgB
          simp
          omega
        have HN := Lib.hid (IS.out.bad HL.out (show isLo x = false by rw [isLo_dg]; unfold dgB; simp; omega))
        generalize wr.iterAt w.heap.size s (k + (Utf8.decode s k).2) = W2 at *
        clear hit hx hsz HIO IB hr hhi ha
        go_wp2_with fail
        refine (digit_any r hle _).mono ?_
        rintro e w2 ⟨rfl, rfl⟩
        rw [hz]
        go_wp2_with fail
        go_ret2
        exact ⟨IB2.out, .inl ⟨HN.out, rfl⟩⟩
    · have hnx : ∀ ty, (Instr.next (.pointer (some ⟨w.heap.size, 0, none⟩)) true ty).run Tryz.prog wr = _ := fun ty => Lib.run_next_end_at wr w.heap.size s k ty hit hp
      obtain rfl : k = s.size := by omega
      rcases Nat.mod_two_eq_zero_or_one s.size with he | ho
      · have hm : (s.size : Int) % 2 = 0 := by omega
        have HN := Lib.hid (IS.out.done he (by omega))
        have HP := Lib.hid IS.out.len
        clear he
        go_wp2_with fail
        go_ret2
        exact ⟨IB.out, .inr ⟨pre, A, c, HN.out, by rw [HP.out]; rfl, by rw [HP.out]; exact HIO.out.rd⟩⟩
      · have hm : (s.size : Int) % 2 = 1 := by omega
        have HN := Lib.hid (IS.out.half ho hsl)
        clear ho
        go_wp2_with fail
        go_ret2
        exact ⟨IB.out, .inl ⟨HN.out, rfl⟩⟩
end Go.Proofs.YtonafonhadocgaaGreatDoor

/- flow.ParseKey. -/
namespace Go.Proofs.YtonafonhadocgaaGreatDoor
open Go.RowKit Go.Shelf

theorem lastBlank_any (s : ByteArray) (hs : s.size < 4294967281) (w : World) :
    Calls Tryz.prog 23 #[.string s, .string ⟨#[32]⟩] w fun e w' => e = .returned (.int .i64 (Lib.lastIndexByte s 32)) ∧ w' = w :=
  Any.strings_LastIndex_one lays148 s ⟨#[32]⟩ rfl (by omega) w
/-- What flow.ParseKey returns. -/
def keyPV (l : List UInt8) : Value := match keyP l with
  | some (a, b, x) => .tuple #[.agg (keC a b x), .int .i64 0]
  | none => .tuple #[.agg (keC zE zE 0), .int .i64 9]
theorem keC_size (a b : En) (x : Nat) (ha : a.2.1.length = 16) (hb : b.2.1.length = 16) : (keC a b x).size = 37 := by simp [keC, enL_len _ ha, enL_len _ hb]
theorem keC_one (a b : En) (x : Nat) : (keC a b x).toList.all (·.oneCell') = true := kyC_one ((a, b), x)
theorem keC_set (a b : En) (x y : Nat) (ha : a.2.1.length = 16) (hb : b.2.1.length = 16) : (keC a b x).setIfInBounds 36 (.int .u64 (y : Int)) = keC a b y := by
  have hz : (enL a ++ enL b).length = 36 := by rw [List.length_append, enL_len a ha, enL_len b hb]
  apply Array.toList_inj.1
  rw [Array.toList_setIfInBounds]
  show (enL a ++ enL b ++ [Value.int .u64 (x : Int)]).set 36 _ = enL a ++ enL b ++ [Value.int .u64 (y : Int)]
  rw [← hz, List.set_append_right _ _ (Nat.le_refl _), Nat.sub_self]
  rfl
theorem results_ke {fn : Func} {p t : Tmp} (h : fn.results = #[.cell p 36, .tmp t]) (tmps : Array Value) (w : World) (g : Nat) (cs : Array Value)
    (hp : tmps.getD p undef = .pointer (some ⟨g, 0, none⟩)) (hg : Blk w g 36 cs) (hi : cs.size = 37) :
    (results fn tmps).run Tryz.prog w = .ok (.tuple #[.agg cs, tmps.getD t undef]) w := by
  have hp' : tmps[p]?.getD undef = .pointer (some ⟨g, 0, none⟩) := by simpa using hp
  have hl := run_loadVar_row (P := Tryz.prog) w g 36 36 cs (0, 0) _ hg Tryz.underlying36 rfl (by rw [hi]; exact kySize)
  simp [results, h, hp', asAddr, hl]
theorem built_ke (a b : En) (ha : a.2.1.length = 16) (hb : b.2.1.length = 16) : Tryz.prog.built 36 [(0, .agg (flC a b))] = some (keC a b 0) := by
  obtain ⟨u, l, p⟩ := a
  obtain ⟨v, m, q⟩ := b
  obtain ⟨b0, b1, b2, b3, b4, b5, b6, b7, b8, b9, b10, b11, b12, b13, b14, b15, rfl⟩ := sixteen l ha
  obtain ⟨c0, c1, c2, c3, c4, c5, c6, c7, c8, c9, c10, c11, c12, c13, c14, c15, rfl⟩ := sixteen m hb
  kernel_rfl
theorem built_kz : Tryz.prog.built 36 [] = some (keC zE zE 0) := by kernel_rfl
theorem fp_ways (x : List UInt8) : ∃ (a b : En) (er : Int), a.2.1.length = 16 ∧ b.2.1.length = 16 ∧ flowPV x = .tuple #[.agg (flC a b), .int .i64 er] ∧ ((er = 0 ∧ flowP x = some (a, b)) ∨ (er = 9 ∧ flowP x = none)) := by
  unfold flowPV
  cases h : flowP x with
  | none => exact ⟨zE, zE, 9, rfl, rfl, rfl, .inr ⟨rfl, rfl⟩⟩
  | some y =>
    obtain ⟨_, h1, h2⟩ := flowP_sound (a := y.1) (b := y.2) h
    exact ⟨y.1, y.2, 0, h1.len, h2.len, rfl, .inl ⟨rfl, rfl⟩⟩
theorem fold_step (bs : List UInt8) (k : Nat) (c : UInt8) (h : bs[k]? = some c) : foldB (bs.take (k + 1)) = (foldB (bs.take k) * 256 + c.toNat) % 18446744073709551616 := by
  unfold foldB
  rw [List.take_add_one, h, List.foldl_append]
  rfl
theorem fold_lt (bs : List UInt8) : foldB bs < 18446744073709551616 := by
  have : ∀ (bs : List UInt8) (k : Nat), k < 18446744073709551616 → bs.foldl (fun k c => (k * 256 + c.toNat) % 18446744073709551616) k < 18446744073709551616 := by
    intro bs
    induction bs with
    | nil => exact fun k h => h
    | cons c r ih => exact fun k _ => ih _ (Nat.mod_lt _ (by decide))
  exact this bs 0 (by decide)
theorem or_byte (x c : Nat) (_hx : x < 18446744073709551616) (hc : c < 256) : bits BinOp.or IntKind.u64 (IntKind.u64.wrap ((x : Int) * 256)) (c : Int) = (((x * 256 + c) % 18446744073709551616 : Nat) : Int) := by
  have hw : IntKind.u64.wrap ((x : Int) * 256) = (x : Int) * 256 % 18446744073709551616 := by simp [IntKind.wrap, IntKind.bits, IntKind.signed]
  rw [hw, bits_join .u64 64 (by decide) (fun n h1 h2 => by simp [IntKind.wrap, IntKind.bits, IntKind.signed]; omega) 8 _ _ (by omega) (by omega) (by omega) (by omega) (by omega) (by omega)]
  omega

set_option maxRecDepth 100000 in
set_option maxHeartbeats 8000000 in
theorem pkey_any (s : ByteArray) (hs : s.size < 4294967281) (w : World) (env : Env w) :
    Calls Tryz.prog 9 #[.string s] w fun e w' => e = .returned (keyPV s.data.toList) ∧ Below w.heap.size w w' := by
  have HL := Lib.hid (fun W => lastBlank_any s hs W)
  have K0 := Lib.hid (Blk.new w 36 (keC zE zE 0))
  have B0 := Lib.hid ((Below.refl _ w).alloc (Nat.le_refl _) (.cells (keC zE zE 0) 36))
  have E0 := Lib.hid (env.below B0.out)
  have HK := Lib.hid (show keyP s.data.toList = if Lib.lastIndexByte s 32 < 0 then none else
    match flowP (s.data.toList.take (Lib.lastIndexByte s 32).toNat), unhexL (s.data.toList.drop ((Lib.lastIndexByte s 32).toNat + 1)) with
    | some x, some bs => if bs.length = 8 then some (x.1, x.2, foldB bs) else none
    | _, _ => none from rfl)
  have hlt : Lib.lastIndexByte s 32 = -1 ∨ ∃ k : Nat, Lib.lastIndexByte s 32 = k ∧ k < s.size := by
    rcases Lib.lastIndexByte_spec s 32 with ⟨h, _⟩ | ⟨k, h1, h2, _⟩
    · exact .inl h
    · exact .inr ⟨k, h2, h1⟩
  have HBZ := Lib.hid built_kz
  have HYZ := Lib.hid (show (Tryz.prog.info? 36).map (·.size) = some (keC zE zE 0).size from kySize)
  have HZ37 := Lib.hid (show (keC zE zE 0).size = 37 from rfl)
  have HOZ := Lib.hid (keC_one zE zE 0)
  clear env
  go_enter Tryz.func9, Tryz.ntmps9
  go_wp2_with fail
  refine (HL.out _).mono ?_
  rintro e w2 ⟨rfl, rfl⟩
  clear HL
  rcases hlt with hz | ⟨k, hk, hks⟩
  · have HR := Lib.hid (show keyPV s.data.toList = .tuple #[.agg (keC zE zE 0), .int .i64 9] by rw [keyPV, HK.out, hz]; rfl)
    rw [hz]
    clear HK hz
    go_wp2_with (first | ((with_reducible refine at_build 36 #[] ?_); refine wpList_build_eq 36 #[] (keC zE zE 0) (by rfl) HBZ.out (by rfl) ?_) | ((with_reducible refine at_store 36 (.tmp 2) (.tmp 16) ?_); refine wpList_store_blk 36 (.tmp 2) (.tmp 16) w.heap.size 36 (keC zE zE 0) (keC zE zE 0) K0.out (by rfl) (by rfl) (by rfl) (by rfl) HYZ.out (by rfl) HOZ.out (by rfl) ?_; intro w9 hk hg hs; have V9 := Lib.hid hk; have G9 := Lib.hid (And.intro hg hs); clear hk hg hs))
    exact bodyPost_ret (v := .tuple #[.agg (keC zE zE 0), .int .i64 9]) (results_ke Tryz.results9 _ _ w.heap.size (keC zE zE 0) rfl V9.out HZ37.out) rfl ⟨by rw [HR.out], B0.out.grown G9.out.1 B0.out.size (fun k e => by cases e; exact Nat.le_refl _)⟩
  · rw [hk]
    rw [hk, if_neg (by omega), Int.toNat_natCast] at HK
    clear hk
    have hsl : s.data.toList.length = s.size := rfl
    have HP := Lib.hid (fun W (e : Env W) => fparse_any (s.extract 0 k) (by rw [ByteArray.size_extract]; omega) W e)
    have HU := Lib.hid (fun W => unhex_any (s.extract (k + 1) s.size) (by rw [ByteArray.size_extract]; omega) W)
    rw [Lib.extract_from_zero] at HP
    rw [Lib.extract_to_end] at HU
    obtain ⟨a, b, er, la, lb, hpv, HWA⟩ := fp_ways (s.data.toList.take k)
    rw [hpv] at HP
    have WA := Lib.hid HWA
    clear HWA hpv
    have HFS := Lib.hid (show (Tryz.prog.info? 30).map (·.size) = some (flC a b).size by rw [flC_size _ _ la lb]; exact flSize)
    have HFZ := Lib.hid (show (flC zE zE).size = (flC a b).size by rw [flC_size _ _ la lb]; rfl)
    have HFO := Lib.hid (flC_one a b)
    have HBK := Lib.hid (built_ke a b la lb)
    have HKS := fun x => (show (Tryz.prog.info? 36).map (·.size) = some (keC a b x).size by rw [keC_size _ _ _ la lb]; exact kySize)
    have HKZ := fun x => (show (keC zE zE 0).size = (keC a b x).size by rw [keC_size _ _ _ la lb]; rfl)
    have HKO := fun x => keC_one a b x
    have HKN := fun x => keC_size a b x la lb
    have HKX := fun x => keC_xmit a b x la lb
    have HST := fun x y => keC_set a b x y la lb
    have HKA := Lib.hid (And.intro HKS (And.intro HKZ (And.intro HKO (And.intro HKN (And.intro HKX HST)))))
    clear HKS HKZ HKO HKN HKX HST la lb
    go_wp2_with fail
    refine (HP.out _ E0.out).mono ?_
    rintro e w3 ⟨rfl, b3⟩
    have B3 := Lib.hid (B0.out.trans (b3.mono B0.out.size))
    have K3 := Lib.hid (K0.out.keep b3)
    clear b3 E0 K0 B0 HP
    go_upto_region 5 with ((with_reducible refine at_store 30 (.tmp 5) (.tmp 22) ?_); refine wpList_store_blk 30 (.tmp 5) (.tmp 22) w3.heap.size 30 (flC zE zE) (flC a b) (Blk.new w3 30 (flC zE zE)) (by rfl) (by rfl) (by rfl) (by rfl) HFS.out HFZ.out HFO.out (by rfl) ?_; intro w4 hk hg hs; have KF := Lib.hid hk; have B4 := Lib.hid (print_world B3.out B3.out.size hg); have K4 := Lib.hid ((K3.out.alloc _).grown hg (fun e => by have := Option.some.inj e; have := K3.out.lt; omega)); clear hk hg hs)
    clear B3 K3
    go_wp2_with fail
    refine (HU.out _).mono ?_
    rintro e w5 ⟨b5, h5⟩
    have B5 := Lib.hid (B4.out.trans (b5.mono B4.out.size))
    have K5 := Lib.hid (K4.out.keep b5)
    have KF5 := Lib.hid (KF.out.keep b5)
    clear b5 B4 K4 KF HU
    have hno : (keyP s.data.toList = none) → keyPV s.data.toList = .tuple #[.agg (keC zE zE 0), .int .i64 9] := fun h => by rw [keyPV, h]
    rcases WA.out with ⟨rfl, ea⟩ | ⟨rfl, ea⟩
    rotate_left
    · have HR := Lib.hid (hno (by rw [HK.out, ea]))
      clear WA ea hno HK HKA
      rcases h5 with ⟨_, rfl⟩ | ⟨bs, A, c, _, rfl, _⟩
      · go_wp2_with (first | ((with_reducible refine at_build 36 #[] ?_); refine wpList_build_eq 36 #[] (keC zE zE 0) (by rfl) HBZ.out (by rfl) ?_) | ((with_reducible refine at_store 36 (.tmp 2) (.tmp 43) ?_); refine wpList_store_blk 36 (.tmp 2) (.tmp 43) w.heap.size 36 (keC zE zE 0) (keC zE zE 0) K5.out (by rfl) (by rfl) (by rfl) (by rfl) HYZ.out (by rfl) HOZ.out (by rfl) ?_; intro w9 hk hg hs; have V9 := Lib.hid hk; have G9 := Lib.hid (And.intro hg hs); clear hk hg hs))
        exact bodyPost_ret (v := .tuple #[.agg (keC zE zE 0), .int .i64 9]) (results_ke Tryz.results9 _ _ w.heap.size (keC zE zE 0) rfl V9.out HZ37.out) rfl ⟨by rw [HR.out], B5.out.grown G9.out.1 B5.out.size (fun k e => by cases e; exact Nat.le_refl _)⟩
      · go_wp2_with (first | ((with_reducible refine at_build 36 #[] ?_); refine wpList_build_eq 36 #[] (keC zE zE 0) (by rfl) HBZ.out (by rfl) ?_) | ((with_reducible refine at_store 36 (.tmp 2) (.tmp 43) ?_); refine wpList_store_blk 36 (.tmp 2) (.tmp 43) w.heap.size 36 (keC zE zE 0) (keC zE zE 0) K5.out (by rfl) (by rfl) (by rfl) (by rfl) HYZ.out (by rfl) HOZ.out (by rfl) ?_; intro w9 hk hg hs; have V9 := Lib.hid hk; have G9 := Lib.hid (And.intro hg hs); clear hk hg hs))
        exact bodyPost_ret (v := .tuple #[.agg (keC zE zE 0), .int .i64 9]) (results_ke Tryz.results9 _ _ w.heap.size (keC zE zE 0) rfl V9.out HZ37.out) rfl ⟨by rw [HR.out], B5.out.grown G9.out.1 B5.out.size (fun k e => by cases e; exact Nat.le_refl _)⟩
    · rcases h5 with ⟨hun, rfl⟩ | ⟨bs, A, c, hun, rfl, hrd⟩
      · have HR := Lib.hid (hno (by rw [HK.out, ea, hun]))
        clear WA ea hno HK HKA hun
        go_wp2_with (first | ((with_reducible refine at_build 36 #[] ?_); refine wpList_build_eq 36 #[] (keC zE zE 0) (by rfl) HBZ.out (by rfl) ?_) | ((with_reducible refine at_store 36 (.tmp 2) (.tmp 43) ?_); refine wpList_store_blk 36 (.tmp 2) (.tmp 43) w.heap.size 36 (keC zE zE 0) (keC zE zE 0) K5.out (by rfl) (by rfl) (by rfl) (by rfl) HYZ.out (by rfl) HOZ.out (by rfl) ?_; intro w9 hk hg hs; have V9 := Lib.hid hk; have G9 := Lib.hid (And.intro hg hs); clear hk hg hs))
        exact bodyPost_ret (v := .tuple #[.agg (keC zE zE 0), .int .i64 9]) (results_ke Tryz.results9 _ _ w.heap.size (keC zE zE 0) rfl V9.out HZ37.out) rfl ⟨by rw [HR.out], B5.out.grown G9.out.1 B5.out.size (fun k e => by cases e; exact Nat.le_refl _)⟩
      · by_cases h8 : bs.length = 8
        · have HR := Lib.hid (show keyPV s.data.toList = .tuple #[.agg (keC a b (foldB bs)), .int .i64 0] by
            have e : keyP s.data.toList = some (a, b, foldB bs) := by rw [HK.out, ea, hun]; exact if_pos h8
            rw [keyPV, e])
          clear WA ea hno HK hun
          rw [h8] at hrd ⊢
          obtain ⟨HKS, HKZ, HKO, HKN, HKX, HST⟩ := HKA.out
          have HS0 := Lib.hid (HKS 0)
          have HZ0 := Lib.hid (HKZ 0)
          have HO0 := Lib.hid (HKO 0)
          clear HKS HKZ HKO HKN HKX HST
          go_upto_region 9 with (first | ((with_reducible refine at_build 36 #[(0, .tmp 44)] ?_); refine wpList_build_eq 36 #[(0, .tmp 44)] (keC a b 0) (by rfl) HBK.out (by rfl) ?_) | (refine wpList_load_blk 30 (.tmp 5) w3.heap.size 30 (flC a b) _ KF5.out (by rfl) (by rfl) Tryz.underlying30 rfl HFS.out (by rfl) ?_) | ((with_reducible refine at_store 36 (.tmp 9) (.tmp 45) ?_); refine wpList_store_blk 36 (.tmp 9) (.tmp 45) w5.heap.size 36 (keC zE zE 0) (keC a b 0) (Blk.new w5 36 (keC zE zE 0)) (by rfl) (by rfl) (by rfl) (by rfl) HS0.out HZ0.out HO0.out (by rfl) ?_; intro w6 hk hg hs; have I6 := Lib.hid (And.intro (print_world (Below.refl _ w5) (Nat.le_refl _) hg) hk); clear hk hg hs))
          clear HBZ HYZ HZ37 HOZ HBK HFS HFZ HFO KF5 HS0 HZ0 HO0
          have HRD := Lib.hid hrd
          clear hrd
          go_wp2_with fail
          go_loopw [48] (fun i wr => ∃ j : Nat, j ≤ 8 ∧ i = .int .i64 j ∧ Hid (Below w5.heap.size w5 wr ∧ Blk wr w5.heap.size 36 (keC a b (foldB (bs.take j))))) (fun i _ => 8 - (intOf i).toNat)
          case atStart => exact ⟨0, by omega, rfl, I6⟩
          case round =>
            clear I6
            obtain ⟨j, hj, rfl, I⟩ := hrel
            obtain ⟨_, _, _, HKN, HKX, HST⟩ := HKA.out
            by_cases hlt : j < 8
            · obtain ⟨x, hx⟩ : ∃ x, bs[j]? = some x := ⟨bs[j]'(by omega), List.getElem?_eq_getElem (by omega)⟩
              have HFO := Lib.hid (fold_step bs j x hx)
              obtain ⟨bb, off, rfl, hbl, hrow⟩ := (HRD.out.below I.out.1).at_ (by omega)
              have qx := hrow j hlt
              rw [hx] at qx
              simp only [Option.getD_some] at qx
              obtain ⟨y, hy⟩ : ∃ y, y = foldB (bs.take j) := ⟨_, rfl⟩
              have hyl := fold_lt (bs.take j)
              rw [← hy] at HFO hyl I
              have q36 := (I.out.2.cell 36).trans (HKX y)
              have f36 := I.out.2.frozen 36
              have hxl := x.toNat_lt
              have hor := or_byte y x.toNat hyl (by omega)
              have HN1 := Lib.hid (HST y ((y * 256 + x.toNat) % 18446744073709551616))
              have HI := Lib.hid (And.intro (I.out.1.setCell (p := ⟨w5.heap.size, 36, none⟩) (Nat.le_refl _) (.int .u64 ((((y * 256 + x.toNat) % 18446744073709551616 : Nat)) : Int))) (I.out.2.set_ 36 (.int .u64 ((((y * 256 + x.toNat) % 18446744073709551616 : Nat)) : Int))))
              generalize (y * 256 + x.toNat) % 18446744073709551616 = z at *
              clear hx hy hrow HST HKX HKN I hyl
              go_wp2_with fail
              go_roundw
              case rel => exact ⟨j + 1, by omega, by go_num, by rw [HFO.out, ← HN1.out]; exact HI⟩
              case measure => simp [intOf]; omega
            · obtain rfl : j = 8 := by omega
              have HT := Lib.hid (show bs.take 8 = bs from List.take_of_length_le (by omega))
              rw [HT.out] at I
              have H37 := Lib.hid (HKN (foldB bs))
              have HSF := Lib.hid (HKA.out.1 (foldB bs))
              have HZF := Lib.hid (HKA.out.2.1 (foldB bs))
              have HOF := Lib.hid (HKA.out.2.2.1 (foldB bs))
              have KR := Lib.hid (K5.out.keep I.out.1)
              have BR := Lib.hid (B5.out.trans (I.out.1.mono B5.out.size))
              have KK := Lib.hid I.out.2
              generalize foldB bs = z at *
              clear HKX HST HKN I
              go_wp2_with (first | (refine wpList_load_blk 36 (.tmp 9) w5.heap.size 36 (keC a b z) _ KK.out (by rfl) (by rfl) Tryz.underlying36 rfl HSF.out (by rfl) ?_) | ((with_reducible refine at_store 36 (.tmp 2) (.tmp 60) ?_); refine wpList_store_blk 36 (.tmp 2) (.tmp 60) w.heap.size 36 (keC zE zE 0) (keC a b z) KR.out (by rfl) (by rfl) (by rfl) (by rfl) HSF.out HZF.out HOF.out (by rfl) ?_; intro w9 hk hg hs; have V9 := Lib.hid hk; have G9 := Lib.hid (And.intro hg hs); clear hk hg hs))
              exact bodyPost_ret (v := .tuple #[.agg (keC a b z), .int .i64 0]) (results_ke Tryz.results9 _ _ w.heap.size (keC a b z) rfl V9.out H37.out) rfl ⟨by rw [HR.out], BR.out.grown G9.out.1 BR.out.size (fun k e => by cases e; exact Nat.le_refl _)⟩
        · have HR := Lib.hid (hno (by rw [HK.out, ea, hun]; exact if_neg h8))
          have h8' : ¬ ((bs.length : Int) = 8) := by omega
          clear WA ea hno HK HKA hun h8
          go_wp2_with (first | ((with_reducible refine at_build 36 #[] ?_); refine wpList_build_eq 36 #[] (keC zE zE 0) (by rfl) HBZ.out (by rfl) ?_) | ((with_reducible refine at_store 36 (.tmp 2) (.tmp 43) ?_); refine wpList_store_blk 36 (.tmp 2) (.tmp 43) w.heap.size 36 (keC zE zE 0) (keC zE zE 0) K5.out (by rfl) (by rfl) (by rfl) (by rfl) HYZ.out (by rfl) HOZ.out (by rfl) ?_; intro w9 hk hg hs; have V9 := Lib.hid hk; have G9 := Lib.hid (And.intro hg hs); clear hk hg hs))
          exact bodyPost_ret (v := .tuple #[.agg (keC zE zE 0), .int .i64 9]) (results_ke Tryz.results9 _ _ w.heap.size (keC zE zE 0) rfl V9.out HZ37.out) rfl ⟨by rw [HR.out], B5.out.grown G9.out.1 B5.out.size (fun k e => by cases e; exact Nat.le_refl _)⟩
end Go.Proofs.YtonafonhadocgaaGreatDoor
