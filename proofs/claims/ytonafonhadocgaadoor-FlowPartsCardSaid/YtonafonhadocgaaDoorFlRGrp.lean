/- The reference's Groups of chapter 28: group by group. -/
import Derived.Test.YtonafonhadocgaaDoorQL
import Derived.Test.YtonafonhadocgaaDoorFlEq
namespace Go.Proofs.YtonafonhadocgaaDoor
open Go.RowKit Go.Shelf

theorem yieldsIf_load_rng {P : Program} {ops : Array Oper} {o : Oper} {a : Act} {S : World → Prop} (ty : TypeId) (x : Operand) (g i : Nat) (cs : List Value) (d : TypeDesc) (hS : ∀ w, S w → w.rangeAt g i cs)
    (ho : o.op = .load ty x) (hx : a.eval x = .pointer (some ⟨g, i, none⟩))
    (hu : P.underlying ty = some d) (hd : d.isRow = true) (hi : (P.info? ty).map (·.size) = some cs.length)
    (hw : Region.wanted o (yielded ops a.tmps) = true) : YieldsIf P ops S o (.agg cs.toArray) a :=
  .inl ⟨hw, fun w hw' => by
    unfold execOp
    simp only [ho, hx, Instr.loadAt, Instr.sureAddr, Sem.run_bind, Sem.run_pure, Result.andThen_ok, run_loadVar_mid w g i ty cs d (hS w hw') hu hd hi]⟩
/-- append(s, x) where an element's head is of many bytes. -/
theorem wpList_append_litC {P : Program} (w : World) {ops : Array Oper} {rest : List Oper} {o : Oper} {a : Act} {Q : Exit → Act → World → Prop} (hgd : o.guard = none) (s x : Operand) (t T : TypeId)
    (ho : o.op = .call { callee := .builtin .append, args := #[s, x], argTypes := #[t, t] })
    (base : Nat) (i : TypeInfo) (z : Value) (bytes : Nat) (ht : P.underlying t = some (.slice T)) (hi : P.info? T = some i) (hz : i.zero = some z) (hsize : i.size = 1) (hby : i.bytes = bytes) (hzs : z.cells.size = 1)
    (v : Value) (xs : List Value) (hs : a.eval s = v) (hown : OwnV T w base v xs) (news : List Value) (m : Nat) (hm : news.length = m) (hx : a.eval x = .slice (some ⟨w.heap.size, 0, none⟩) m m) (h1 : ∀ u ∈ news, u.oneCell' = true)
    (cs : Array Value) (hcs : cs = news.toArray) (h63 : xs.length + m ≤ 1073741824) (hb16 : bytes ≤ 16384) (hbase : base ≤ w.heap.size)
    (h : ∀ v' w', OwnV T w' base v' (xs ++ news) → Below base (w.alloc (.cells cs T)) w' → (w.alloc (.cells cs T)).grownBy w' v.ownBlock → wpList P ops Q rest (a.put o.dst v') w') : wpList P ops Q (o :: rest) a (w.alloc (.cells cs T)) := by
  subst hcs
  refine wpList_append_own (w.alloc (.cells news.toArray T)) hgd s x t ho base T i z 1 bytes ht hi hz hsize hby hzs (by omega) v xs.length xs hs (hown.alloc _) ⟨w.heap.size, 0, none⟩ m m news hx (by omega) (fun j u hj => ?_) h1 (by unfold maxLen; omega) ?_ (by simp; omega) (fun v' w' h2 h3 _ => ?_)
  · rw [Addr.add_lit, World.cell?_alloc_new]
    simpa using hj
  · have : (xs.length + m) * bytes ≤ 1073741824 * 16384 := Nat.mul_le_mul h63 hb16
    omega
  · refine h v' w' ?_ ((Below.refl _ _).grown h3 (by simp; omega) (fun k hk => (hown.blk_lt hk).1)) h3
    unfold OwnV
    rw [List.length_append, hm]
    exact h2

/-- A key's flow lies ahead in its cells. -/
theorem RdK.flowAt {W : World} {b off n c j : Nat} {ks : List Ky} {k : Ky} (h : RdK W (some ⟨b, off, none⟩) n c ks) (hk : ks[j]? = some k) : W.rangeAt b (off + j * 37) (flC k.1.1 k.1.2).toList := by
  have hj := (List.getElem?_eq_some_iff.1 hk).1
  obtain ⟨b', off', hA, _, hr⟩ := h.2.2 (by rw [← h.1]; omega)
  injection hA with hA
  injection hA with e1 e2
  subst e1 e2
  intro i v hv
  have hi := (List.getElem?_eq_some_iff.1 hv).1
  refine hr j k hk i v ?_
  show (enL k.1.1 ++ enL k.1.2 ++ [Value.int .u64 (k.2 : Int)])[i]? = some v
  rw [List.getElem?_append_left (by exact hi)]
  exact hv
theorem RdK.below {w w' : World} {A : Option Addr} {n c : Nat} {ks : List Ky} (h : RdK w A n c ks) (hb : Below w.heap.size w w') : RdK w' A n c ks := by
  refine ⟨h.1, h.2.1, fun hn => ?_⟩
  obtain ⟨b, off, hA, hlt, hr⟩ := h.2.2 hn
  exact ⟨b, off, hA, Nat.lt_of_lt_of_le hlt hb.size, fun j k hj i v hv => cell_later hb (hr j k hj i v hv)⟩
theorem GRes.below {base : Nat} {v : Value} {gs : List (List Nat)} {w w' : World} (h : GRes base v gs w) (hb : Below w.heap.size w w') : GRes base v gs w' := by
  obtain ⟨vs, ho, hl, hr⟩ := h
  refine ⟨vs, ho.below hb, hl, fun j g hj => ?_⟩
  obtain ⟨u, hu, hou⟩ := hr j g hj
  exact ⟨u, hu, hou.below hb⟩
theorem GRes.nil (w : World) (base : Nat) : GRes base nilS [] w := ⟨[], OwnV.nil _ _, rfl, fun j g hj => by cases hj⟩
/-- One row more. -/
theorem GRes.more {base N : Nat} {v v' u : Value} {vs : List Value} {gs : List (List Nat)} {g : List Nat} {w w2 w3 : World} (hv : OwnV 45 w base v vs) (hl : vs.length = gs.length)
    (hr : ∀ (j : Nat) (g : List Nat), gs[j]? = some g → ∃ u, vs[j]? = some u ∧ OwnV 3 w base u (ints g)) (hN : N = w.heap.size) (hu : OwnV 3 w2 N u (ints g)) (hb : Below N w w2) (hbN : base ≤ N)
    (ho : OwnV 45 w3 base v' (vs ++ [u])) (hg : w2.grownBy w3 v.ownBlock) : GRes base v' (gs ++ [g]) w3 := by
  subst hN
  have hv2 : OwnV 45 w2 base v vs := hv.below hb
  refine ⟨vs ++ [u], ho, by rw [List.length_append, List.length_append, hl]; rfl, fun j g' hj => ?_⟩
  by_cases hjl : j < gs.length
  · rw [List.getElem?_append_left hjl] at hj
    obtain ⟨x, hx, hox⟩ := hr j g' hj
    exact ⟨x, by rw [List.getElem?_append_left (by rw [hl]; exact hjl)]; exact hx, (hox.below hb).grown hg (fun q hq e => hv2.differ (by decide) (hox.below hb) e.symm hq)⟩
  · have hj2 := (List.getElem?_eq_some_iff.1 hj).1
    rw [List.length_append] at hj2
    simp at hj2
    have e : j = gs.length := by omega
    subst e
    rw [List.getElem?_append_right (Nat.le_refl _), Nat.sub_self] at hj
    injection hj with hj
    subst hj
    exact ⟨u, by rw [← hl, List.getElem?_append_right (Nat.le_refl _), Nat.sub_self]; rfl, (hu.mono hbN).grown hg (fun q hq e => hv2.differ (by decide) (hu.mono hbN) e.symm hq)⟩
theorem ints_snoc (l : List Nat) (q : Nat) : ints l ++ [.int .i64 (q : Int)] = ints (l ++ [q]) := by simp [ints]
def isF {F : Type} [DecidableEq F] (l : List F) (i j : Nat) : Bool := decide (∀ k, k < j → l[k]? ≠ l[i]?)
theorem isF_zero {F : Type} [DecidableEq F] (l : List F) (i : Nat) : isF l i 0 = true := decide_eq_true fun k hk => by omega
theorem isF_same {F : Type} [DecidableEq F] {l : List F} {i j : Nat} (h : l[j]? = l[i]?) : isF l i (j + 1) = false := decide_eq_false fun hf => hf j (Nat.lt_succ_self j) h
theorem isF_other {F : Type} [DecidableEq F] {l : List F} {i j : Nat} (h : l[j]? ≠ l[i]?) : isF l i (j + 1) = isF l i j := by
  unfold isF
  refine decide_eq_decide.2 ⟨fun hf k hk => hf k (by omega), fun hf k hk => ?_⟩
  by_cases e : k = j
  · rw [e]; exact h
  · exact hf k (by omega)
theorem rpos_len {F : Type} [DecidableEq F] (l : List F) (x : F) (i k : Nat) : (rpos l x i k).length ≤ k := by
  have h := List.length_filter_le (fun j => decide (i ≤ j) && decide (l[j]? = some x)) (List.range k)
  rw [List.length_range] at h
  exact h
theorem rgrp_len {F : Type} [DecidableEq F] (l : List F) (i : Nat) : (rgrp l i).length ≤ l.length := by
  rw [rgrp, List.length_map]
  have h1 := dd_len (l.take i)
  rw [List.length_take] at h1
  omega

set_option maxRecDepth 100000 in
set_option maxHeartbeats 8000000 in
theorem rgroups_any (A : Option Addr) (n c : Nat) (ks : List Ky) (w : World) (hr : RdK w A n c ks) (hok : ∀ k ∈ ks, KyOk k) (hn : n ≤ 1000) :
    Calls Tryd.prog 14 #[.slice A n c] w fun e w' => ∃ v, e = .returned v ∧ GRes w.heap.size v (grpL (ks.map (·.1))) w' ∧ Below w.heap.size w w' := by
  obtain ⟨fs, hfs⟩ : ∃ fs, fs = ks.map (·.1) := ⟨_, rfl⟩
  rw [← hfs]
  have HFS := Lib.hid (fun (j : Nat) (k : Ky) (h : ks[j]? = some k) => (show fs[j]? = some k.1 by rw [hfs, List.getElem?_map, h]; rfl))
  have HL := Lib.hid (show fs.length = n by rw [hfs, List.length_map]; exact hr.1)
  have HKL := Lib.hid hr.1
  have HR := Lib.hid hr
  have HOK := Lib.hid hok
  have HNC := hr.2.1
  clear hfs hr hok
  obtain ⟨i0, hi0, hz0, hz1, hz2⟩ := info_parts info_int
  obtain ⟨i1, hi1, hy0, hy1, hy2⟩ := info_parts info_ints
  have Hi0 := Lib.hid (And.intro hi0 (And.intro hz0 (And.intro hz1 hz2)))
  have Hi1 := Lib.hid (And.intro hi1 (And.intro hy0 (And.intro hy1 hy2)))
  clear hi0 hz0 hz1 hz2 hi1 hy0 hy1 hy2
  go_enter Tryd.func14, Tryd.ntmps14
  go_wp2_with fail
  go_loopg [3, 4] n (fun g v i wr => ∃ k : Nat, k + g = n ∧ i = .int .i64 k ∧ Hid (GRes w.heap.size v (rgrp fs k) wr ∧ Below w.heap.size w wr ∧ RdK wr A n c ks))
  case atStart => exact ⟨0, by omega, rfl, Lib.hid ⟨GRes.nil _ _, Below.refl _ _, HR.out⟩⟩
  case round =>
    obtain ⟨k, hkg, rfl, I⟩ := hrel
    cases gk with
    | zero =>
      obtain rfl : k = n := by omega
      go_wp2_with fail
      go_ret
      have h1 := I.out.1
      rw [← HL.out, rgrp_all] at h1
      exact ⟨_, rfl, h1, I.out.2.1⟩
    | succ g2 =>
      have hkn : k < n := by omega
      obtain ⟨y, hy⟩ : ∃ y, ks[k]? = some y := ⟨ks[k]'(by rw [HKL.out]; exact hkn), List.getElem?_eq_getElem _⟩
      have hyo := HOK.out y (List.mem_of_getElem? hy)
      obtain ⟨b, off, hA, _, _⟩ := I.out.2.2.2.2 (by omega)
      subst hA
      have HY := Lib.hid hy
      have HYF := Lib.hid (HFS.out k y hy)
      obtain ⟨F2, hF2⟩ : ∃ F2, F2 = flC y.1.1 y.1.2 := ⟨_, rfl⟩
      have HF2 := Lib.hid hF2
      have HI2 := Lib.hid (show (Tryd.prog.info? 29).map (·.size) = some F2.toList.length by rw [hF2, Array.length_toList, flC_size _ _ hyo.la hyo.lb]; exact flSize)
      have HYO := Lib.hid hyo
      clear hy hyo hF2
      go_wp2_with fail
      go_loopg [5, 6] k (fun g s m wr => ∃ j : Nat, j + g = k ∧ m = .int .i64 j ∧ s = .bool (isF fs k j) ∧ Hid (GRes w.heap.size u3 (rgrp fs k) wr ∧ Below w.heap.size w wr ∧ RdK wr (some ⟨b, off, none⟩) n c ks))
      case atStart => exact ⟨0, by omega, rfl, by rw [isF_zero], I⟩
      case round =>
        clear I
        obtain ⟨j, hjg, rfl, rfl, I⟩ := hrel
        cases gk with
        | zero =>
          obtain rfl : j = k := by omega
          cases hf : isF fs j j with
          | false =>
            have HO := Lib.hid (rgrp_old HYF.out hf)
            go_wp2_with fail
            go_roundg g2
            case measure => omega
            case rel => exact ⟨j + 1, by omega, by go_num, by rw [HO.out]; exact I⟩
          | true =>
            have HO := Lib.hid (rgrp_new HYF.out hf)
            have HRS := Lib.hid (rpos_start fs y.1 j)
            have HRA := Lib.hid (rpos_all HYF.out hf)
            clear hf
            go_wp2_with fail
            obtain ⟨N0, hN0⟩ : ∃ N0, N0 = wr.heap.size := ⟨_, rfl⟩
            obtain ⟨W0, hW0⟩ : ∃ W0, W0 = wr := ⟨_, rfl⟩
            have J0 := Lib.hid (show Below N0 W0 wr by rw [hW0]; exact Below.refl _ _)
            have I0 := Lib.hid (show GRes w.heap.size u3 (rgrp fs j) W0 ∧ Below w.heap.size w W0 ∧ RdK W0 (some ⟨b, off, none⟩) n c ks by rw [hW0]; exact I.out)
            rw [← hW0] at hN0
            have HN0 := Lib.hid hN0
            clear hN0 hW0 I
            go_loopg [7, 8] (n - j) (fun g u m wr => ∃ q : Nat, q + g = n ∧ j ≤ q ∧ m = .int .i64 q ∧ Hid (OwnV 3 wr N0 u (ints (rpos fs y.1 j q)) ∧ Below N0 W0 wr))
            case atStart => exact ⟨j, by omega, Nat.le_refl _, rfl, Lib.hid ⟨by rw [HRS.out]; exact OwnV.nil _ _, J0.out⟩⟩
            case round =>
              clear J0
              obtain ⟨q, hqg, hjq, rfl, J⟩ := hrel
              cases gk with
              | zero =>
                obtain rfl : q = n := by omega
                rw [← HL.out, HRA.out] at J
                obtain ⟨vs, hvs, hvl, hvr⟩ := I0.out.1
                have HVS := Lib.hid hvs
                have HVL := Lib.hid hvl
                have HVR := Lib.hid hvr
                have hgl := rgrp_len fs j
                rw [HL.out] at hgl
                have HGL := Lib.hid (show vs.length ≤ 1000 by rw [hvl]; omega)
                obtain ⟨A7, c7, rfl, _, _⟩ := J.out.1.form
                have hz := J.out.2.size
                rw [← HN0.out] at hz
                have hzw := I0.out.2.1.size
                rw [← HN0.out] at hzw
                have HZ := Lib.hid (And.intro hz hzw)
                clear hvs hvl hvr hgl hz hzw
                go_wp2_with (at_builtin; refine wpList_append_litC wr (by rfl) (.tmp 55) (.tmp 57) 43 45 (by rfl) w.heap.size i1 _ 24 Tryd.underlying43 Hi1.out.1 Hi1.out.2.1 Hi1.out.2.2.1 Hi1.out.2.2.2 rfl _ vs (by rfl) (HVS.out.below (by rw [← HN0.out]; exact J.out.2)) [Value.slice A7 (ints (pos fs y.1)).length c7] 1 rfl (by rfl) (fun u hu => by rw [List.mem_singleton.1 hu]; rfl) _ (by rfl) (by have := HGL.out; omega) (by omega) (by have := HZ.out; omega) ?_; intro v' w5 ho hb5 hg5; have JF := Lib.hid (GRes.more HVS.out HVL.out HVR.out HN0.out (OwnV.alloc J.out.1 _) (J.out.2.alloc HZ.out.1 _) HZ.out.2 ho hg5); have JB := Lib.hid (((I0.out.2.1.trans (J.out.2.mono HZ.out.2)).alloc (by have := HZ.out; omega) _).trans hb5); clear ho hb5 hg5)
                have HRE := Lib.hid (HR.out.below JB.out)
                go_roundg g2
                case measure => omega
                case rel => exact ⟨j + 1, by omega, by go_num, by rw [HO.out]; exact Lib.hid ⟨JF.out, JB.out, HRE.out⟩⟩
              | succ g3 =>
                have hqn : q < n := by omega
                have hjn : j < n := by omega
                obtain ⟨x, hx⟩ : ∃ x, ks[q]? = some x := ⟨ks[q]'(by rw [HKL.out]; omega), List.getElem?_eq_getElem _⟩
                have hxo := HOK.out x (List.mem_of_getElem? hx)
                obtain ⟨F1, hF1⟩ : ∃ F1, F1 = flC x.1.1 x.1.2 := ⟨_, rfl⟩
                have HRW := Lib.hid (I0.out.2.2.below (by rw [← HN0.out]; exact J.out.2))
                have HRG := Lib.hid (show wr.rangeAt b (off + q * 37) F1.toList ∧ wr.rangeAt b (off + j * 37) F2.toList from ⟨by rw [hF1]; exact HRW.out.flowAt hx, by rw [HF2.out]; exact HRW.out.flowAt HY.out⟩)
                have HI1 := Lib.hid (show (Tryd.prog.info? 29).map (·.size) = some F1.toList.length by rw [hF1, Array.length_toList, flC_size _ _ hxo.la hxo.lb]; exact flSize)
                have hxf := HFS.out q x hx
                have hq : ∀ W, (Op.equalIn 10000 29 (.agg F1) (.agg F2)).run Tryd.prog W = .ok (decide (x.1 = y.1)) W := fun W => by rw [hF1, HF2.out]; exact eq_flow x.1 y.1 hxo.la hxo.lb HYO.out.la HYO.out.lb W
                have HS := Lib.hid (show rpos fs y.1 j (q + 1) = rpos fs y.1 j q ++ if x.1 = y.1 then [q] else [] by
                  rw [rpos_snoc hjq, hxf]
                  by_cases e : x.1 = y.1
                  · rw [if_pos e, if_pos (by rw [e])]
                  · rw [if_neg e, if_neg (fun h => e (by injection h))])
                have HPL := Lib.hid (rpos_len fs y.1 j q)
                clear hx hxo hF1 hxf HRW
                go_upto_region 16 with fail
                refine wp_region_held_drew (S := fun W => W.rangeAt b (off + q * 37) F1.toList ∧ W.rangeAt b (off + j * 37) F2.toList) (by kernel_rfl) (HRG.out) (fun hHeld => ?_)
                refine wpAnyH_take (i := 0) (oi := _) (v := ?_) rfl (by kernel_rfl) (by kernel_rfl) (by kernel_rfl) (fun _ _ _ h => h) (Or.inl ⟨by rfl, ?_⟩) (by assumption) ?_
                case refine_2 => (intro w hSw; go_simp <;> with_reducible rfl)
                try simp only [List.getElem_toArray, List.getElem_cons_zero, Act.put, List.setIfInBounds_toArray, List.set_cons_zero, List.set_cons_succ]
                refine wpAnyH_take (i := 1) (oi := _) (v := ?_) rfl (by kernel_rfl) (by kernel_rfl) (by kernel_rfl) (fun _ _ _ h => h) (Or.inl ⟨by rfl, ?_⟩) (by assumption) ?_
                case refine_2 => (intro w hSw; go_simp <;> with_reducible rfl)
                try simp only [List.getElem_toArray, List.getElem_cons_zero, List.getElem_cons_succ, Act.put, List.setIfInBounds_toArray, List.set_cons_zero, List.set_cons_succ]
                refine wpAnyH_take (i := 2) (oi := _) (v := ?_) rfl (by kernel_rfl) (by kernel_rfl) (by kernel_rfl) (fun _ _ _ h => h) (Or.inl ⟨by rfl, ?_⟩) (by assumption) ?_
                case refine_2 => (intro w hSw; go_simp <;> with_reducible rfl)
                try simp only [List.getElem_toArray, List.getElem_cons_zero, List.getElem_cons_succ, Act.put, List.setIfInBounds_toArray, List.set_cons_zero, List.set_cons_succ]
                refine wpAnyH_take (i := 3) (oi := _) (v := ?_) rfl (by kernel_rfl) (by kernel_rfl) (by kernel_rfl) (fun _ _ _ h => h) (Or.inl ⟨by rfl, ?_⟩) (by assumption) ?_
                case refine_2 => (intro w hSw; go_simp <;> with_reducible rfl)
                try simp only [List.getElem_toArray, List.getElem_cons_zero, List.getElem_cons_succ, Act.put, List.setIfInBounds_toArray, List.set_cons_zero, List.set_cons_succ]
                refine wpAnyH_take (i := 4) (oi := _) (v := .agg F1.toList.toArray) rfl (by kernel_rfl) (by kernel_rfl) (by kernel_rfl) (fun _ _ _ h => h) (yieldsIf_load_rng 29 (.tmp 43) b (off + q * 37) F1.toList _ (fun w h => h.1) (by rfl) (by rfl) Tryd.underlying29 rfl HI1.out (by rfl)) (by assumption) ?_
                try simp only [List.getElem_toArray, List.getElem_cons_zero, List.getElem_cons_succ, Act.put, List.setIfInBounds_toArray, List.set_cons_zero, List.set_cons_succ]
                refine wpAnyH_take (i := 5) (oi := _) (v := ?_) rfl (by kernel_rfl) (by kernel_rfl) (by kernel_rfl) (fun _ _ _ h => h) (Or.inl ⟨by rfl, ?_⟩) (by assumption) ?_
                case refine_2 => (intro w hSw; go_simp <;> with_reducible rfl)
                try simp only [List.getElem_toArray, List.getElem_cons_zero, List.getElem_cons_succ, Act.put, List.setIfInBounds_toArray, List.set_cons_zero, List.set_cons_succ]
                refine wpAnyH_take (i := 6) (oi := _) (v := ?_) rfl (by kernel_rfl) (by kernel_rfl) (by kernel_rfl) (fun _ _ _ h => h) (Or.inl ⟨by rfl, ?_⟩) (by assumption) ?_
                case refine_2 => (intro w hSw; go_simp <;> with_reducible rfl)
                try simp only [List.getElem_toArray, List.getElem_cons_zero, List.getElem_cons_succ, Act.put, List.setIfInBounds_toArray, List.set_cons_zero, List.set_cons_succ]
                refine wpAnyH_take (i := 7) (oi := _) (v := ?_) rfl (by kernel_rfl) (by kernel_rfl) (by kernel_rfl) (fun _ _ _ h => h) (Or.inl ⟨by rfl, ?_⟩) (by assumption) ?_
                case refine_2 => (intro w hSw; go_simp <;> with_reducible rfl)
                try simp only [List.getElem_toArray, List.getElem_cons_zero, List.getElem_cons_succ, Act.put, List.setIfInBounds_toArray, List.set_cons_zero, List.set_cons_succ]
                refine wpAnyH_take (i := 8) (oi := _) (v := ?_) rfl (by kernel_rfl) (by kernel_rfl) (by kernel_rfl) (fun _ _ _ h => h) (Or.inl ⟨by rfl, ?_⟩) (by assumption) ?_
                case refine_2 => (intro w hSw; go_simp <;> with_reducible rfl)
                try simp only [List.getElem_toArray, List.getElem_cons_zero, List.getElem_cons_succ, Act.put, List.setIfInBounds_toArray, List.set_cons_zero, List.set_cons_succ]
                refine wpAnyH_take (i := 9) (oi := _) (v := .agg F2.toList.toArray) rfl (by kernel_rfl) (by kernel_rfl) (by kernel_rfl) (fun _ _ _ h => h) (yieldsIf_load_rng 29 (.tmp 48) b (off + j * 37) F2.toList _ (fun w h => h.2) (by rfl) (by rfl) Tryd.underlying29 rfl HI2.out (by rfl)) (by assumption) ?_
                try simp only [List.getElem_toArray, List.getElem_cons_zero, List.getElem_cons_succ, Act.put, List.setIfInBounds_toArray, List.set_cons_zero, List.set_cons_succ]
                refine wpAnyH_take (i := 10) (oi := _) (v := ?_) rfl (by kernel_rfl) (by kernel_rfl) (by kernel_rfl) (fun _ _ _ h => h) (Or.inl ⟨by rfl, ?_⟩) (by assumption) ?_
                case refine_2 => (intro w hSw; go_simp <;> with_reducible rfl)
                try simp only [List.getElem_toArray, List.getElem_cons_zero, List.getElem_cons_succ, Act.put, List.setIfInBounds_toArray, List.set_cons_zero, List.set_cons_succ]
                refine wpAnyH_done (by kernel_rfl) ?_ _
                clear hHeld
                clear HRG HI1
                by_cases e : x.1 = y.1
                · rw [if_pos e] at HS
                  rw [decide_eq_true e]
                  clear hq
                  have JD := Lib.hid (show OwnV 3 wr.drew N0 u7 (ints (rpos fs y.1 j q)) ∧ Below N0 W0 wr.drew from ⟨J.out.1, below_drew J.out.2⟩)
                  have hz := JD.out.2.size
                  rw [← HN0.out] at hz
                  have HZ := Lib.hid hz
                  generalize wr.drew = wd at *
                  clear hz J
                  go_wp2_with (at_builtin; refine wpList_append_lit wd (by rfl) (.tmp 51) (.tmp 53) 45 3 (by rfl) N0 i0 _ 8 Tryd.underlying45 Hi0.out.1 Hi0.out.2.1 Hi0.out.2.2.1 Hi0.out.2.2.2 rfl _ (ints (rpos fs y.1 j q)) (by rfl) JD.out.1 [Value.int .i64 (q : Int)] 1 rfl (by rfl) (fun u hu => by rw [List.mem_singleton.1 hu]; rfl) _ (by rfl) (by have := HPL.out; rw [ints_len]; omega) (by omega) HZ.out ?_; intro v' w5 ho hb5 hg5; have J5 := Lib.hid (And.intro ho (JD.out.2.trans (((Below.refl _ wd).alloc HZ.out _).trans hb5))); clear ho hb5 hg5)
                  go_roundg g3
                  case measure => omega
                  case rel => exact ⟨q + 1, by omega, by omega, by go_num, by rw [HS.out, ← ints_snoc]; exact J5⟩
                · rw [if_neg e, List.append_nil] at HS
                  rw [decide_eq_false e]
                  clear hq
                  go_wp2_with fail
                  go_roundg g3
                  case measure => omega
                  case rel => exact ⟨q + 1, by omega, by omega, by go_num, by rw [HS.out]; exact Lib.hid ⟨J.out.1, below_drew J.out.2⟩⟩
        | succ g3 =>
          have hjk : j < k := by omega
          obtain ⟨x, hx⟩ : ∃ x, ks[j]? = some x := ⟨ks[j]'(by rw [HKL.out]; omega), List.getElem?_eq_getElem _⟩
          have hxo := HOK.out x (List.mem_of_getElem? hx)
          obtain ⟨F1, hF1⟩ : ∃ F1, F1 = flC x.1.1 x.1.2 := ⟨_, rfl⟩
          have HRG := Lib.hid (show wr.rangeAt b (off + j * 37) F1.toList ∧ wr.rangeAt b (off + k * 37) F2.toList from ⟨by rw [hF1]; exact I.out.2.2.flowAt hx, by rw [HF2.out]; exact I.out.2.2.flowAt HY.out⟩)
          have HI1 := Lib.hid (show (Tryd.prog.info? 29).map (·.size) = some F1.toList.length by rw [hF1, Array.length_toList, flC_size _ _ hxo.la hxo.lb]; exact flSize)
          have hxf := HFS.out j x hx
          have hq : ∀ W, (Op.equalIn 10000 29 (.agg F1) (.agg F2)).run Tryd.prog W = .ok (decide (x.1 = y.1)) W := fun W => by rw [hF1, HF2.out]; exact eq_flow x.1 y.1 hxo.la hxo.lb HYO.out.la HYO.out.lb W
          have HS := Lib.hid (show isF fs k (j + 1) = if x.1 = y.1 then false else isF fs k j by
            split
            · rename_i e
              exact isF_same (by rw [hxf, HYF.out, e])
            · rename_i e
              exact isF_other (by rw [hxf, HYF.out]; exact fun h => e (by injection h)))
          clear hx hxo hF1 hxf
          have hjn : j < n := by omega
          go_upto_region 9 with fail
          refine wp_region_held_drew (S := fun W => W.rangeAt b (off + j * 37) F1.toList ∧ W.rangeAt b (off + k * 37) F2.toList) (by kernel_rfl) (HRG.out) (fun hHeld => ?_)
          refine wpAnyH_take (i := 0) (oi := _) (v := ?_) rfl (by kernel_rfl) (by kernel_rfl) (by kernel_rfl) (fun _ _ _ h => h) (Or.inl ⟨by rfl, ?_⟩) (by assumption) ?_
          case refine_2 => (intro w hSw; go_simp <;> with_reducible rfl)
          try simp only [List.getElem_toArray, List.getElem_cons_zero, Act.put, List.setIfInBounds_toArray, List.set_cons_zero, List.set_cons_succ]
          refine wpAnyH_take (i := 1) (oi := _) (v := ?_) rfl (by kernel_rfl) (by kernel_rfl) (by kernel_rfl) (fun _ _ _ h => h) (Or.inl ⟨by rfl, ?_⟩) (by assumption) ?_
          case refine_2 => (intro w hSw; go_simp <;> with_reducible rfl)
          try simp only [List.getElem_toArray, List.getElem_cons_zero, List.getElem_cons_succ, Act.put, List.setIfInBounds_toArray, List.set_cons_zero, List.set_cons_succ]
          refine wpAnyH_take (i := 2) (oi := _) (v := ?_) rfl (by kernel_rfl) (by kernel_rfl) (by kernel_rfl) (fun _ _ _ h => h) (Or.inl ⟨by rfl, ?_⟩) (by assumption) ?_
          case refine_2 => (intro w hSw; go_simp <;> with_reducible rfl)
          try simp only [List.getElem_toArray, List.getElem_cons_zero, List.getElem_cons_succ, Act.put, List.setIfInBounds_toArray, List.set_cons_zero, List.set_cons_succ]
          refine wpAnyH_take (i := 3) (oi := _) (v := ?_) rfl (by kernel_rfl) (by kernel_rfl) (by kernel_rfl) (fun _ _ _ h => h) (Or.inl ⟨by rfl, ?_⟩) (by assumption) ?_
          case refine_2 => (intro w hSw; go_simp <;> with_reducible rfl)
          try simp only [List.getElem_toArray, List.getElem_cons_zero, List.getElem_cons_succ, Act.put, List.setIfInBounds_toArray, List.set_cons_zero, List.set_cons_succ]
          refine wpAnyH_take (i := 4) (oi := _) (v := .agg F1.toList.toArray) rfl (by kernel_rfl) (by kernel_rfl) (by kernel_rfl) (fun _ _ _ h => h) (yieldsIf_load_rng 29 (.tmp 23) b (off + j * 37) F1.toList _ (fun w h => h.1) (by rfl) (by rfl) Tryd.underlying29 rfl HI1.out (by rfl)) (by assumption) ?_
          try simp only [List.getElem_toArray, List.getElem_cons_zero, List.getElem_cons_succ, Act.put, List.setIfInBounds_toArray, List.set_cons_zero, List.set_cons_succ]
          refine wpAnyH_take (i := 5) (oi := _) (v := ?_) rfl (by kernel_rfl) (by kernel_rfl) (by kernel_rfl) (fun _ _ _ h => h) (Or.inl ⟨by rfl, ?_⟩) (by assumption) ?_
          case refine_2 => (intro w hSw; go_simp <;> with_reducible rfl)
          try simp only [List.getElem_toArray, List.getElem_cons_zero, List.getElem_cons_succ, Act.put, List.setIfInBounds_toArray, List.set_cons_zero, List.set_cons_succ]
          refine wpAnyH_take (i := 6) (oi := _) (v := ?_) rfl (by kernel_rfl) (by kernel_rfl) (by kernel_rfl) (fun _ _ _ h => h) (Or.inl ⟨by rfl, ?_⟩) (by assumption) ?_
          case refine_2 => (intro w hSw; go_simp <;> with_reducible rfl)
          try simp only [List.getElem_toArray, List.getElem_cons_zero, List.getElem_cons_succ, Act.put, List.setIfInBounds_toArray, List.set_cons_zero, List.set_cons_succ]
          refine wpAnyH_take (i := 7) (oi := _) (v := ?_) rfl (by kernel_rfl) (by kernel_rfl) (by kernel_rfl) (fun _ _ _ h => h) (Or.inl ⟨by rfl, ?_⟩) (by assumption) ?_
          case refine_2 => (intro w hSw; go_simp <;> with_reducible rfl)
          try simp only [List.getElem_toArray, List.getElem_cons_zero, List.getElem_cons_succ, Act.put, List.setIfInBounds_toArray, List.set_cons_zero, List.set_cons_succ]
          refine wpAnyH_take (i := 8) (oi := _) (v := ?_) rfl (by kernel_rfl) (by kernel_rfl) (by kernel_rfl) (fun _ _ _ h => h) (Or.inl ⟨by rfl, ?_⟩) (by assumption) ?_
          case refine_2 => (intro w hSw; go_simp <;> with_reducible rfl)
          try simp only [List.getElem_toArray, List.getElem_cons_zero, List.getElem_cons_succ, Act.put, List.setIfInBounds_toArray, List.set_cons_zero, List.set_cons_succ]
          refine wpAnyH_take (i := 9) (oi := _) (v := .agg F2.toList.toArray) rfl (by kernel_rfl) (by kernel_rfl) (by kernel_rfl) (fun _ _ _ h => h) (yieldsIf_load_rng 29 (.tmp 28) b (off + k * 37) F2.toList _ (fun w h => h.2) (by rfl) (by rfl) Tryd.underlying29 rfl HI2.out (by rfl)) (by assumption) ?_
          try simp only [List.getElem_toArray, List.getElem_cons_zero, List.getElem_cons_succ, Act.put, List.setIfInBounds_toArray, List.set_cons_zero, List.set_cons_succ]
          refine wpAnyH_take (i := 10) (oi := _) (v := ?_) rfl (by kernel_rfl) (by kernel_rfl) (by kernel_rfl) (fun _ _ _ h => h) (Or.inl ⟨by rfl, ?_⟩) (by assumption) ?_
          case refine_2 => (intro w hSw; go_simp <;> with_reducible rfl)
          try simp only [List.getElem_toArray, List.getElem_cons_zero, List.getElem_cons_succ, Act.put, List.setIfInBounds_toArray, List.set_cons_zero, List.set_cons_succ]
          refine wpAnyH_done (by kernel_rfl) ?_ _
          clear hHeld
          clear HRG HI1
          by_cases e : x.1 = y.1
          · rw [if_pos e] at HS
            rw [decide_eq_true e]
            clear hq
            go_wp2_with fail
            go_roundg g3
            case measure => omega
            case rel => exact ⟨j + 1, by omega, by go_num, by rw [HS.out], Lib.hid ⟨I.out.1, below_drew I.out.2.1, I.out.2.2⟩⟩
          · rw [if_neg e] at HS
            rw [decide_eq_false e]
            clear hq
            go_wp2_with fail
            go_roundg g3
            case measure => omega
            case rel => exact ⟨j + 1, by omega, by go_num, by rw [HS.out], Lib.hid ⟨I.out.1, below_drew I.out.2.1, I.out.2.2⟩⟩
end Go.Proofs.YtonafonhadocgaaDoor
