/- slices.Compact at flows. -/
import Derived.Test.YtonafonhadocgaaGreatDoorFlRows
import Derived.Test.YtonafonhadocgaaGreatDoorQU
import Derived.Test.YtonafonhadocgaaGreatDoorQM
import Derived.Laws.IdiomCopy
import Derived.Deep.LoopGhost
namespace Go.Proofs.YtonafonhadocgaaGreatDoor
open Go.RowKit Go.Shelf

theorem yieldsIf_load_rngF {P : Program} {ops : Array Oper} {o : Oper} {a : Act} {S : World → Prop} (ty : TypeId) (x : Operand) (g i : Nat) (cs : List Value) (d : TypeDesc) (hS : ∀ w, S w → w.rangeAt g i cs)
    (ho : o.op = .load ty x) (hx : a.eval x = .pointer (some ⟨g, i, none⟩))
    (hu : P.underlying ty = some d) (hd : d.isRow = true) (hi : (P.info? ty).map (·.size) = some cs.length)
    (hw : Region.wanted o (yielded ops a.tmps) = true) : YieldsIf P ops S o (.agg cs.toArray) a :=
  .inl ⟨hw, fun w hw' => by
    unfold execOp
    simp only [ho, hx, Instr.loadAt, Instr.sureAddr, Sem.run_bind, Sem.run_pure, Result.andThen_ok, run_loadVar_mid w g i ty cs d (hS w hw') hu hd hi]⟩

/-! ### plain -/
theorem comp_two (x y : Fl) : ∀ l : List Fl, compL (l ++ [x, y]) = if x = y then compL (l ++ [x]) else compL (l ++ [x]) ++ [y]
  | [] => by
    by_cases e : x = y
    · rw [if_pos e]; simp [compL, e]
    · rw [if_neg e]; simp [compL, e]
  | [z] => by
    by_cases e : x = y
    · subst e
      by_cases e2 : z = x
      · subst e2; simp [compL]
      · simp [compL, e2]
    · by_cases e2 : z = x
      · subst e2; simp [compL, e]
      · simp [compL, e, e2]
  | z :: u :: l => by
    have ih := comp_two x y (u :: l)
    show compL (z :: u :: (l ++ [x, y])) = if x = y then compL (z :: u :: (l ++ [x])) else compL (z :: u :: (l ++ [x])) ++ [y]
    rw [compL, compL]
    have ih' : compL (u :: (l ++ [x, y])) = if x = y then compL (u :: (l ++ [x])) else compL (u :: (l ++ [x])) ++ [y] := ih
    rw [ih']
    by_cases e : x = y <;> by_cases e2 : z = u <;> simp [e, e2]
theorem comp_step {fs : List Fl} {m : Nat} {x y : Fl} (hx : fs[m]? = some x) (hy : fs[m + 1]? = some y) : compL (fs.take (m + 2)) = if x = y then compL (fs.take (m + 1)) else compL (fs.take (m + 1)) ++ [y] := by
  have e1 : fs.take (m + 1) = fs.take m ++ [x] := by rw [List.take_add_one, hx]; rfl
  have e2 : fs.take (m + 2) = fs.take m ++ [x, y] := by
    rw [show m + 2 = (m + 1) + 1 by omega, List.take_add_one, hy, e1]
    simp
  rw [e1, e2]
  exact comp_two x y _
theorem comp_short {fs : List Fl} (h : fs.length < 2) : compL fs = fs := by
  match fs, h with
  | [], _ => rfl
  | [x], _ => rfl
theorem comp_len (fs : List Fl) : (compL fs).length ≤ fs.length := by
  refine snoc_ind (P := fun fs => (compL fs).length ≤ fs.length) (Nat.le_refl _) ?_ fs
  intro l y ih
  refine snoc_ind (P := fun l => (compL l).length ≤ l.length → (compL (l ++ [y])).length ≤ (l ++ [y]).length) (fun _ => Nat.le_refl _) ?_ l ih
  intro l x _ h
  rw [List.append_assoc]
  show (compL (l ++ [x, y])).length ≤ (l ++ [x, y]).length
  rw [comp_two]
  rw [List.length_append] at h
  simp only [List.length_singleton] at h
  split
  · rw [List.length_append]; simp; omega
  · rw [List.length_append, List.length_append]; simp; omega
theorem set_drop {fs P : List Fl} {y : Fl} (h : P.length < fs.length) : (P ++ fs.drop P.length).set P.length y = (P ++ [y]) ++ fs.drop (P ++ [y]).length := by
  rw [List.set_append_right _ _ (Nat.le_refl _), Nat.sub_self, List.append_assoc, List.length_append]
  congr 1
  rw [List.drop_eq_getElem_cons h]
  rfl
theorem get_drop {fs P : List Fl} {m : Nat} {y : Fl} (hm : P.length ≤ m) (h : fs[m]? = some y) : (P ++ fs.drop P.length)[m]? = some y := by
  rw [List.getElem?_append_right hm, List.getElem?_drop, show P.length + (m - P.length) = m by omega, h]

/-! ### stores -/
theorem RowF.setAt {W : World} {base g cap : Nat} {fs : List Fl} (h : RowF W base g cap fs) (k : Nat) (f : Fl) (hk : k < fs.length) (hf : FlOk f) : RowF (W.setCells g (k * 36) (flC f.1 f.2).toList) base g cap (fs.set k f) := by
  obtain ⟨cur, hc, hs⟩ := h.blk
  have hl := flC_len hf
  have hB : Blk W g 30 cur := hc
  refine ⟨⟨setL cur (k * 36) (flC f.1 f.2).toList, Blk.setCells _ _ _ _ hB, ?_⟩, h.lo, by rw [List.length_set]; exact h.len, h.capm, fun j x hj i v hv => ?_, fun x hx => ?_⟩
  · have hsz : ∀ (vs : List Value) (A : Array Value) (i : Nat), (setL A i vs).size = A.size := fun vs => by
      induction vs with
      | nil => exact fun _ _ => rfl
      | cons v vs ih =>
        intro A i
        show (setL (A.setIfInBounds i v) (i + 1) vs).size = _
        rw [ih, Array.size_setIfInBounds]
    rw [hsz, hs]
  · rw [List.getElem?_set] at hj
    by_cases e : k = j
    · subst e
      rw [if_pos rfl, if_pos hk] at hj
      injection hj with hj
      subst hj
      have hi := (List.getElem?_eq_some_iff.1 hv).1
      rw [World.cell?_setCells_in g _ _ _ (fun q hq => ?_) i hi]
      · rw [List.getElem?_eq_getElem hi] at hv
        exact hv
      · rw [hB.cell, Array.getElem?_eq_getElem (by have := h.len; omega)]
        rfl
    · rw [if_neg e] at hj
      have hi := (List.getElem?_eq_some_iff.1 hv).1
      rw [flC_len (h.ok x (List.mem_of_getElem? hj))] at hi
      rw [World.cell?_setCells_out g _ _ _ _ (fun _ _ => by rw [hl]; show j * 36 + i < k * 36 ∨ k * 36 + 36 ≤ j * 36 + i; omega)]
      exact h.at_ j x hj i v hv
  · rcases List.mem_or_eq_of_mem_set hx with h1 | h1
    · exact h.ok x h1
    · rw [h1]; exact hf
theorem RowF.wiped {W : World} {base g cap : Nat} {fs : List Fl} (h : RowF W base g cap fs) (o : Nat) (vs : List Value) (ho : fs.length * 36 ≤ o) : RowF (W.setCells g o vs) base g cap fs := by
  obtain ⟨cur, hc, hs⟩ := h.blk
  have hB : Blk W g 30 cur := hc
  refine ⟨⟨setL cur o vs, Blk.setCells _ _ _ _ hB, ?_⟩, h.lo, h.len, h.capm, fun j x hj i v hv => ?_, h.ok⟩
  · have hsz : ∀ (vs : List Value) (A : Array Value) (i : Nat), (setL A i vs).size = A.size := fun vs => by
      induction vs with
      | nil => exact fun _ _ => rfl
      | cons v vs ih =>
        intro A i
        show (setL (A.setIfInBounds i v) (i + 1) vs).size = _
        rw [ih, Array.size_setIfInBounds]
    rw [hsz, hs]
  · have hi := (List.getElem?_eq_some_iff.1 hv).1
    have hj2 := (List.getElem?_eq_some_iff.1 hj).1
    rw [flC_len (h.ok x (List.mem_of_getElem? hj))] at hi
    rw [World.cell?_setCells_out g _ _ _ _ (fun _ _ => by show j * 36 + i < o ∨ _; omega)]
    exact h.at_ j x hj i v hv
theorem RowF.room {W : World} {base g cap : Nat} {fs : List Fl} (h : RowF W base g cap fs) (o n : Nat) (hn : o + n ≤ cap * 36) : W.there g o n := by
  obtain ⟨cur, hc, hs⟩ := h.blk
  have hB : Blk W g 30 cur := hc
  intro j hj
  exact ⟨by rw [hB.cell, Array.getElem?_eq_getElem (by omega)]; rfl, hB.frozen (o + j)⟩
theorem below_setCells {W0 W : World} {base g : Nat} (h : Below base W0 W) (hg : base ≤ g) (o : Nat) (vs : List Value) (_hz : W0.heap.size ≤ W.heap.size) : Below base W0 (W.setCells g o vs) := by
  have h1 := (grownBy_setCells g vs o W).1
  exact h.trans ⟨h1.os, h1.tape, h1.output, h1.size, fun k hk => by
    by_cases hkw : k < W.heap.size
    · exact h1.block k hkw (fun e => by injection e with e; omega)
    · have e1 : (W.setCells g o vs).heap.size = W.heap.size := (grownBy_setCells g vs o W).2
      rw [Array.getElem?_eq_none (by omega), Array.getElem?_eq_none (by omega)]⟩

theorem wpList_outcome {P : Program} {ops : Array Oper} {Q : Exit → Act → World → Prop} {a : Act} {w w' : World} {rest : List Oper} {o : Oper} {v : Value}
    (hw : Region.wanted o (yielded ops a.tmps) = true) (hv : (execOp a.eval o).run P w = .ok (.value v) w') (h : wpList P ops Q rest (a.put o.dst v) w') : wpList P ops Q (o :: rest) a w :=
  BigFrame.wpList_want hw fun _ hK => by
    unfold Oper.wp
    simp only [hv, Oper.upon]
    exact hK _ _ h
theorem run_clear_cells {P : Program} (w : World) (t e ty : TypeId) (z : Value) (k : Nat) (ht : P.underlying t = some (.slice e)) (hv : ∀ w, (zeroValue e).run P w = .ok z w) (hk : z.cells.size = k) (hk0 : 0 < k) (h1 : z.cells.toList.all (·.oneCell') = true) (b o n c : Nat) (hn : 0 < n)
    (hth : w.there b o (n * k)) :
    (Builtin.clear_ #[t] ty #[.slice (some ⟨b, o, none⟩) n c]).run P w = .ok (.tuple #[]) (w.setCells b o (Builtin.zeroCells z.cells n).toList) := by
  have hl : (Builtin.zeroCells z.cells n).toList.length = n * k := by simp [Builtin.zeroCells, hk]
  have hst := run_storeCells_cells (P := P) b o (Builtin.zeroCells z.cells n).toList 0 w (by rw [hl]; intro j hj; exact (hth j (by simpa using hj)).1) (by rw [hl]; intro j hj; exact (hth j (by simpa using hj)).2) (by
    intro v hv'
    rw [Builtin.zeroCells, Array.toList_map, List.mem_map] at hv'
    obtain ⟨i, _, rfl⟩ := hv'
    have hlt : i % z.cells.size < z.cells.size := Nat.mod_lt _ (by omega)
    rw [getElem!_pos z.cells (i % z.cells.size) hlt]
    exact List.all_eq_true.1 h1 _ (by rw [← Array.getElem_toList]; exact List.getElem_mem _))
  simp only [Nat.add_zero] at hst
  obtain ⟨m, rfl⟩ : ∃ m, n = m + 1 := ⟨n - 1, by omega⟩
  simp [Builtin.clear_, run_underlying ht, hv, hst]

theorem wpList_clear_cells {P : Program} (w : World) {ops : Array Oper} {rest : List Oper} {o : Oper} {a : Act} {Q : Exit → Act → World → Prop} (hgd : o.guard = none) (s : Operand) (t : TypeId)
    (ho : o.op = .call { callee := .builtin .clear, args := #[s], argTypes := #[t] }) (e : TypeId) (z : Value) (k : Nat) (ht : P.underlying t = some (.slice e)) (hv : ∀ w, (zeroValue e).run P w = .ok z w) (hk : z.cells.size = k) (hk0 : 0 < k) (h1 : z.cells.toList.all (·.oneCell') = true)
    (b off n c : Nat) (hs : a.eval s = .slice (some ⟨b, off, none⟩) n c) (hn : 0 < n) (hth : w.there b off (n * k))
    (h : wpList P ops Q rest (a.put o.dst (.tuple #[])) (w.setCells b off (Builtin.zeroCells z.cells n).toList)) : wpList P ops Q (o :: rest) a w :=
  wpList_plain hgd fun _ hK => by
    unfold Oper.wp execOp
    simp only [ho, resolve, invoke, builtin, Sem.run_bind, Sem.run_pure, Result.andThen_ok, List.map_toArray, List.map_cons, List.map_nil, hs, run_clear_cells w t e _ z k ht hv hk hk0 h1 b off n c hn hth]
    exact hK _ _ h
theorem wpList_load_rngP {P : Program} {w : World} {ops : Array Oper} {rest : List Oper} {o : Oper} {a : Act} {Q : Exit → Act → World → Prop} (ty : TypeId) (x : Operand) (g i : Nat) (cs : List Value) (d : TypeDesc) (hc : w.rangeAt g i cs)
    (ho : o.op = .load ty x) (hx : a.eval x = .pointer (some ⟨g, i, none⟩)) (hu : P.underlying ty = some d) (hd : d.isRow = true) (hi : (P.info? ty).map (·.size) = some cs.length)
    (hw : Region.wanted o (yielded ops a.tmps) = true) (h : wpList P ops Q rest (a.put o.dst (.agg cs.toArray)) w) : wpList P ops Q (o :: rest) a w :=
  BigFrame.wpList_want hw fun _ hK => wp_load_mid ty x ho g i hx cs d hc hu hd hi (hK _ _ h)
theorem wpList_store_rngP {P : Program} {w : World} {ops : Array Oper} {rest : List Oper} {o : Oper} {a : Act} {Q : Exit → Act → World → Prop} (ty : TypeId) (x y : Operand) (g i : Nat) (cs : Array Value) (ho : o.op = .store ty x y) (hdst : o.dst = none)
    (hx : a.eval x = .pointer (some ⟨g, i, none⟩)) (hy : a.eval y = .agg cs) (ht : w.there g i cs.size) (hi : (P.info? ty).map (·.size) = some cs.size) (h1 : cs.toList.all (·.oneCell') = true)
    (hw : Region.wanted o (yielded ops a.tmps) = true) (h : wpList P ops Q rest a (w.setCells g i cs.toList)) : wpList P ops Q (o :: rest) a w :=
  BigFrame.wpList_want hw fun _ hK => wp_store_mid ty x y ho g i cs hx hy ht hi (by rw [← Array.all_toList]; exact h1) (hK _ _ (by rw [hdst]; exact h))
theorem at_loadP {P : Program} {ops : Array Oper} {rest : List Oper} {a : Act} {w : World} {Q : Exit → Act → World → Prop} {dst : Option Tmp} {t : TypeId} {ps : String} {af : Array Edge} {gd : Option (Nat × Bool)} (ty : TypeId) (x : Operand) (h : wpList P ops Q ({ dst := dst, op := .load ty x, type := t, pos := ps, after := af, guard := gd } :: rest) a w) :
    wpList P ops Q ({ dst := dst, op := .load ty x, type := t, pos := ps, after := af, guard := gd } :: rest) a w := h
theorem at_clear {P : Program} {ops : Array Oper} {rest : List Oper} {a : Act} {w : World} {Q : Exit → Act → World → Prop} {dst : Option Tmp} {t : TypeId} {ps : String} {af : Array Edge} {gd : Option (Nat × Bool)} (av : Array Operand) (ts : Array TypeId) (h : wpList P ops Q ({ dst := dst, op := .call { callee := .builtin .clear, args := av, argTypes := ts }, type := t, pos := ps, after := af, guard := gd } :: rest) a w) :
    wpList P ops Q ({ dst := dst, op := .call { callee := .builtin .clear, args := av, argTypes := ts }, type := t, pos := ps, after := af, guard := gd } :: rest) a w := h
theorem zero_flow : ∀ w, (zeroValue 30).run Tryz.prog w = .ok (.agg (flC zE zE)) w := fun w => Tryz.zeroValue30 w

set_option maxRecDepth 100000 in
set_option maxHeartbeats 8000000 in
theorem compact_any (w : World) (base g cap : Nat) (fs : List Fl) (h : RowF w base g cap fs) (hn : fs.length ≤ 1000) :
    Calls Tryz.prog 31 #[.slice (some ⟨g, 0, none⟩) fs.length cap] w fun e w' => e = .returned (.slice (some ⟨g, 0, none⟩) (compL fs).length cap) ∧ RowF w' base g cap (compL fs) ∧ Below base w w' := by
  have HW := Lib.hid h
  have HOK := Lib.hid h.ok
  have hcap := h.len
  have hcm := h.capm
  clear h
  by_cases h2 : fs.length < 2
  · have HC := Lib.hid (comp_short h2)
    rw [HC.out]
    generalize hl : fs.length = n at *
    clear hl
    go_enter Tryz.func31, Tryz.ntmps31
    go_wp2_with fail
    go_ret
    exact ⟨rfl, HW.out, Below.refl _ _⟩
  · obtain ⟨n, hl⟩ : ∃ n, n = fs.length := ⟨_, rfl⟩
    have HL := Lib.hid hl
    rw [← hl] at hn hcap h2 ⊢
    clear hl
    have I0 := Lib.hid (And.intro HW.out (Below.refl base w))
    go_enter Tryz.func31, Tryz.ntmps31
    go_wp2_with fail
    go_loopg [3] (n - 1) (fun gg v wr => ∃ q k : Nat, q + gg + 1 = n ∧ v = .int .i64 (k : Int) ∧ k = q + 1 ∧ Hid (compL (fs.take (q + 1)) = fs.take (q + 1)) ∧ Hid (RowF wr base g cap fs ∧ Below base w wr))
    case atStart => exact ⟨0, 1, by omega, rfl, rfl, Lib.hid (comp_short (by rw [List.length_take]; omega)), I0⟩
    case round =>
      clear I0
      obtain ⟨q, k, hqg, rfl, hkq, HT, I⟩ := hrel
      cases gk with
      | zero =>
        have hT := HT.out
        rw [List.take_of_length_le (by rw [← HL.out]; omega)] at hT
        have HC := Lib.hid hT
        obtain rfl : k = n := by omega
        clear hT hkq
        go_wp2_with fail
        go_ret
        exact ⟨by rw [HC.out, ← HL.out]; rfl, by rw [HC.out]; exact I.out.1, I.out.2⟩
      | succ g2 =>
        have hkn : k < n := by omega
        have hk1 : (k : Int) - 1 = (q : Int) := by omega
        have hw0 : IntKind.i64.wrap (q : Int) = (q : Int) := by simp [IntKind.wrap, IntKind.bits, IntKind.signed]; omega
        have hqn : q < n := by omega
        obtain ⟨y, hy⟩ : ∃ y, fs[k]? = some y := ⟨fs[k]'(by rw [← HL.out]; omega), List.getElem?_eq_getElem _⟩
        obtain ⟨x, hx⟩ : ∃ x, fs[q]? = some x := ⟨fs[q]'(by rw [← HL.out]; omega), List.getElem?_eq_getElem _⟩
        have hyo := HOK.out y (List.mem_of_getElem? hy)
        have hxo := HOK.out x (List.mem_of_getElem? hx)
        obtain ⟨F1, hF1⟩ : ∃ F1, F1 = flC y.1 y.2 := ⟨_, rfl⟩
        obtain ⟨F2, hF2⟩ : ∃ F2, F2 = flC x.1 x.2 := ⟨_, rfl⟩
        have HI1 := Lib.hid (show (Tryz.prog.info? 30).map (·.size) = some F1.toList.length by rw [hF1, Array.length_toList, flC_size _ _ hyo.la hyo.lb]; exact flSize)
        have HI2 := Lib.hid (show (Tryz.prog.info? 30).map (·.size) = some F2.toList.length by rw [hF2, Array.length_toList, flC_size _ _ hxo.la hxo.lb]; exact flSize)
        have hq : ∀ W, (Op.equalIn 10000 30 (.agg F1) (.agg F2)).run Tryz.prog W = .ok (decide (y = x)) W := fun W => by rw [hF1, hF2]; exact eq_flow y x hyo.la hyo.lb hxo.la hxo.lb W
        have HRG := Lib.hid (show wr.rangeAt g (k * 36) F1.toList ∧ wr.rangeAt g (q * 36) F2.toList from ⟨by rw [hF1]; exact I.out.1.at_ _ _ hy, by rw [hF2]; exact I.out.1.at_ _ _ hx⟩)
        have HCS := Lib.hid (show compL (fs.take (q + 2)) = if x = y then compL (fs.take (q + 1)) else compL (fs.take (q + 1)) ++ [y] from comp_step hx (by rw [← hkq]; exact hy))
        have HTS := Lib.hid (show fs.take (q + 2) = fs.take (q + 1) ++ [y] by rw [show q + 2 = (q + 1) + 1 by omega, List.take_add_one, ← hkq, hy]; rfl)
        have HKQ := Lib.hid hkq
        clear hF1 hF2 hx hy hyo hxo hkq
        go_upto_region 6 with fail
        refine wp_region_held_drew (S := fun W => W.rangeAt g (k * 36) F1.toList ∧ W.rangeAt g (q * 36) F2.toList) (by kernel_rfl) (HRG.out) (fun hHeld => ?_)
        refine wpAnyH_take (i := 0) (oi := _) (v := ?_) rfl (by kernel_rfl) (by kernel_rfl) (by kernel_rfl) (fun _ _ _ h => h) (Or.inl ⟨by rfl, ?_⟩) (by assumption) ?_
        case refine_2 => (intro w hSw; go_simp <;> with_reducible rfl)
        try simp only [List.getElem_toArray, List.getElem_cons_zero, Act.put, List.setIfInBounds_toArray, List.set_cons_zero, List.set_cons_succ]
        refine wpAnyH_take (i := 1) (oi := _) (v := ?_) rfl (by kernel_rfl) (by kernel_rfl) (by kernel_rfl) (fun _ _ _ h => h) (Or.inl ⟨by rfl, ?_⟩) (by assumption) ?_
        case refine_2 => (intro w hSw; go_simp <;> with_reducible rfl)
        try simp only [List.getElem_toArray, List.getElem_cons_zero, List.getElem_cons_succ, Act.put, List.setIfInBounds_toArray, List.set_cons_zero, List.set_cons_succ]
        refine wpAnyH_take (i := 2) (oi := _) (v := ?_) rfl (by kernel_rfl) (by kernel_rfl) (by kernel_rfl) (fun _ _ _ h => h) (Or.inl ⟨by rfl, ?_⟩) (by assumption) ?_
        case refine_2 => (intro w hSw; go_simp <;> with_reducible rfl)
        try simp only [List.getElem_toArray, List.getElem_cons_zero, List.getElem_cons_succ, Act.put, List.setIfInBounds_toArray, List.set_cons_zero, List.set_cons_succ]
        refine wpAnyH_take (i := 3) (oi := _) (v := .agg F1.toList.toArray) rfl (by kernel_rfl) (by kernel_rfl) (by kernel_rfl) (fun _ _ _ h => h) (yieldsIf_load_rngF 30 (.tmp 18) g (k * 36) F1.toList _ (fun w h => h.1) (by rfl) (by rfl) Tryz.underlying30 rfl HI1.out (by rfl)) (by assumption) ?_
        try simp only [List.getElem_toArray, List.getElem_cons_zero, List.getElem_cons_succ, Act.put, List.setIfInBounds_toArray, List.set_cons_zero, List.set_cons_succ]
        refine wpAnyH_take (i := 4) (oi := _) (v := ?_) rfl (by kernel_rfl) (by kernel_rfl) (by kernel_rfl) (fun _ _ _ h => h) (Or.inl ⟨by rfl, ?_⟩) (by assumption) ?_
        case refine_2 => (intro w hSw; go_simp <;> with_reducible rfl)
        try simp only [List.getElem_toArray, List.getElem_cons_zero, List.getElem_cons_succ, Act.put, List.setIfInBounds_toArray, List.set_cons_zero, List.set_cons_succ]
        refine wpAnyH_take (i := 5) (oi := _) (v := ?_) rfl (by kernel_rfl) (by kernel_rfl) (by kernel_rfl) (fun _ _ _ h => h) (Or.inl ⟨by rfl, ?_⟩) (by assumption) ?_
        case refine_2 => (intro w hSw; go_simp <;> with_reducible rfl)
        try simp only [List.getElem_toArray, List.getElem_cons_zero, List.getElem_cons_succ, Act.put, List.setIfInBounds_toArray, List.set_cons_zero, List.set_cons_succ]
        refine wpAnyH_take (i := 6) (oi := _) (v := ?_) rfl (by kernel_rfl) (by kernel_rfl) (by kernel_rfl) (fun _ _ _ h => h) (Or.inl ⟨by rfl, ?_⟩) (by assumption) ?_
        case refine_2 => (intro w hSw; go_simp <;> with_reducible rfl)
        try simp only [List.getElem_toArray, List.getElem_cons_zero, List.getElem_cons_succ, Act.put, List.setIfInBounds_toArray, List.set_cons_zero, List.set_cons_succ]
        refine wpAnyH_take (i := 7) (oi := _) (v := ?_) rfl (by kernel_rfl) (by kernel_rfl) (by kernel_rfl) (fun _ _ _ h => h) (Or.inl ⟨by rfl, ?_⟩) (by assumption) ?_
        case refine_2 => (intro w hSw; go_simp <;> with_reducible rfl)
        try simp only [List.getElem_toArray, List.getElem_cons_zero, List.getElem_cons_succ, Act.put, List.setIfInBounds_toArray, List.set_cons_zero, List.set_cons_succ]
        refine wpAnyH_take (i := 8) (oi := _) (v := .agg F2.toList.toArray) rfl (by kernel_rfl) (by kernel_rfl) (by kernel_rfl) (fun _ _ _ h => h) (yieldsIf_load_rngF 30 (.tmp 23) g (q * 36) F2.toList _ (fun w h => h.2) (by rfl) (by rfl) Tryz.underlying30 rfl HI2.out (by rfl)) (by assumption) ?_
        try simp only [List.getElem_toArray, List.getElem_cons_zero, List.getElem_cons_succ, Act.put, List.setIfInBounds_toArray, List.set_cons_zero, List.set_cons_succ]
        refine wpAnyH_take (i := 9) (oi := _) (v := ?_) rfl (by kernel_rfl) (by kernel_rfl) (by kernel_rfl) (fun _ _ _ h => h) (Or.inl ⟨by rfl, ?_⟩) (by assumption) ?_
        case refine_2 => (intro w hSw; go_simp <;> with_reducible rfl)
        try simp only [List.getElem_toArray, List.getElem_cons_zero, List.getElem_cons_succ, Act.put, List.setIfInBounds_toArray, List.set_cons_zero, List.set_cons_succ]
        refine wpAnyH_done (by kernel_rfl) ?_ _
        clear hHeld
        clear HRG HI1 HI2 hw0
        by_cases e : y = x
        · have HC2 := Lib.hid (show compL (fs.take (q + 2)) = fs.take (q + 1) by rw [HCS.out, if_pos e.symm, HT.out])
          rw [decide_eq_true e]
          clear hq e HCS HTS
          have HTL := Lib.hid (show (fs.take (q + 1)).length = k by rw [List.length_take, HKQ.out]; have := HL.out; omega)
          have HI0 := Lib.hid (show ∃ kk : Nat, kk = k ∧ (kk = (compL (fs.take (k + 1))).length ∧ kk < k + 1) ∧ RowF wr.drew base g cap (compL (fs.take (k + 1)) ++ fs.drop kk) ∧ Below base w wr.drew from
            ⟨k, rfl, ⟨by rw [show k + 1 = q + 2 by have := HKQ.out; omega, HC2.out, HTL.out], by omega⟩, by rw [show k + 1 = q + 2 by have := HKQ.out; omega, HC2.out, ← HKQ.out, List.take_append_drop]; exact I.out.1.same rfl, below_drew I.out.2⟩)
          clear I HC2 HT HTL
          go_wp2_with fail
          obtain ⟨kk0, hkk0, J0⟩ := HI0.out
          have HJ0 := Lib.hid J0
          clear J0 HI0
          go_loopg [3, 5] (n - k - 1) (fun gg v v2 wr => ∃ p r kk : Nat, p + gg + 1 = n - k ∧ r = p + 1 ∧ v2 = .int .i64 (r : Int) ∧ v = .int .i64 (kk : Int) ∧ Hid (kk = (compL (fs.take (k + r))).length ∧ kk < k + r) ∧ Hid (RowF wr base g cap (compL (fs.take (k + r)) ++ fs.drop kk) ∧ Below base w wr))
          case atStart => exact ⟨0, 1, kk0, by omega, rfl, rfl, by rw [hkk0], Lib.hid HJ0.out.1, Lib.hid HJ0.out.2⟩
          case round =>
            clear HJ0 hkk0
            obtain ⟨p, r, kk, hpg, hrp, rfl, rfl, HP, I⟩ := hrel
            cases gk with
            | zero =>
              obtain ⟨hkl, hkm⟩ := HP.out
              have hrn : k + r = n := by omega
              have hcc : compL (fs.take (k + r)) = compL fs := by rw [List.take_of_length_le (by rw [← HL.out]; omega)]
              rw [hcc] at hkl I
              have HCL := Lib.hid hkl
              have hkn2 : kk < n := by omega
              obtain rfl : r = n - k := by omega
              have HR := Lib.hid (show RowF wr base g cap (compL fs) by
                have h := I.out.1.sub kk (gs := compL fs) (by rw [hkl, List.take_left'] ; rfl)
                exact h)
              have HB := Lib.hid I.out.2
              have HTH := Lib.hid (I.out.1.room (kk * 36) ((n - kk) * 36) (by omega))
              have HWP := Lib.hid (fun vs => HR.out.wiped (kk * 36) vs (by rw [hkl]; exact Nat.le_refl _))
              have hlo := I.out.1.lo
              have HBW := Lib.hid (fun vs => below_setCells HB.out hlo (kk * 36) vs HB.out.size)
              have HZO := Lib.hid (flC_one zE zE)
              clear I HP hcc hrn hkl hkm hpg hrp hlo
              go_wp2_with ((with_reducible refine at_clear #[.tmp 56] #[50] ?_); refine wpList_clear_cells wr rfl _ 50 rfl 30 (.agg (flC zE zE)) 36 Tryz.underlying50 zero_flow rfl (by omega) HZO.out g (kk * 36) (n - kk) (cap - kk) rfl (by omega) HTH.out ?_)
              go_ret
              exact ⟨by rw [← HCL.out]; rfl, HWP.out _, HBW.out _⟩
            | succ g3 =>
              obtain ⟨hkl, hkm⟩ := HP.out
              have hrn : k + r < n := by omega
              have hrk : r < n - k := by omega
              have hri : (r : Int) < ((n - k : Nat) : Int) := by omega
              have hr1 : (r : Int) - 1 = (p : Int) := by omega
              have hpk : p < n - k := by omega
              have hw0 : IntKind.i64.wrap (p : Int) = (p : Int) := by simp [IntKind.wrap, IntKind.bits, IntKind.signed]; omega
              have HRP := Lib.hid (And.intro hrp hpg)
              obtain ⟨y, hy⟩ : ∃ y, fs[k + r]? = some y := ⟨fs[k + r]'(by rw [← HL.out]; omega), List.getElem?_eq_getElem _⟩
              obtain ⟨x, hx⟩ : ∃ x, fs[k + p]? = some x := ⟨fs[k + p]'(by rw [← HL.out]; omega), List.getElem?_eq_getElem _⟩
              have hyo := HOK.out y (List.mem_of_getElem? hy)
              have hxo := HOK.out x (List.mem_of_getElem? hx)
              obtain ⟨F1, hF1⟩ : ∃ F1, F1 = flC y.1 y.2 := ⟨_, rfl⟩
              obtain ⟨F2, hF2⟩ : ∃ F2, F2 = flC x.1 x.2 := ⟨_, rfl⟩
              have HI1 := Lib.hid (show (Tryz.prog.info? 30).map (·.size) = some F1.toList.length by rw [hF1, Array.length_toList, flC_size _ _ hyo.la hyo.lb]; exact flSize)
              have HI2 := Lib.hid (show (Tryz.prog.info? 30).map (·.size) = some F2.toList.length by rw [hF2, Array.length_toList, flC_size _ _ hxo.la hxo.lb]; exact flSize)
              have hq : ∀ W, (Op.equalIn 10000 30 (.agg F1) (.agg F2)).run Tryz.prog W = .ok (decide (y = x)) W := fun W => by rw [hF1, hF2]; exact eq_flow y x hyo.la hyo.lb hxo.la hxo.lb W
              have hLy : (compL (fs.take (k + r)) ++ fs.drop kk)[k + r]? = some y := by rw [hkl]; exact get_drop (by omega) hy
              have hLx : (compL (fs.take (k + r)) ++ fs.drop kk)[k + p]? = some x := by rw [hkl]; exact get_drop (by omega) hx
              have hra := I.out.1.at_ _ _ hLy
              have hrb := I.out.1.at_ _ _ hLx
              rw [Nat.add_mul] at hra hrb
              have HRG := Lib.hid (show wr.rangeAt g (k * 36 + r * 36) F1.toList ∧ wr.rangeAt g (k * 36 + p * 36) F2.toList from ⟨by rw [hF1]; exact hra, by rw [hF2]; exact hrb⟩)
              have HRA := Lib.hid (show wr.drew.rangeAt g (k * 36 + r * 36) F1.toList from HRG.out.1)
              have HCS := Lib.hid (show compL (fs.take (k + r + 1)) = if x = y then compL (fs.take (k + r)) else compL (fs.take (k + r)) ++ [y] by
                have h := comp_step hx (by rw [show k + p + 1 = k + r by omega]; exact hy)
                rw [show k + p + 2 = k + r + 1 by omega, show k + p + 1 = k + r by omega] at h
                exact h)
              have HF1 := Lib.hid (And.intro hF1 hyo)
              clear hF1 hF2 hx hy hxo hyo hLy hLx hra hrb hrp hpg
              go_upto_region 11 with fail
              refine wp_region_held_drew (S := fun W => W.rangeAt g (k * 36 + r * 36) F1.toList ∧ W.rangeAt g (k * 36 + p * 36) F2.toList) (by kernel_rfl) (HRG.out) (fun hHeld => ?_)
              refine wpAnyH_take (i := 0) (oi := _) (v := ?_) rfl (by kernel_rfl) (by kernel_rfl) (by kernel_rfl) (fun _ _ _ h => h) (Or.inl ⟨by rfl, ?_⟩) (by assumption) ?_
              case refine_2 => (intro w hSw; go_simp <;> with_reducible rfl)
              try simp only [List.getElem_toArray, List.getElem_cons_zero, Act.put, List.setIfInBounds_toArray, List.set_cons_zero, List.set_cons_succ]
              refine wpAnyH_take (i := 1) (oi := _) (v := ?_) rfl (by kernel_rfl) (by kernel_rfl) (by kernel_rfl) (fun _ _ _ h => h) (Or.inl ⟨by rfl, ?_⟩) (by assumption) ?_
              case refine_2 => (intro w hSw; go_simp <;> with_reducible rfl)
              try simp only [List.getElem_toArray, List.getElem_cons_zero, List.getElem_cons_succ, Act.put, List.setIfInBounds_toArray, List.set_cons_zero, List.set_cons_succ]
              refine wpAnyH_take (i := 2) (oi := _) (v := ?_) rfl (by kernel_rfl) (by kernel_rfl) (by kernel_rfl) (fun _ _ _ h => h) (Or.inl ⟨by rfl, ?_⟩) (by assumption) ?_
              case refine_2 => (intro w hSw; go_simp <;> with_reducible rfl)
              try simp only [List.getElem_toArray, List.getElem_cons_zero, List.getElem_cons_succ, Act.put, List.setIfInBounds_toArray, List.set_cons_zero, List.set_cons_succ]
              refine wpAnyH_take (i := 3) (oi := _) (v := .agg F1.toList.toArray) rfl (by kernel_rfl) (by kernel_rfl) (by kernel_rfl) (fun _ _ _ h => h) (yieldsIf_load_rngF 30 (.tmp 37) g (k * 36 + r * 36) F1.toList _ (fun w h => h.1) (by rfl) (by rfl) Tryz.underlying30 rfl HI1.out (by rfl)) (by assumption) ?_
              try simp only [List.getElem_toArray, List.getElem_cons_zero, List.getElem_cons_succ, Act.put, List.setIfInBounds_toArray, List.set_cons_zero, List.set_cons_succ]
              refine wpAnyH_take (i := 4) (oi := _) (v := ?_) rfl (by kernel_rfl) (by kernel_rfl) (by kernel_rfl) (fun _ _ _ h => h) (Or.inl ⟨by rfl, ?_⟩) (by assumption) ?_
              case refine_2 => (intro w hSw; go_simp <;> with_reducible rfl)
              try simp only [List.getElem_toArray, List.getElem_cons_zero, List.getElem_cons_succ, Act.put, List.setIfInBounds_toArray, List.set_cons_zero, List.set_cons_succ]
              refine wpAnyH_take (i := 5) (oi := _) (v := ?_) rfl (by kernel_rfl) (by kernel_rfl) (by kernel_rfl) (fun _ _ _ h => h) (Or.inl ⟨by rfl, ?_⟩) (by assumption) ?_
              case refine_2 => (intro w hSw; go_simp <;> with_reducible rfl)
              try simp only [List.getElem_toArray, List.getElem_cons_zero, List.getElem_cons_succ, Act.put, List.setIfInBounds_toArray, List.set_cons_zero, List.set_cons_succ]
              refine wpAnyH_take (i := 6) (oi := _) (v := ?_) rfl (by kernel_rfl) (by kernel_rfl) (by kernel_rfl) (fun _ _ _ h => h) (Or.inl ⟨by rfl, ?_⟩) (by assumption) ?_
              case refine_2 => (intro w hSw; go_simp <;> with_reducible rfl)
              try simp only [List.getElem_toArray, List.getElem_cons_zero, List.getElem_cons_succ, Act.put, List.setIfInBounds_toArray, List.set_cons_zero, List.set_cons_succ]
              refine wpAnyH_take (i := 7) (oi := _) (v := ?_) rfl (by kernel_rfl) (by kernel_rfl) (by kernel_rfl) (fun _ _ _ h => h) (Or.inl ⟨by rfl, ?_⟩) (by assumption) ?_
              case refine_2 => (intro w hSw; go_simp <;> with_reducible rfl)
              try simp only [List.getElem_toArray, List.getElem_cons_zero, List.getElem_cons_succ, Act.put, List.setIfInBounds_toArray, List.set_cons_zero, List.set_cons_succ]
              refine wpAnyH_take (i := 8) (oi := _) (v := .agg F2.toList.toArray) rfl (by kernel_rfl) (by kernel_rfl) (by kernel_rfl) (fun _ _ _ h => h) (yieldsIf_load_rngF 30 (.tmp 42) g (k * 36 + p * 36) F2.toList _ (fun w h => h.2) (by rfl) (by rfl) Tryz.underlying30 rfl HI2.out (by rfl)) (by assumption) ?_
              try simp only [List.getElem_toArray, List.getElem_cons_zero, List.getElem_cons_succ, Act.put, List.setIfInBounds_toArray, List.set_cons_zero, List.set_cons_succ]
              refine wpAnyH_take (i := 9) (oi := _) (v := ?_) rfl (by kernel_rfl) (by kernel_rfl) (by kernel_rfl) (fun _ _ _ h => h) (Or.inl ⟨by rfl, ?_⟩) (by assumption) ?_
              case refine_2 => (intro w hSw; go_simp <;> with_reducible rfl)
              try simp only [List.getElem_toArray, List.getElem_cons_zero, List.getElem_cons_succ, Act.put, List.setIfInBounds_toArray, List.set_cons_zero, List.set_cons_succ]
              refine wpAnyH_done (by kernel_rfl) ?_ _
              clear hHeld
              clear HRG HI2 hw0
              by_cases e : y = x
              · have HC2 := Lib.hid (show compL (fs.take (k + (r + 1))) = compL (fs.take (k + r)) by rw [← Nat.add_assoc, HCS.out, if_pos e.symm])
                rw [decide_eq_true e]
                clear hq e HCS
                go_wp2_with fail
                go_roundg g3
                case measure => omega
                case rel => exact ⟨p + 1, r + 1, kk, by have := HRP.out; omega, by have := HRP.out; omega, by go_num, rfl, Lib.hid ⟨by rw [HC2.out]; exact hkl, by omega⟩, Lib.hid ⟨by rw [HC2.out]; exact I.out.1.same rfl, below_drew I.out.2⟩⟩
              · have HC2 := Lib.hid (show compL (fs.take (k + (r + 1))) = compL (fs.take (k + r)) ++ [y] by rw [← Nat.add_assoc, HCS.out, if_neg (fun h => e h.symm)])
                have hkn2 : kk < n := by omega
                have HROW := Lib.hid (show RowF wr.drew base g cap (compL (fs.take (k + r)) ++ fs.drop kk) from I.out.1.same rfl)
                have HTH := Lib.hid (HROW.out.room (kk * 36) F1.size (by rw [HF1.out.1, flC_size _ _ HF1.out.2.la HF1.out.2.lb]; omega))
                have HNEW := Lib.hid (show RowF (wr.drew.setCells g (kk * 36) F1.toList) base g cap ((compL (fs.take (k + r)) ++ [y]) ++ fs.drop (kk + 1)) by
                  have h := HROW.out.setAt kk y (by rw [List.length_append, List.length_drop]; have := HL.out; omega) HF1.out.2
                  rw [← HF1.out.1] at h
                  have h2 := set_drop (fs := fs) (P := compL (fs.take (k + r))) (y := y) (by have := HL.out; omega)
                  rw [← hkl] at h2
                  rw [h2, List.length_append, ← hkl] at h
                  exact h)
                have HBN := Lib.hid (below_setCells (below_drew I.out.2) I.out.1.lo (kk * 36) F1.toList (by have := I.out.2.size; exact this))
                have HF1S := Lib.hid (show (Tryz.prog.info? 30).map (·.size) = some F1.size by rw [HF1.out.1, flC_size _ _ HF1.out.2.la HF1.out.2.lb]; exact flSize)
                have HF1O := Lib.hid (show F1.toList.all (·.oneCell') = true by rw [HF1.out.1]; exact flC_one _ _)
                rw [decide_eq_false e]
                have HKL := Lib.hid (And.intro hkl hkm)
                clear hq e HCS I hkl hkm HP
                generalize wr.drew = wd at *
                go_wp2_with (first | ((with_reducible refine at_loadP 30 (.tmp 49) ?_); refine wpList_load_rngP 30 (.tmp 49) g (k * 36 + r * 36) F1.toList _ HRA.out (by rfl) (by rfl) Tryz.underlying30 rfl HI1.out (by rfl) ?_) | ((with_reducible refine at_store 30 (.tmp 51) (.tmp 50) ?_); refine wpList_store_rngP 30 (.tmp 51) (.tmp 50) g (kk * 36) F1 (by rfl) (by rfl) (by rfl) (by rfl) HTH.out HF1S.out HF1O.out (by rfl) ?_))
                go_roundg g3
                case measure => omega
                case rel => exact ⟨p + 1, r + 1, kk + 1, by have := HRP.out; omega, by have := HRP.out; omega, by go_num, by go_num, Lib.hid ⟨by rw [HC2.out, List.length_append, ← HKL.out.1]; rfl, by have := HKL.out.2; omega⟩, Lib.hid ⟨by rw [HC2.out]; exact HNEW.out, HBN.out⟩⟩
        · have HC2 := Lib.hid (show compL (fs.take (q + 2)) = fs.take (q + 2) by rw [HCS.out, if_neg (fun h => e h.symm), HT.out, HTS.out])
          rw [decide_eq_false e]
          clear hq e HCS HTS
          go_wp2_with fail
          go_roundg g2
          case measure => omega
          case rel => exact ⟨q + 1, k + 1, by omega, by go_num, by rw [HKQ.out], HC2, Lib.hid ⟨I.out.1.same rfl, below_drew I.out.2⟩⟩
end Go.Proofs.YtonafonhadocgaaGreatDoor
