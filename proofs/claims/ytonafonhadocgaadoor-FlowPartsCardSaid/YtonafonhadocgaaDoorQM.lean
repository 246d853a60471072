/- Laws and walks that the claim's last text leans on, joined: each part says above itself what it proves. -/
import Derived.Test.YtonafonhadocgaaDoorQL
import Derived.Great.Walk
import Derived.Test.YtonafonhadocgaaDoorQJ
import Derived.Test.YtonafonhadocgaaDoorQI
import Derived.Deep.RegionHeld3

/- horologelaw28.works: the chapter's rows hold. -/
namespace Go.Proofs.YtonafonhadocgaaDoor
open Go.RowKit Go.Shelf

theorem kw_text : flowV oneA oneB = .tuple #[.string ⟨#[49, 48, 46, 48, 46, 48, 46, 50, 58, 49, 48, 50, 52, 32, 62, 32, 49, 48, 46, 48, 46, 48, 46, 49, 58, 49, 50, 51]⟩, .int .i64 0] := by
  have h : flowT oneA oneB = [49, 48, 46, 48, 46, 48, 46, 50, 58, 49, 48, 50, 52, 32, 62, 32, 49, 48, 46, 48, 46, 48, 46, 49, 58, 49, 50, 51] := by decide +kernel
  rw [flowV, h]
  rfl
theorem kw_key : keyV oneA oneB 255 = .tuple #[.string ⟨#[49, 48, 46, 48, 46, 48, 46, 50, 58, 49, 48, 50, 52, 32, 62, 32, 49, 48, 46, 48, 46, 48, 46, 49, 58, 49, 50, 51, 32, 48, 48, 48, 48, 48, 48, 48, 48, 48, 48, 48, 48, 48, 48, 102, 102]⟩, .int .i64 0] := by
  have h : keyT oneA oneB 255 = [49, 48, 46, 48, 46, 48, 46, 50, 58, 49, 48, 50, 52, 32, 62, 32, 49, 48, 46, 48, 46, 48, 46, 49, 58, 49, 50, 51, 32, 48, 48, 48, 48, 48, 48, 48, 48, 48, 48, 48, 48, 48, 48, 102, 102] := by decide +kernel
  rw [keyV, h]
  rfl
theorem kw_bad : flowPV [49, 48, 46, 48, 46, 48, 46, 50, 58, 49, 48, 50, 52, 32, 62, 49, 48, 46, 48, 46, 48, 46, 49, 58, 49, 50, 51] = .tuple #[.agg (flC zE zE), .int .i64 9] := by
  have h : flowP [49, 48, 46, 48, 46, 48, 46, 50, 58, 49, 48, 50, 52, 32, 62, 49, 48, 46, 48, 46, 48, 46, 49, 58, 49, 50, 51] = none := by decide +kernel
  rw [flowPV, h]
def kws : Array Value := ((keC oneA oneB 0).toList ++ (keC zE zE 0).toList ++ (keC oneA oneB 1).toList).toArray
abbrev kwk : List Ky := [((oneA, oneB), 0), zK, ((oneA, oneB), 1)]
theorem kw_ok : ∀ k ∈ kwk, KyOk k := by
  intro k hk
  simp only [List.mem_cons, List.not_mem_nil, or_false] at hk
  rcases hk with rfl | rfl | rfl <;> exact ⟨rfl, rfl, by decide, by decide, by decide⟩
theorem kw_rd {W : World} {g : Nat} (h : Blk W g 32 kws) : RdK W (some ⟨g, 0, none⟩) 3 3 kwk := by
  refine ⟨rfl, Nat.le_refl _, fun _ => ⟨g, 0, rfl, h.lt, fun j k hj => ?_⟩⟩
  match j, hj with
  | 0, hj => injection hj with hj; subst hj; exact h.range _ _ (by kernel_rfl)
  | 1, hj => injection hj with hj; subst hj; exact h.range _ _ (by kernel_rfl)
  | 2, hj => injection hj with hj; subst hj; exact h.range _ _ (by kernel_rfl)
  | j + 3, hj => cases hj
theorem kw_groups : grpL (kwk.map (·.1)) = [[0, 2], [1]] := by decide +kernel
theorem GRes.two {base : Nat} {v : Value} {W : World} (h : GRes base v [[0, 2], [1]] W) :
    ∃ b c b0 c0 b1 c1, v = .slice (some ⟨b, 0, none⟩) 2 c ∧ W.cell? ⟨b, 0, none⟩ = some (.slice (some ⟨b0, 0, none⟩) 2 c0) ∧ W.cell? ⟨b, 1, none⟩ = some (.slice (some ⟨b1, 0, none⟩) 1 c1) ∧
      W.cell? ⟨b0, 0, none⟩ = some (.int .i64 0) ∧ W.cell? ⟨b0, 1, none⟩ = some (.int .i64 2) ∧ W.cell? ⟨b1, 0, none⟩ = some (.int .i64 1) := by
  obtain ⟨vs, ho, hl, hr⟩ := h
  obtain ⟨u0, h0, o0⟩ := hr 0 [0, 2] rfl
  obtain ⟨u1, h1, o1⟩ := hr 1 [1] rfl
  have slc : ∀ {T : TypeId} {x : Value} {xs : List Value}, OwnV T W base x xs → 0 < xs.length → ∃ b c, x = .slice (some ⟨b, 0, none⟩) xs.length c := fun {T x xs} ho hn => by
    obtain ⟨A, c, rfl, hrd, hA⟩ := ho.form
    rcases hA with rfl | ⟨g, rfl, _⟩
    · obtain ⟨b, o, e, _⟩ := hrd.2.2.2 hn
      cases e
    · exact ⟨g, c, rfl⟩
  have hl2 : vs.length = 2 := hl
  obtain ⟨b, c, rfl⟩ := slc ho (by omega)
  obtain ⟨b0, c0, rfl⟩ := slc o0 (by decide)
  obtain ⟨b1, c1, rfl⟩ := slc o1 (by decide)
  exact ⟨b, c, b0, c0, b1, c1, by rw [hl2], (ho.cellAt 0 (by omega)).trans h0, (ho.cellAt 1 (by omega)).trans h1, o0.cellAt 0 (by decide), o0.cellAt 1 (by decide), o1.cellAt 0 (by decide)⟩
theorem at_bslice {P : Program} {ops : Array Oper} {rest : List Oper} {a : Act} {w : World} {Q : Exit → Act → World → Prop} {dst : Option Tmp} {t : TypeId} {ps : String} {af : Array Edge} {gd : Option (Nat × Bool)} (ty : TypeId) (n : Nat) (parts : Array (Nat × Operand)) (h : wpList P ops Q ({ dst := dst, op := .buildSlice ty n parts, type := t, pos := ps, after := af, guard := gd } :: rest) a w) :
    wpList P ops Q ({ dst := dst, op := .buildSlice ty n parts, type := t, pos := ps, after := af, guard := gd } :: rest) a w := h
theorem wpList_bslice {P : Program} {ops : Array Oper} {rest : List Oper} {o : Oper} {a : Act} {w : World} {Q : Exit → Act → World → Prop} (hg : o.guard = none) (t e : TypeId) (len : Nat) (parts : Array (Nat × Operand)) (ho : o.op = .buildSlice t len parts)
    (N : Nat) (hN : w.heap.size = N) (dst : Option Tmp) (hdst : o.dst = dst) (hu : P.underlying t = some (.slice e)) (cells : Array Value)
    (hf : P.builtSlice e len (parts.toList.map fun p => (p.1, a.eval p.2)) = some cells)
    (h : wpList P ops Q rest (a.put dst (.slice (some ⟨N, 0, none⟩) len len)) (w.alloc (.cells cells e))) : wpList P ops Q (o :: rest) a w :=
  Great.wpList_buildSliceTo hg t e len parts ho N hN dst hdst hu cells (by rw [Array.toList_map]; exact hf) h

theorem wpList_yields {P : Program} {ops : Array Oper} {Q : Exit → Act → World → Prop} {a : Act} {w : World} {rest : List Oper} {o : Oper} {v : Value}
    (hw : Region.wanted o (yielded ops a.tmps) = true) (hv : (execOp a.eval o).run P w = .ok (.value v) w) (h : wpList P ops Q rest (a.put o.dst v) w) : wpList P ops Q (o :: rest) a w :=
  BigFrame.wpList_want hw fun _ hK => by
    unfold Oper.wp
    simp only [hv, Oper.upon]
    exact hK _ _ h
theorem wpList_build_none {P : Program} {ops : Array Oper} {rest : List Oper} {o : Oper} {a : Act} {w : World} {Q : Exit → Act → World → Prop} (t : TypeId) (cells : Array Value) (ho : o.op = .build t #[])
    (hc : P.built t [] = some cells) (hw : Region.wanted o (yielded ops a.tmps) = true) (h : wpList P ops Q rest (a.put o.dst (.agg cells)) w) : wpList P ops Q (o :: rest) a w :=
  wpList_build_eq t #[] cells ho hc hw h

set_option maxRecDepth 100000 in
set_option maxHeartbeats 8000000 in
theorem works_any (w : World) (env : Env w) : Calls Tryd.prog 10 #[] w fun e w' => e = .returned (.bool true) ∧ Below w.heap.size w w' := by
  have E := Lib.hid env
  clear env
  have B0 := Lib.hid (Below.refl w.heap.size w)
  have HFS := Lib.hid (show (Tryd.prog.info? 29).map (·.size) = some (flC zE zE).size from flSize)
  have HK255 := Lib.hid (show Tryd.prog.built 32 [(0, .agg (flC oneA oneB)), (1, .int .u64 255)] = some (keC oneA oneB 255) by kernel_rfl)
  have HK0 := Lib.hid (show Tryd.prog.built 32 [(0, .agg (flC oneA oneB))] = some (keC oneA oneB 0) by kernel_rfl)
  have HKZ := Lib.hid (show Tryd.prog.built 32 [] = some (keC zE zE 0) by kernel_rfl)
  have HK1 := Lib.hid (show Tryd.prog.built 32 [(0, .agg (flC oneA oneB)), (1, .int .u64 1)] = some (keC oneA oneB 1) by kernel_rfl)
  have HBS := Lib.hid (show Tryd.prog.builtSlice 32 3 [(0, .agg (keC oneA oneB 0)), (1, .agg (keC zE zE 0)), (2, .agg (keC oneA oneB 1))] = some kws by kernel_rfl)
  go_enter Tryd.func10, Tryd.ntmps10
  go_wp2_with fail
  refine (one_any _).mono ?_
  rintro e w1 ⟨rfl, b⟩
  have B1 := Lib.hid (B0.out.trans (b.mono B0.out.size))
  clear b B0
  go_wp2_with fail
  refine (text_any oneA oneB rfl rfl (by decide) (by decide) _ (E.out.below B1.out)).mono ?_
  rintro e w2 ⟨rfl, b⟩
  rw [kw_text]
  have B2 := Lib.hid (B1.out.trans (b.mono B1.out.size))
  clear b B1
  go_wp2_with fail
  refine (one_any _).mono ?_
  rintro e w3 ⟨rfl, b⟩
  have B3 := Lib.hid (B2.out.trans (b.mono B2.out.size))
  clear b B2
  go_wp2_with ((with_reducible refine at_build 32 #[(0, .tmp 14), (1, .const (.int .u64 255))] ?_); refine wpList_build_eq 32 #[(0, .tmp 14), (1, .const (.int .u64 255))] (keC oneA oneB 255) (by rfl) HK255.out (by rfl) ?_)
  refine (ktext_any oneA oneB 255 rfl rfl (by decide) (by decide) (by decide) _ (E.out.below B3.out)).mono ?_
  rintro e w4 ⟨rfl, b⟩
  rw [kw_key]
  have B4 := Lib.hid (B3.out.trans (b.mono B3.out.size))
  clear b B3
  go_wp2_with fail
  refine (fparse_any ⟨#[49, 48, 46, 48, 46, 48, 46, 50, 58, 49, 48, 50, 52, 32, 62, 49, 48, 46, 48, 46, 48, 46, 49, 58, 49, 50, 51]⟩ (by decide) _ (E.out.below B4.out)).mono ?_
  rintro e w5 ⟨rfl, b⟩
  rw [show (⟨#[49, 48, 46, 48, 46, 48, 46, 50, 58, 49, 48, 50, 52, 32, 62, 49, 48, 46, 48, 46, 48, 46, 49, 58, 49, 50, 51]⟩ : ByteArray).data.toList = [49, 48, 46, 48, 46, 48, 46, 50, 58, 49, 48, 50, 52, 32, 62, 49, 48, 46, 48, 46, 48, 46, 49, 58, 49, 50, 51] from rfl, kw_bad]
  have B5 := Lib.hid (B4.out.trans (b.mono B4.out.size))
  clear b B4
  go_wp2_with ((with_reducible refine at_store 29 (.tmp 5) (.tmp 21) ?_); refine wpList_store_blk 29 (.tmp 5) (.tmp 21) w5.heap.size 29 (flC zE zE) (flC zE zE) (Blk.new w5 29 (flC zE zE)) (by rfl) (by rfl) (by rfl) (by rfl) HFS.out (by rfl) (flC_one zE zE) (by rfl) ?_; intro w6 hk hg hs; have B6 := Lib.hid (print_world B5.out B5.out.size hg); clear hk hg hs B5)
  refine (one_any _).mono ?_
  rintro e w7 ⟨rfl, b⟩
  have B7 := Lib.hid (B6.out.trans (b.mono B6.out.size))
  clear b B6
  go_wp2_with (first | ((with_reducible refine at_build 32 #[(0, .tmp 23)] ?_); refine wpList_build_eq 32 #[(0, .tmp 23)] (keC oneA oneB 0) (by rfl) HK0.out (by rfl) ?_) | ((with_reducible refine at_build 32 #[] ?_); refine wpList_build_eq 32 #[] (keC zE zE 0) (by rfl) HKZ.out (by rfl) ?_))
  refine (one_any _).mono ?_
  rintro e w8 ⟨rfl, b⟩
  have B8 := Lib.hid (B7.out.trans (b.mono B7.out.size))
  clear b B7
  go_wp2_with (first | ((with_reducible refine at_build 32 #[(0, .tmp 26), (1, .const (.int .u64 1))] ?_); refine wpList_build_eq 32 #[(0, .tmp 26), (1, .const (.int .u64 1))] (keC oneA oneB 1) (by rfl) HK1.out (by rfl) ?_) | ((with_reducible refine at_bslice 42 3 #[(0, .tmp 24), (1, .tmp 25), (2, .tmp 27)] ?_); refine wpList_bslice rfl 42 32 3 #[(0, .tmp 24), (1, .tmp 25), (2, .tmp 27)] rfl w8.heap.size rfl (some 28) rfl Tryd.underlying42 kws HBS.out ?_))
  have HR := Lib.hid (kw_rd (Blk.new w8 32 kws))
  have B9 := Lib.hid (B8.out.alloc B8.out.size (.cells kws 32))
  refine (groups_any (some ⟨w8.heap.size, 0, none⟩) 3 3 kwk _ HR.out kw_ok (by decide)).mono ?_
  rintro e w10 ⟨v, rfl, hres, b⟩
  rw [kw_groups] at hres
  obtain ⟨bb, cc, b0, c0, b1, c1, rfl, q1, q2, q3, q4, q5⟩ := hres.two
  have B10 := Lib.hid (B9.out.trans (b.mono B9.out.size))
  clear b B9 HR hres B8 HBS HK0 HK1 HK255 HKZ HFS
  go_upto_region 5 with fail
  with_reducible refine wp_region_lit ?_
  with_reducible refine wpList_yields (v := ?_) (by kernel_rfl) ?_ ?_
  case refine_2 => (go_simp <;> with_reducible rfl)
  try simp only [Act.put, List.setIfInBounds_toArray, List.set_cons_zero, List.set_cons_succ]
  with_reducible refine wpList_yields (v := ?_) (by kernel_rfl) ?_ ?_
  case refine_2 => (go_simp <;> with_reducible rfl)
  try simp only [Act.put, List.setIfInBounds_toArray, List.set_cons_zero, List.set_cons_succ]
  with_reducible refine wpList_yields (v := ?_) (by kernel_rfl) ?_ ?_
  case refine_2 => (go_simp <;> with_reducible rfl)
  try simp only [Act.put, List.setIfInBounds_toArray, List.set_cons_zero, List.set_cons_succ]
  with_reducible refine wpList_yields (v := ?_) (by kernel_rfl) ?_ ?_
  case refine_2 => (go_simp <;> with_reducible rfl)
  try simp only [Act.put, List.setIfInBounds_toArray, List.set_cons_zero, List.set_cons_succ]
  with_reducible refine wpList_yields (v := ?_) (by kernel_rfl) ?_ ?_
  case refine_2 => (go_simp <;> with_reducible rfl)
  try simp only [Act.put, List.setIfInBounds_toArray, List.set_cons_zero, List.set_cons_succ]
  with_reducible refine wpList_yields (v := ?_) (by kernel_rfl) ?_ ?_
  case refine_2 => (go_simp <;> with_reducible rfl)
  try simp only [Act.put, List.setIfInBounds_toArray, List.set_cons_zero, List.set_cons_succ]
  with_reducible refine wpList_yields (v := ?_) (by kernel_rfl) ?_ ?_
  case refine_2 => (go_simp <;> with_reducible rfl)
  try simp only [Act.put, List.setIfInBounds_toArray, List.set_cons_zero, List.set_cons_succ]
  with_reducible refine wpList_yields (v := ?_) (by kernel_rfl) ?_ ?_
  case refine_2 => (go_simp <;> with_reducible rfl)
  try simp only [Act.put, List.setIfInBounds_toArray, List.set_cons_zero, List.set_cons_succ]
  with_reducible refine wpList_yields (v := ?_) (by kernel_rfl) ?_ ?_
  case refine_2 => (go_simp <;> with_reducible rfl)
  try simp only [Act.put, List.setIfInBounds_toArray, List.set_cons_zero, List.set_cons_succ]
  with_reducible refine wpList_yields (v := ?_) (by kernel_rfl) ?_ ?_
  case refine_2 => (go_simp <;> with_reducible rfl)
  try simp only [Act.put, List.setIfInBounds_toArray, List.set_cons_zero, List.set_cons_succ]
  with_reducible refine wpList_yields (v := ?_) (by kernel_rfl) ?_ ?_
  case refine_2 => (go_simp <;> with_reducible rfl)
  try simp only [Act.put, List.setIfInBounds_toArray, List.set_cons_zero, List.set_cons_succ]
  with_reducible refine wpList_yields (v := ?_) (by kernel_rfl) ?_ ?_
  case refine_2 => (go_simp <;> with_reducible rfl)
  try simp only [Act.put, List.setIfInBounds_toArray, List.set_cons_zero, List.set_cons_succ]
  with_reducible refine wpList_yields (v := ?_) (by kernel_rfl) ?_ ?_
  case refine_2 => (go_simp <;> with_reducible rfl)
  try simp only [Act.put, List.setIfInBounds_toArray, List.set_cons_zero, List.set_cons_succ]
  with_reducible refine wpList_yields (v := ?_) (by kernel_rfl) ?_ ?_
  case refine_2 => (go_simp <;> with_reducible rfl)
  try simp only [Act.put, List.setIfInBounds_toArray, List.set_cons_zero, List.set_cons_succ]
  with_reducible refine wpList_yields (v := ?_) (by kernel_rfl) ?_ ?_
  case refine_2 => (go_simp <;> with_reducible rfl)
  try simp only [Act.put, List.setIfInBounds_toArray, List.set_cons_zero, List.set_cons_succ]
  with_reducible refine wpList_yields (v := ?_) (by kernel_rfl) ?_ ?_
  case refine_2 => (go_simp <;> with_reducible rfl)
  try simp only [Act.put, List.setIfInBounds_toArray, List.set_cons_zero, List.set_cons_succ]
  with_reducible refine wpList_yields (v := ?_) (by kernel_rfl) ?_ ?_
  case refine_2 => (go_simp <;> with_reducible rfl)
  try simp only [Act.put, List.setIfInBounds_toArray, List.set_cons_zero, List.set_cons_succ]
  with_reducible refine wpList_yields (v := ?_) (by kernel_rfl) ?_ ?_
  case refine_2 => (go_simp <;> with_reducible rfl)
  try simp only [Act.put, List.setIfInBounds_toArray, List.set_cons_zero, List.set_cons_succ]
  with_reducible refine wpList_yields (v := ?_) (by kernel_rfl) ?_ ?_
  case refine_2 => (go_simp <;> with_reducible rfl)
  try simp only [Act.put, List.setIfInBounds_toArray, List.set_cons_zero, List.set_cons_succ]
  with_reducible refine wpList_yields (v := ?_) (by kernel_rfl) ?_ ?_
  case refine_2 => (go_simp <;> with_reducible rfl)
  try simp only [Act.put, List.setIfInBounds_toArray, List.set_cons_zero, List.set_cons_succ]
  with_reducible refine wpList_yields (v := ?_) (by kernel_rfl) ?_ ?_
  case refine_2 => (go_simp <;> with_reducible rfl)
  try simp only [Act.put, List.setIfInBounds_toArray, List.set_cons_zero, List.set_cons_succ]
  with_reducible refine wpList_yields (v := ?_) (by kernel_rfl) ?_ ?_
  case refine_2 => (go_simp <;> with_reducible rfl)
  try simp only [Act.put, List.setIfInBounds_toArray, List.set_cons_zero, List.set_cons_succ]
  with_reducible refine wpList_yields (v := ?_) (by kernel_rfl) ?_ ?_
  case refine_2 => (go_simp <;> with_reducible rfl)
  try simp only [Act.put, List.setIfInBounds_toArray, List.set_cons_zero, List.set_cons_succ]
  with_reducible refine wpList_yields (v := ?_) (by kernel_rfl) ?_ ?_
  case refine_2 => (go_simp <;> with_reducible rfl)
  try simp only [Act.put, List.setIfInBounds_toArray, List.set_cons_zero, List.set_cons_succ]
  with_reducible refine wpList_yields (v := ?_) (by kernel_rfl) ?_ ?_
  case refine_2 => (go_simp <;> with_reducible rfl)
  try simp only [Act.put, List.setIfInBounds_toArray, List.set_cons_zero, List.set_cons_succ]
  with_reducible refine wpList_yields (v := ?_) (by kernel_rfl) ?_ ?_
  case refine_2 => (go_simp <;> with_reducible rfl)
  try simp only [Act.put, List.setIfInBounds_toArray, List.set_cons_zero, List.set_cons_succ]
  with_reducible refine wpList_yields (v := ?_) (by kernel_rfl) ?_ ?_
  case refine_2 => (go_simp <;> with_reducible rfl)
  try simp only [Act.put, List.setIfInBounds_toArray, List.set_cons_zero, List.set_cons_succ]
  with_reducible refine wpList_yields (v := ?_) (by kernel_rfl) ?_ ?_
  case refine_2 => (go_simp <;> with_reducible rfl)
  try simp only [Act.put, List.setIfInBounds_toArray, List.set_cons_zero, List.set_cons_succ]
  with_reducible refine wpList_yields (v := ?_) (by kernel_rfl) ?_ ?_
  case refine_2 => (go_simp <;> with_reducible rfl)
  try simp only [Act.put, List.setIfInBounds_toArray, List.set_cons_zero, List.set_cons_succ]
  with_reducible refine wpList_yields (v := ?_) (by kernel_rfl) ?_ ?_
  case refine_2 => (go_simp <;> with_reducible rfl)
  try simp only [Act.put, List.setIfInBounds_toArray, List.set_cons_zero, List.set_cons_succ]
  with_reducible refine wpList_yields (v := ?_) (by kernel_rfl) ?_ ?_
  case refine_2 => (go_simp <;> with_reducible rfl)
  try simp only [Act.put, List.setIfInBounds_toArray, List.set_cons_zero, List.set_cons_succ]
  with_reducible refine wpList_yields (v := ?_) (by kernel_rfl) ?_ ?_
  case refine_2 => (go_simp <;> with_reducible rfl)
  try simp only [Act.put, List.setIfInBounds_toArray, List.set_cons_zero, List.set_cons_succ]
  with_reducible refine wpList_yields (v := ?_) (by kernel_rfl) ?_ ?_
  case refine_2 => (go_simp <;> with_reducible rfl)
  try simp only [Act.put, List.setIfInBounds_toArray, List.set_cons_zero, List.set_cons_succ]
  with_reducible refine wpList_yields (v := ?_) (by kernel_rfl) ?_ ?_
  case refine_2 => (go_simp <;> with_reducible rfl)
  try simp only [Act.put, List.setIfInBounds_toArray, List.set_cons_zero, List.set_cons_succ]
  with_reducible refine wpList_yields (v := ?_) (by kernel_rfl) ?_ ?_
  case refine_2 => (go_simp <;> with_reducible rfl)
  try simp only [Act.put, List.setIfInBounds_toArray, List.set_cons_zero, List.set_cons_succ]
  with_reducible refine wpList_yields (v := ?_) (by kernel_rfl) ?_ ?_
  case refine_2 => (go_simp <;> with_reducible rfl)
  try simp only [Act.put, List.setIfInBounds_toArray, List.set_cons_zero, List.set_cons_succ]
  with_reducible refine wpList_yields (v := ?_) (by kernel_rfl) ?_ ?_
  case refine_2 => (go_simp <;> with_reducible rfl)
  try simp only [Act.put, List.setIfInBounds_toArray, List.set_cons_zero, List.set_cons_succ]
  with_reducible refine wpList_yields (v := ?_) (by kernel_rfl) ?_ ?_
  case refine_2 => (go_simp <;> with_reducible rfl)
  try simp only [Act.put, List.setIfInBounds_toArray, List.set_cons_zero, List.set_cons_succ]
  with_reducible refine wpList_yields (v := ?_) (by kernel_rfl) ?_ ?_
  case refine_2 => (go_simp <;> with_reducible rfl)
  try simp only [Act.put, List.setIfInBounds_toArray, List.set_cons_zero, List.set_cons_succ]
  with_reducible refine wpList_yields (v := ?_) (by kernel_rfl) ?_ ?_
  case refine_2 => (go_simp <;> with_reducible rfl)
  try simp only [Act.put, List.setIfInBounds_toArray, List.set_cons_zero, List.set_cons_succ]
  with_reducible refine wpList_yields (v := ?_) (by kernel_rfl) ?_ ?_
  case refine_2 => (go_simp <;> with_reducible rfl)
  try simp only [Act.put, List.setIfInBounds_toArray, List.set_cons_zero, List.set_cons_succ]
  with_reducible refine wpList_yields (v := ?_) (by kernel_rfl) ?_ ?_
  case refine_2 => (go_simp <;> with_reducible rfl)
  try simp only [Act.put, List.setIfInBounds_toArray, List.set_cons_zero, List.set_cons_succ]
  with_reducible refine wpList_yields (v := ?_) (by kernel_rfl) ?_ ?_
  case refine_2 => (go_simp <;> with_reducible rfl)
  try simp only [Act.put, List.setIfInBounds_toArray, List.set_cons_zero, List.set_cons_succ]
  with_reducible refine wpList_yields (v := ?_) (by kernel_rfl) ?_ ?_
  case refine_2 => (go_simp <;> with_reducible rfl)
  try simp only [Act.put, List.setIfInBounds_toArray, List.set_cons_zero, List.set_cons_succ]
  with_reducible refine wpList_yields (v := ?_) (by kernel_rfl) ?_ ?_
  case refine_2 => (go_simp <;> with_reducible rfl)
  try simp only [Act.put, List.setIfInBounds_toArray, List.set_cons_zero, List.set_cons_succ]
  with_reducible refine wpList_yields (v := ?_) (by kernel_rfl) ?_ ?_
  case refine_2 => (go_simp <;> with_reducible rfl)
  try simp only [Act.put, List.setIfInBounds_toArray, List.set_cons_zero, List.set_cons_succ]
  with_reducible refine wpList_yields (v := ?_) (by kernel_rfl) ?_ ?_
  case refine_2 => (go_simp <;> with_reducible rfl)
  try simp only [Act.put, List.setIfInBounds_toArray, List.set_cons_zero, List.set_cons_succ]
  with_reducible refine wpList_yields (v := ?_) (by kernel_rfl) ?_ ?_
  case refine_2 => (go_simp <;> with_reducible rfl)
  try simp only [Act.put, List.setIfInBounds_toArray, List.set_cons_zero, List.set_cons_succ]
  with_reducible refine wpList_yields (v := ?_) (by kernel_rfl) ?_ ?_
  case refine_2 => (go_simp <;> with_reducible rfl)
  try simp only [Act.put, List.setIfInBounds_toArray, List.set_cons_zero, List.set_cons_succ]
  with_reducible refine wpList_yields (v := ?_) (by kernel_rfl) ?_ ?_
  case refine_2 => (go_simp <;> with_reducible rfl)
  try simp only [Act.put, List.setIfInBounds_toArray, List.set_cons_zero, List.set_cons_succ]
  with_reducible refine wpList_yields (v := ?_) (by kernel_rfl) ?_ ?_
  case refine_2 => (go_simp <;> with_reducible rfl)
  try simp only [Act.put, List.setIfInBounds_toArray, List.set_cons_zero, List.set_cons_succ]
  with_reducible refine wpList_yields (v := ?_) (by kernel_rfl) ?_ ?_
  case refine_2 => (go_simp <;> with_reducible rfl)
  try simp only [Act.put, List.setIfInBounds_toArray, List.set_cons_zero, List.set_cons_succ]
  with_reducible refine wpList_yields (v := ?_) (by kernel_rfl) ?_ ?_
  case refine_2 => (go_simp <;> with_reducible rfl)
  try simp only [Act.put, List.setIfInBounds_toArray, List.set_cons_zero, List.set_cons_succ]
  with_reducible refine wpList_yields (v := ?_) (by kernel_rfl) ?_ ?_
  case refine_2 => (go_simp <;> with_reducible rfl)
  try simp only [Act.put, List.setIfInBounds_toArray, List.set_cons_zero, List.set_cons_succ]
  with_reducible refine wpList_yields (v := ?_) (by kernel_rfl) ?_ ?_
  case refine_2 => (go_simp <;> with_reducible rfl)
  try simp only [Act.put, List.setIfInBounds_toArray, List.set_cons_zero, List.set_cons_succ]
  with_reducible refine wpList_yields (v := ?_) (by kernel_rfl) ?_ ?_
  case refine_2 => (go_simp <;> with_reducible rfl)
  try simp only [Act.put, List.setIfInBounds_toArray, List.set_cons_zero, List.set_cons_succ]
  with_reducible refine wpList_yields (v := ?_) (by kernel_rfl) ?_ ?_
  case refine_2 => (go_simp <;> with_reducible rfl)
  try simp only [Act.put, List.setIfInBounds_toArray, List.set_cons_zero, List.set_cons_succ]
  with_reducible refine wpList_yields (v := ?_) (by kernel_rfl) ?_ ?_
  case refine_2 => (go_simp <;> with_reducible rfl)
  try simp only [Act.put, List.setIfInBounds_toArray, List.set_cons_zero, List.set_cons_succ]
  with_reducible refine wpList_yields (v := ?_) (by kernel_rfl) ?_ ?_
  case refine_2 => (go_simp <;> with_reducible rfl)
  try simp only [Act.put, List.setIfInBounds_toArray, List.set_cons_zero, List.set_cons_succ]
  with_reducible refine wpList_yields (v := ?_) (by kernel_rfl) ?_ ?_
  case refine_2 => (go_simp <;> with_reducible rfl)
  try simp only [Act.put, List.setIfInBounds_toArray, List.set_cons_zero]
  with_reducible refine wpList_nil ?_
  go_wp2_with fail
  go_ret
  exact ⟨rfl, B10.out⟩
end Go.Proofs.YtonafonhadocgaaDoor

/- A number's sixteen digits, as the reference makes them: the last one first. -/
namespace Go.Proofs.YtonafonhadocgaaDoor
open Go.RowKit Go.Shelf

/-- The i last digits of a number. -/
def digK (x : Nat) : Nat → List UInt8
  | 0 => []
  | i + 1 => hxd (x / 16 ^ i % 16) :: digK x i
theorem digK_len (x : Nat) : ∀ i, (digK x i).length = i
  | 0 => rfl
  | i + 1 => by rw [digK, List.length_cons, digK_len x i]
theorem digK_hex (x : Nat) : digK x 16 = hex16 x := by
  rw [hex16, bytes8_all]
  simp only [hexB, List.flatMap_cons, List.flatMap_nil, List.append_nil, List.cons_append, List.nil_append, digK, UInt8.toNat_ofNat']
  simp only [Nat.reducePow, List.cons.injEq, and_true]
  refine ⟨?_, ?_, ?_, ?_, ?_, ?_, ?_, ?_, ?_, ?_, ?_, ?_, ?_, ?_, ?_, ?_⟩ <;> (congr 1; omega)
end Go.Proofs.YtonafonhadocgaaDoor

/- The reference's text of an IPv6 address, piece by piece. Plain laws, no program. -/
namespace Go.Proofs.YtonafonhadocgaaDoor
open Go.RowKit Go.Shelf

/-- The longest run of two noughts or more, among the first k beginnings; where, how many. -/
def rrun (gs : List Nat) : Nat → Nat × Nat
  | 0 => (0, 1)
  | k + 1 => if (rrun gs k).2 < zrun (gs.drop k) then (k, zrun (gs.drop k)) else rrun gs k
theorem rrun_eq (gs : List Nat) : ∀ k, rrun gs k = if 1 < (runF gs k).2 then runF gs k else (0, 1)
  | 0 => rfl
  | k + 1 => by
    have ih := rrun_eq gs k
    rw [rrun, runF, ih]
    generalize runF gs k = r at *
    generalize zrun (gs.drop k) = z at *
    by_cases h : 1 < r.2 <;> by_cases h2 : r.2 < z <;> by_cases h3 : 1 < z <;> simp [h, h2, h3] <;> omega

theorem hexes_snoc (x : Nat) : ∀ gs : List Nat, gs ≠ [] → hexes (gs ++ [x]) = hexes gs ++ 58 :: hex x
  | [], h => absurd rfl h
  | [a], _ => by rw [List.singleton_append, hexes_two, hexes_one, hexes_one]
  | a :: b :: r, _ => by
    have ih := hexes_snoc x (b :: r) (by simp)
    rw [List.cons_append] at ih
    rw [List.cons_append, List.cons_append, hexes_two, hexes_two, ih, List.append_assoc, List.cons_append]
theorem hex_last (x : Nat) (h : x < 65536) : ∃ t c, hex x = t ++ [c] ∧ c ≠ 58 := by
  have hne := hex_ne x
  refine ⟨(hex x).dropLast, (hex x).getLast hne, (List.dropLast_concat_getLast hne).symm, (hex_all x h _ (List.getLast_mem hne)).2.1⟩
theorem hexes_last (gs : List Nat) (hx : ∀ x ∈ gs, x < 65536) (hne : gs ≠ []) : ∃ t c, hexes gs = t ++ [c] ∧ c ≠ 58 := by
  obtain ⟨r, x, rfl⟩ : ∃ r x, gs = r ++ [x] := ⟨gs.dropLast, gs.getLast hne, (List.dropLast_concat_getLast hne).symm⟩
  obtain ⟨t, c, e, hc⟩ := hex_last x (hx x (by simp))
  by_cases hr : r = []
  · subst hr
    exact ⟨t, c, by rw [List.nil_append, hexes_one, e], hc⟩
  · exact ⟨hexes r ++ 58 :: t, c, by rw [hexes_snoc x r hr, e]; simp, hc⟩

/-- The text behind i of the eight rounds. -/
def rpT (gs : List Nat) (at_ m i : Nat) : List UInt8 :=
  if m ≤ 1 ∨ i ≤ at_ then hexes (gs.take i)
  else if i ≤ at_ + m then hexes (gs.take at_) ++ [58, 58]
  else hexes (gs.take at_) ++ [58, 58] ++ hexes ((gs.drop (at_ + m)).take (i - (at_ + m)))
theorem hexes_nil : hexes [] = [] := rfl
theorem rpT_len (gs : List Nat) (hl : gs.length = 8) (at_ m i : Nat) : (rpT gs at_ m i).length ≤ 82 := by
  have h1 := hexes_len (gs.take i) (by rw [List.length_take]; omega)
  have h2 := hexes_len (gs.take at_) (by rw [List.length_take]; omega)
  have h3 := hexes_len ((gs.drop (at_ + m)).take (i - (at_ + m))) (by rw [List.length_take, List.length_drop]; omega)
  unfold rpT
  split
  · omega
  · split
    · simp; omega
    · simp; omega
/-- At the run's beginning. -/
theorem rpT_at (gs : List Nat) (at_ m : Nat) (hm : 1 < m) : rpT gs at_ m at_ ++ [58, 58] = rpT gs at_ m (at_ + 1) := by
  unfold rpT
  rw [if_pos (.inr (Nat.le_refl _)), if_neg (by omega), if_pos (by omega)]
/-- Within the run. -/
theorem rpT_in (gs : List Nat) (at_ m i : Nat) (hm : 1 < m) (h1 : at_ < i) (h2 : i < at_ + m) : rpT gs at_ m (i + 1) = rpT gs at_ m i := by
  unfold rpT
  rw [if_neg (by omega), if_pos (by omega), if_neg (by omega), if_pos (by omega)]
theorem take_snoc (gs : List Nat) (i : Nat) (h : i < gs.length) : gs.take (i + 1) = gs.take i ++ [gs[i]] := by
  rw [List.take_add_one, List.getElem?_eq_getElem h]
  rfl
/-- A round that writes a group: with a colon ahead, or none. -/
theorem rpT_step (gs : List Nat) (hl : gs.length = 8) (hx : ∀ x ∈ gs, x < 65536) (at_ m i : Nat) (hi : i < 8) (hm : m ≤ 1 ∨ i < at_ ∨ at_ + m ≤ i) :
    (rpT gs at_ m i = [] ∧ rpT gs at_ m (i + 1) = hex (gs[i]'(by omega))) ∨
    (∃ t, rpT gs at_ m i = t ++ [58] ∧ rpT gs at_ m (i + 1) = rpT gs at_ m i ++ hex (gs[i]'(by omega))) ∨
    (∃ t c, rpT gs at_ m i = t ++ [c] ∧ c ≠ 58 ∧ rpT gs at_ m (i + 1) = rpT gs at_ m i ++ [58] ++ hex (gs[i]'(by omega))) := by
  have hi' : i < gs.length := by omega
  by_cases hA : m ≤ 1 ∨ i < at_
  · have e1 : rpT gs at_ m i = hexes (gs.take i) := by rw [rpT, if_pos (by omega)]
    have e2 : rpT gs at_ m (i + 1) = hexes (gs.take i ++ [gs[i]]) := by rw [rpT, if_pos (by omega), take_snoc gs i hi']
    by_cases h0 : i = 0
    · subst h0
      refine .inl ⟨by rw [e1, List.take_zero, hexes_nil], ?_⟩
      rw [e2, List.take_zero, List.nil_append, hexes_one]
    · have hne : gs.take i ≠ [] := by
        intro e
        have := congrArg List.length e
        rw [List.length_take, List.length_nil] at this
        omega
      obtain ⟨t, c, e, hc⟩ := hexes_last (gs.take i) (fun x h => hx x (List.mem_of_mem_take h)) hne
      refine .inr (.inr ⟨t, c, by rw [e1, e], hc, ?_⟩)
      rw [e2, hexes_snoc _ _ hne, e1]
      simp
  · have hm1 : ¬ m ≤ 1 := fun h => hA (.inl h)
    have hat : at_ + m ≤ i := by omega
    have e2 : rpT gs at_ m (i + 1) = hexes (gs.take at_) ++ [58, 58] ++ hexes ((gs.drop (at_ + m)).take (i - (at_ + m)) ++ [gs[i]]) := by
      have e3 : (gs.drop (at_ + m)).take (i + 1 - (at_ + m)) = (gs.drop (at_ + m)).take (i - (at_ + m)) ++ [gs[i]] := by
        rw [show i + 1 - (at_ + m) = (i - (at_ + m)) + 1 by omega, take_snoc _ _ (by rw [List.length_drop]; omega), List.getElem_drop]
        congr 3
        omega
      rw [rpT, if_neg (by omega), if_neg (by omega), e3]
    by_cases h0 : i = at_ + m
    · have e1 : rpT gs at_ m i = hexes (gs.take at_) ++ [58, 58] := by rw [rpT, if_neg (by omega), if_pos (by omega)]
      refine .inr (.inl ⟨hexes (gs.take at_) ++ [58], by rw [e1]; simp, ?_⟩)
      rw [e2, e1, show i - (at_ + m) = 0 by omega, List.take_zero, List.nil_append, hexes_one]
    · have e1 : rpT gs at_ m i = hexes (gs.take at_) ++ [58, 58] ++ hexes ((gs.drop (at_ + m)).take (i - (at_ + m))) := by rw [rpT, if_neg (by omega), if_neg (by omega)]
      have hne : (gs.drop (at_ + m)).take (i - (at_ + m)) ≠ [] := by
        intro e
        have := congrArg List.length e
        rw [List.length_take, List.length_drop, List.length_nil] at this
        omega
      obtain ⟨t, c, e, hc⟩ := hexes_last _ (fun x h => hx x (List.mem_of_mem_drop (List.mem_of_mem_take h))) hne
      refine .inr (.inr ⟨hexes (gs.take at_) ++ [58, 58] ++ t, c, by rw [e1, e]; simp, hc, ?_⟩)
      rw [e2, e1, hexes_snoc _ _ hne]
      simp
theorem rpT_end (l : List UInt8) (hl : l.length = 16) : rpT (unflat l) (rrun (unflat l) 8).1 (rrun (unflat l) 8).2 8 = printT true l := by
  have hu := unflat_len l 8 hl
  have hr := (runF_room _ hu 8 (by omega)).1
  rw [printT, if_pos rfl, rrun_eq]
  generalize unflat l = gs at *
  by_cases h : 1 < (runF gs 8).2
  · rw [if_pos h, if_neg (by omega)]
    generalize runF gs 8 = r at *
    rw [rpT, if_neg (by omega)]
    by_cases h8 : 8 ≤ r.1 + r.2
    · rw [if_pos h8, List.drop_eq_nil_of_le (by omega), hexes_nil, List.append_nil]
    · rw [if_neg h8, List.take_of_length_le (l := gs.drop (r.1 + r.2)) (by rw [List.length_drop]; omega)]
  · rw [if_neg h, if_pos (by omega), rpT, if_pos (.inl (Nat.le_refl _)), List.take_of_length_le (by omega)]
theorem rrun_room (gs : List Nat) (hl : gs.length = 8) (k : Nat) (hk : k ≤ 8) : (rrun gs k).1 + (rrun gs k).2 ≤ 8 := by
  rw [rrun_eq]
  have := (runF_room gs hl k hk).1
  split
  · exact this
  · show 0 + 1 ≤ 8
    omega
end Go.Proofs.YtonafonhadocgaaDoor

/- The reference's digits, group, May. -/
namespace Go.Proofs.YtonafonhadocgaaDoor
open Go.RowKit Go.Shelf

/-- The digits of a number to a base. -/
def digsF : Nat → Nat → Nat → List UInt8
  | 0, _, _ => []
  | f + 1, n, b => if n < b then [hxd (n % b)] else digsF f (n / b) b ++ [hxd (n % b)]

theorem digsF_dec (f : Nat) : ∀ n, n < 2 ^ f → digsF (f + 1) n 10 = dec n := by
  unfold dec
  induction f with
  | zero =>
    intro n h
    have : n = 0 := by simpa using h
    subst this
    rw [Lib.decDigits]
    rfl
  | succ f ih =>
    intro n h
    rw [digsF, Lib.decDigits]
    have e : hxd (n % 10) = UInt8.ofNat (48 + n % 10) := by rw [hxd, if_pos (by omega)]
    by_cases hn : n < 10
    · rw [if_pos hn, dif_pos hn, e, Nat.mod_eq_of_lt hn]
    · rw [if_neg hn, dif_neg hn, ih (n / 10) (by rw [Nat.pow_succ] at h; omega), e]
theorem digsF_hex (n : Nat) (h : n < 65536) : digsF 17 n 16 = hex n := by
  unfold hex
  rw [digsF]
  by_cases h1 : n < 16
  · rw [if_pos h1, if_pos h1, Nat.mod_eq_of_lt h1]
  · rw [if_neg h1, if_neg h1, digsF]
    by_cases h2 : n < 256
    · rw [if_pos (by omega), if_pos h2, Nat.mod_eq_of_lt (by omega : n / 16 < 16)]
      rfl
    · rw [if_neg (by omega), if_neg h2, digsF]
      by_cases h3 : n < 4096
      · rw [if_pos (by omega), if_pos h3, Nat.mod_eq_of_lt (by omega : n / 16 / 16 < 16), Nat.div_div_eq_div_mul]
        rfl
      · rw [if_neg (by omega), if_neg h3, digsF, if_pos (by omega), Nat.mod_eq_of_lt (by omega : n / 16 / 16 / 16 < 16), show n / 16 / 16 / 16 = n / 4096 by omega, show n / 16 / 16 % 16 = n / 256 % 16 by omega]
        rfl
theorem digsF_len (f n b : Nat) : (digsF f n b).length ≤ f := by
  induction f generalizing n with
  | zero => exact Nat.le_refl _
  | succ f ih =>
    rw [digsF]
    split
    · simp
    · have := ih (n / b)
      simp; omega

set_option maxRecDepth 100000 in
set_option maxHeartbeats 4000000 in
theorem digits_any (b : Nat) (hb : 2 ≤ b) (hb2 : b ≤ 16) : ∀ (f : Nat) (n : Nat) (w : World), f ≤ 100 → n < b ^ f → n ≤ 65535 → 0 < f →
    Calls Tryd.prog 34 #[.int .i64 n, .int .i64 b] w fun e w' => e = .returned (.string ⟨(digsF f n b).toArray⟩) ∧ Below w.heap.size w w' := by
  intro f
  induction f with
  | zero => intro n w _ _ _ h; cases h
  | succ f ih =>
    intro n w hf hn h16 _
    have HI := Lib.hid (fun (h0 : 0 < f) (hd : n / b < b ^ f) W => ih (n / b) W (by omega) hd (Nat.le_trans (Nat.div_le_self n b) h16) h0)
    obtain ⟨r, hrd⟩ : ∃ r, r = n % b := ⟨_, rfl⟩
    obtain ⟨q, hqd⟩ : ∃ q, q = n / b := ⟨_, rfl⟩
    have hr16 : r < 16 := by rw [hrd]; exact Nat.lt_of_lt_of_le (Nat.mod_lt _ (by omega)) hb2
    have hq : (n : Int) / (b : Int) = (q : Int) := by rw [hqd]; rfl
    have hr : (n : Int) % (b : Int) = (r : Int) := by rw [hrd]; rfl
    have hq16 : q ≤ 65535 := by rw [hqd]; exact Nat.le_trans (Nat.div_le_self n b) h16
    have HD := Lib.hid (show digsF (f + 1) n b = if n < b then [hxd r] else digsF f q b ++ [hxd r] by rw [digsF, hrd, hqd])
    have HF : n < b ∨ (0 < f ∧ n / b < b ^ f) := by
      by_cases h : n < b
      · exact .inl h
      · refine .inr ⟨?_, ?_⟩
        · cases f with
          | zero => rw [Nat.pow_one] at hn; exact absurd hn h
          | succ f => omega
        · rw [Nat.pow_succ] at hn
          exact Nat.div_lt_of_lt_mul (by rw [Nat.mul_comm]; exact hn)
    rw [← hqd] at HI HF
    have hc : ((hxd r).toNat : Int) = if r ≤ 9 then 48 + (r : Int) else 87 + (r : Int) := by
      unfold hxd
      by_cases h : r ≤ 9
      · rw [if_pos (by omega), if_pos h, UInt8.toNat_ofNat']; omega
      · rw [if_neg (by omega), if_neg h, UInt8.toNat_ofNat']; omega
    have hw1 : IntKind.u8.wrap (48 + (r : Int)) = 48 + (r : Int) := by simp [IntKind.wrap, IntKind.bits, IntKind.signed]; omega
    have hw2 : IntKind.u8.wrap (87 + (r : Int)) = 87 + (r : Int) := by simp [IntKind.wrap, IntKind.bits, IntKind.signed]; omega
    have B1 := Lib.hid ((Below.refl _ w).alloc (Nat.le_refl _) (.cells (bv [hxd r]).toArray 5))
    have hv := conv_str (P := Tryd.prog) (w := w.alloc (.cells (bv [hxd r]).toArray 5)) (A := some ⟨w.heap.size, 0, none⟩) (n := 1) (c := 1) (l := [hxd r]) ⟨rfl, Nat.le_refl _, by omega, fun _ => ⟨w.heap.size, 0, rfl, fun k hk => by
      obtain rfl : k = 0 := by omega
      rw [World.cell?_alloc_new]; rfl⟩⟩ 57 9 Tryd.underlying57 Tryd.underlying5 Tryd.underlying9
    rw [show (bv [hxd r]).toArray = #[.int .u8 ((hxd r).toNat : Int)] from rfl] at hv B1
    have hl := digsF_len f q b
    have HL := Lib.hid (show ¬ 9223372036854775807 < (digsF f q b).length + 1 by omega)
    have HC := Lib.hid (ByteArray.mk_append_mk (digsF f q b) [hxd r])
    generalize digsF f q b = dq at *
    generalize hxd r = cc at *
    clear hrd hqd hn hl
    clear ih
    by_cases h9 : r ≤ 9
    · have h9' : ¬ (9 : Int) < (r : Int) := by omega
      rw [if_pos h9] at hc
      rw [hc] at hv B1
      generalize hW : w.alloc (.cells #[.int .u8 (48 + (r : Int))] 5) = w1 at *
      by_cases hnb : n < b
      · rw [if_pos hnb] at HD
        have hnb' : (n : Int) < (b : Int) := by omega
        go_enter Tryd.func34, Tryd.ntmps34
        go_wp2_with fail
        go_ret
        exact ⟨by rw [HD.out]; rfl, B1.out⟩
      · rw [if_neg hnb] at HD
        have hnb' : ¬ (n : Int) < (b : Int) := by omega
        obtain ⟨hf0, hqf⟩ := HF.resolve_left hnb
        have HJ := Lib.hid (HI.out hf0 hqf)
        clear HF hqf hf0 HI
        go_enter Tryd.func34, Tryd.ntmps34
        go_wp2_with fail
        refine (HJ.out _).mono ?_
        rintro e w2 ⟨rfl, bb⟩
        have B2 := Lib.hid (B1.out.trans (bb.mono B1.out.size))
        have hl := HL.out
        clear bb
        go_wp2_with fail
        go_ret
        exact ⟨by rw [HD.out, ← HC.out]; rfl, B2.out⟩
    · have h9' : (9 : Int) < (r : Int) := by omega
      rw [if_neg h9] at hc
      rw [hc] at hv B1
      generalize hW : w.alloc (.cells #[.int .u8 (87 + (r : Int))] 5) = w1 at *
      by_cases hnb : n < b
      · rw [if_pos hnb] at HD
        have hnb' : (n : Int) < (b : Int) := by omega
        go_enter Tryd.func34, Tryd.ntmps34
        go_wp2_with fail
        go_ret
        exact ⟨by rw [HD.out]; rfl, B1.out⟩
      · rw [if_neg hnb] at HD
        have hnb' : ¬ (n : Int) < (b : Int) := by omega
        obtain ⟨hf0, hqf⟩ := HF.resolve_left hnb
        have HJ := Lib.hid (HI.out hf0 hqf)
        clear HF hqf hf0 HI
        go_enter Tryd.func34, Tryd.ntmps34
        go_wp2_with fail
        refine (HJ.out _).mono ?_
        rintro e w2 ⟨rfl, bb⟩
        have B2 := Lib.hid (B1.out.trans (bb.mono B1.out.size))
        have hl := HL.out
        clear bb
        go_wp2_with fail
        go_ret
        exact ⟨by rw [HD.out, ← HC.out]; rfl, B2.out⟩

/-- Of a number of sixteen bits. -/
theorem digits10 (n : Nat) (h : n < 65536) (w : World) : Calls Tryd.prog 34 #[.int .i64 n, .int .i64 10] w fun e w' => e = .returned (.string ⟨(dec n).toArray⟩) ∧ Below w.heap.size w w' := by
  have := digits_any 10 (by omega) (by omega) 17 n w (by omega) (by omega) (by omega) (by omega)
  rw [digsF_dec 16 n h] at this
  exact this
theorem digits16 (n : Nat) (h : n < 65536) (w : World) : Calls Tryd.prog 34 #[.int .i64 n, .int .i64 16] w fun e w' => e = .returned (.string ⟨(hex n).toArray⟩) ∧ Below w.heap.size w w' := by
  have := digits_any 16 (by omega) (by omega) 17 n w (by omega) (by omega) (by omega) (by omega)
  rw [digsF_hex n h] at this
  exact this
end Go.Proofs.YtonafonhadocgaaDoor

/- The reference's group and May. -/
namespace Go.Proofs.YtonafonhadocgaaDoor
open Go.RowKit Go.Shelf

set_option maxRecDepth 100000 in
set_option maxHeartbeats 4000000 in
theorem group_at (u : Bool) (l : List UInt8) (i : Nat) (hl : l.length = 16) (hi : i < 8) (w : World) :
    Calls Tryd.prog 52 #[.agg (adC u l), .int .i64 i] w fun e w' => e = .returned (.int .i64 (((unflat l)[i]?).getD 0)) ∧ Below w.heap.size w w' := by
  have hU := unflat_at l i (by omega)
  have HR := Lib.hid (show (((unflat l)[i]?).getD 0 : Nat) = (l[2 * i]'(by omega)).toNat * 256 + (l[2 * i + 1]'(by omega)).toNat by rw [hU]; rfl)
  have q1 : (w.alloc (.cells (adC u l) 24)).cell? ⟨w.heap.size, 1 + 2 * i, none⟩ = some (.int .u8 ((l[2 * i]'(by omega)).toNat : Int)) := by
    rw [(Blk.new w 24 (adC u l)).cell, adC_get u l _ (by omega), List.getElem?_eq_getElem (by omega)]
    rfl
  have q2 : (w.alloc (.cells (adC u l) 24)).cell? ⟨w.heap.size, 1 + (2 * i + 1), none⟩ = some (.int .u8 ((l[2 * i + 1]'(by omega)).toNat : Int)) := by
    rw [(Blk.new w 24 (adC u l)).cell, adC_get u l _ (by omega), List.getElem?_eq_getElem (by omega)]
    rfl
  have B := Lib.hid ((Below.refl _ w).alloc (Nat.le_refl _) (.cells (adC u l) 24))
  have hx := (l[2 * i]'(by omega)).toNat_lt
  have hy := (l[2 * i + 1]'(by omega)).toNat_lt
  generalize (l[2 * i]'(by omega)).toNat = x at *
  generalize (l[2 * i + 1]'(by omega)).toNat = y at *
  generalize ((unflat l)[i]?).getD 0 = gr at *
  clear hU hl
  obtain ⟨cs, hcs⟩ : ∃ cs, cs = adC u l := ⟨_, rfl⟩
  rw [← hcs] at q1 q2 B ⊢
  clear hcs
  go_enter Tryd.func52, Tryd.ntmps52
  go_upto_region 1 with fail
  generalize w.alloc (.cells cs 24) = w1 at *
  go_quiet (fail)
  go_wp2
  go_ret
  exact ⟨by rw [HR.out, show ((x * 256 + y : Nat) : Int) = 256 * (x : Int) + (y : Int) by omega]; rfl, below_drewN B.out _⟩

theorem may_no {l : List UInt8} {i : Nat} (h4 : 4 ≤ i) (hi : i < l.length) (h : l[i] ≠ 0) : mayB false l = false := by
  rw [mayB, Bool.false_or, decide_eq_false_iff_not]
  intro e
  have e2 : (l.drop 4)[i - 4]? = some l[i] := by
    rw [List.getElem?_drop, show 4 + (i - 4) = i by omega, List.getElem?_eq_getElem hi]
  rw [e, List.getElem?_replicate] at e2
  split at e2
  · injection e2 with e2
    exact h e2.symm
  · cases e2
theorem may_all {l : List UInt8} (hl : l.length = 16) (h : ∀ j (hj : j < l.length), 4 ≤ j → l[j] = 0) : mayB false l = true := by
  rw [mayB, Bool.false_or, decide_eq_true_eq]
  apply List.ext_getElem
  · simp [hl]
  · intro k h1 h2
    rw [List.getElem_drop, List.getElem_replicate, h (4 + k) (by simp at h1; omega) (by omega)]

set_option maxRecDepth 100000 in
set_option maxHeartbeats 4000000 in
theorem rmay_any (u : Bool) (l : List UInt8) (hl : l.length = 16) (w : World) :
    Calls Tryd.prog 20 #[.agg (adC u l)] w fun e w' => e = .returned (.bool (mayB u l)) ∧ Below w.heap.size w w' := by
  have B := Lib.hid ((Below.refl _ w).alloc (Nat.le_refl _) (.cells (adC u l) 24))
  have K := Lib.hid (Blk.new w 24 (adC u l))
  have Q0 := Lib.hid (show (adC u l)[0]? = some (.bool u) from rfl)
  have Q1 := Lib.hid (fun (i : Nat) (h : i < 16) => adC_get u l i (by omega))
  obtain ⟨cs, hcs⟩ : ∃ cs, cs = adC u l := ⟨_, rfl⟩
  rw [← hcs] at B K Q0 Q1 ⊢
  clear hcs
  go_enter Tryd.func20, Tryd.ntmps20
  go_wp2_with fail
  generalize w.alloc (.cells cs 24) = w1 at *
  go_loopw [3] (fun v wr => ∃ i : Nat, i ≤ 16 ∧ 4 ≤ i ∧ v = .int .i64 i ∧ Hid (u = false → ∀ j (hj : j < l.length), 4 ≤ j → j < i → l[j] = 0) ∧ wr = w1) (fun v _ => 16 - (intOf v).toNat)
  case atStart => exact ⟨4, by omega, by omega, rfl, Lib.hid (fun _ j _ h1 h2 => by omega), rfl⟩
  case round =>
    obtain ⟨i, hi, h4, rfl, H, rfl⟩ := hrel
    by_cases hlt : i < 16
    · have q0 : wr.cell? ⟨w.heap.size, 0, none⟩ = some (.bool u) := by rw [K.out.cell]; exact Q0.out
      have qi : wr.cell? ⟨w.heap.size, 1 + i, none⟩ = some (.int .u8 ((l[i]'(by omega)).toNat : Int)) := by
        rw [K.out.cell, Q1.out i hlt, List.getElem?_eq_getElem (by omega)]
        rfl
      cases u with
      | true =>
        go_wp2_with fail
        go_roundw
        case rel => exact ⟨i + 1, by omega, by omega, by go_num, Lib.hid (fun h => by cases h), trivial⟩
        case measure => simp [intOf]; omega
      | false =>
        by_cases hz : l[i]'(by omega) = 0
        · have HN := Lib.hid (show ∀ j (hj : j < l.length), 4 ≤ j → j < i + 1 → l[j] = 0 from fun j hj h1 h2 => by
            by_cases e : j = i
            · subst e; exact hz
            · exact H.out rfl j hj h1 (by omega))
          rw [hz] at qi
          have qi' : wr.cell? ⟨w.heap.size, 1 + i, none⟩ = some (.int .u8 0) := qi
          clear qi hz H
          go_wp2_with fail
          go_roundw
          case rel => exact ⟨i + 1, by omega, by omega, by go_num, Lib.hid (fun _ => HN.out), trivial⟩
          case measure => simp [intOf]; omega
        · have hm := may_no h4 (by omega : i < l.length) hz
          have hne : (((l[i]'(by omega)).toNat : Int) == 0) = false := by
            rw [beq_eq_false_iff_ne]
            intro e
            exact hz (UInt8.toNat_inj.1 (by show _ = 0; omega))
          generalize (l[i]'(by omega)).toNat = x at *
          clear hz H
          go_wp2_with fail
          go_ret
          exact ⟨by rw [hm]; rfl, B.out⟩
    · obtain rfl : i = 16 := by omega
      have hm : mayB u l = true := by
        cases u with
        | true => rfl
        | false => exact may_all hl fun j hj h => H.out rfl j hj h (by omega)
      go_wp2_with fail
      go_ret
      exact ⟨by rw [hm]; rfl, B.out⟩
end Go.Proofs.YtonafonhadocgaaDoor

/- The reference's Print of an IPv4 address. -/
namespace Go.Proofs.YtonafonhadocgaaDoor
open Go.RowKit Go.Shelf

theorem print4_eq (b0 b1 b2 b3 : UInt8) (r : List UInt8) : print4 (b0 :: b1 :: b2 :: b3 :: r) = dec b0.toNat ++ [46] ++ dec b1.toNat ++ [46] ++ dec b2.toNat ++ [46] ++ dec b3.toNat := by
  show Lib.join [dec b0.toNat, dec b1.toNat, dec b2.toNat, dec b3.toNat] [46] = _
  rw [join_two, join_two, join_two, Lib.join_one]
  simp
theorem cat7 (a b c d : List UInt8) : ((((((⟨a.toArray⟩ : ByteArray) ++ ⟨#[46]⟩) ++ ⟨b.toArray⟩) ++ ⟨#[46]⟩) ++ ⟨c.toArray⟩) ++ ⟨#[46]⟩) ++ ⟨d.toArray⟩ = ⟨(a ++ [46] ++ b ++ [46] ++ c ++ [46] ++ d).toArray⟩ := by
  rw [show (⟨#[46]⟩ : ByteArray) = ⟨([46] : List UInt8).toArray⟩ from rfl]
  simp only [ByteArray.mk_append_mk]

def Four (g : Nat) (x0 x1 x2 x3 : Nat) (w : World) : Prop := w.cell? ⟨g, 1, none⟩ = some (.int .u8 x0) ∧ w.cell? ⟨g, 2, none⟩ = some (.int .u8 x1) ∧ w.cell? ⟨g, 3, none⟩ = some (.int .u8 x2) ∧ w.cell? ⟨g, 4, none⟩ = some (.int .u8 x3)
theorem Four.keep {g x0 x1 x2 x3 : Nat} {w w' : World} (h : Four g x0 x1 x2 x3 w) (hb : Below w.heap.size w w') : Four g x0 x1 x2 x3 w' := ⟨cell_later hb h.1, cell_later hb h.2.1, cell_later hb h.2.2.1, cell_later hb h.2.2.2⟩

set_option maxRecDepth 100000 in
set_option maxHeartbeats 8000000 in
theorem rprint_four (l : List UInt8) (hl : l.length = 16) (w : World) :
    Calls Tryd.prog 33 #[.agg (adC false l)] w fun e w' => e = .returned (.string ⟨(print4 l).toArray⟩) ∧ Below w.heap.size w w' := by
  obtain ⟨b0, b1, b2, b3, b4, b5, b6, b7, b8, b9, b10, b11, b12, b13, b14, b15, rfl⟩ := sixteen l hl
  have HP := Lib.hid (print4_eq b0 b1 b2 b3 [b4, b5, b6, b7, b8, b9, b10, b11, b12, b13, b14, b15])
  have B := Lib.hid ((Below.refl _ w).alloc (Nat.le_refl _) (.cells (adC false [b0, b1, b2, b3, b4, b5, b6, b7, b8, b9, b10, b11, b12, b13, b14, b15]) 24))
  have k := Blk.new w 24 (adC false [b0, b1, b2, b3, b4, b5, b6, b7, b8, b9, b10, b11, b12, b13, b14, b15])
  have q0 : (w.alloc (.cells (adC false [b0, b1, b2, b3, b4, b5, b6, b7, b8, b9, b10, b11, b12, b13, b14, b15]) 24)).cell? ⟨w.heap.size, 0, none⟩ = some (.bool false) := k.cell 0
  have HF := Lib.hid (show Four w.heap.size b0.toNat b1.toNat b2.toNat b3.toNat (w.alloc (.cells (adC false [b0, b1, b2, b3, b4, b5, b6, b7, b8, b9, b10, b11, b12, b13, b14, b15]) 24)) from ⟨k.cell 1, k.cell 2, k.cell 3, k.cell 4⟩)
  clear k
  obtain ⟨cs, hcs⟩ : ∃ cs, cs = adC false [b0, b1, b2, b3, b4, b5, b6, b7, b8, b9, b10, b11, b12, b13, b14, b15] := ⟨_, rfl⟩
  rw [← hcs] at B q0 HF ⊢
  have h0 := b0.toNat_lt
  have h1 := b1.toNat_lt
  have h2 := b2.toNat_lt
  have h3 := b3.toNat_lt
  have HD := Lib.hid (fun (n : Nat) (h : n < 65536) W => digits10 n h W)
  have e0 := dec_len b0.toNat h0
  have e1 := dec_len b1.toNat h1
  have e2 := dec_len b2.toNat h2
  have e3 := dec_len b3.toNat h3
  have HC := Lib.hid (cat7 (dec b0.toNat) (dec b1.toNat) (dec b2.toNat) (dec b3.toNat))
  have D0 := Lib.hid (HD.out b0.toNat (by omega))
  have D1 := Lib.hid (HD.out b1.toNat (by omega))
  have D2 := Lib.hid (HD.out b2.toNat (by omega))
  have D3 := Lib.hid (HD.out b3.toNat (by omega))
  generalize print4 [b0, b1, b2, b3, b4, b5, b6, b7, b8, b9, b10, b11, b12, b13, b14, b15] = pt at *
  generalize dec b0.toNat = t0 at *
  generalize dec b1.toNat = t1 at *
  generalize dec b2.toNat = t2 at *
  generalize dec b3.toNat = t3 at *
  generalize b0.toNat = x0 at *
  generalize b1.toNat = x1 at *
  generalize b2.toNat = x2 at *
  generalize b3.toNat = x3 at *
  have c1 : ¬ 9223372036854775807 < t0.length + 1 := by omega
  have c2 : ¬ 9223372036854775807 < t0.length + 1 + t1.length := by omega
  have c3 : ¬ 9223372036854775807 < t0.length + 1 + t1.length + 1 := by omega
  have c4 : ¬ 9223372036854775807 < t0.length + 1 + t1.length + 1 + t2.length := by omega
  have c5 : ¬ 9223372036854775807 < t0.length + 1 + t1.length + 1 + t2.length + 1 := by omega
  have c6 : ¬ 9223372036854775807 < t0.length + 1 + t1.length + 1 + t2.length + 1 + t3.length := by omega
  clear hcs HD hl e0 e1 e2 e3
  have C := Lib.hid (And.intro c1 (And.intro c2 (And.intro c3 (And.intro c4 (And.intro c5 c6)))))
  clear c1 c2 c3 c4 c5 c6
  have w0 : IntKind.i64.wrap (x0 : Int) = x0 := by rw [IntKind.wrap_i64]; omega
  have w1 : IntKind.i64.wrap (x1 : Int) = x1 := by rw [IntKind.wrap_i64]; omega
  have w2 : IntKind.i64.wrap (x2 : Int) = x2 := by rw [IntKind.wrap_i64]; omega
  have w3 : IntKind.i64.wrap (x3 : Int) = x3 := by rw [IntKind.wrap_i64]; omega
  go_enter Tryd.func33, Tryd.ntmps33
  go_upto_region 2 with fail
  clear q0
  refine wp_region_held_drew (S := Four w.heap.size x0 x1 x2 x3) (by kernel_rfl) (⟨HF.out.1, HF.out.2.1, HF.out.2.2.1, HF.out.2.2.2⟩) (fun hHeld => ?_)
  have BB := Lib.hid (below_drew B.out)
  clear B HF
  refine wpAnyH_take (i := 0) (oi := _) (v := ?_) rfl (by kernel_rfl) (by kernel_rfl) (by kernel_rfl) (fun _ _ _ h => h) (Or.inl ⟨by rfl, ?_⟩) (by assumption) ?_
  case refine_2 => (intro w hSw; (try unfold Four at hSw); go_simp <;> with_reducible rfl)
  try simp only [List.getElem_toArray, List.getElem_cons_zero, Act.put, List.setIfInBounds_toArray, List.set_cons_zero, List.set_cons_succ]
  refine wpAnyH_take (i := 1) (oi := _) (v := ?_) rfl (by kernel_rfl) (by kernel_rfl) (by kernel_rfl) (fun _ _ _ h => h) (Or.inl ⟨by rfl, ?_⟩) (by assumption) ?_
  case refine_2 => (intro w hSw; (try unfold Four at hSw); go_simp <;> with_reducible rfl)
  try simp only [List.getElem_toArray, List.getElem_cons_zero, List.getElem_cons_succ, Act.put, List.setIfInBounds_toArray, List.set_cons_zero, List.set_cons_succ]
  refine wpAnyH_take (i := 2) (oi := _) (v := ?_) rfl (by kernel_rfl) (by kernel_rfl) (by kernel_rfl) (fun _ _ _ h => h) (Or.inl ⟨by rfl, ?_⟩) (by assumption) ?_
  case refine_2 => (intro w hSw; (try unfold Four at hSw); go_simp <;> with_reducible rfl)
  try simp only [List.getElem_toArray, List.getElem_cons_zero, List.getElem_cons_succ, Act.put, List.setIfInBounds_toArray, List.set_cons_zero, List.set_cons_succ]
  refine wpAnyH_take (i := 3) (oi := _) (v := ?_) rfl (by kernel_rfl) (by kernel_rfl) (by kernel_rfl) (fun _ _ _ h => h) (Or.inl ⟨by rfl, ?_⟩) (by assumption) ?_
  case refine_2 => (intro w hSw; (try unfold Four at hSw); go_simp <;> with_reducible rfl)
  try simp only [List.getElem_toArray, List.getElem_cons_zero, List.getElem_cons_succ, Act.put, List.setIfInBounds_toArray, List.set_cons_zero, List.set_cons_succ]
  refine wpAnyH_take (i := 6) (oi := _) (v := ?_) rfl (by kernel_rfl) (by kernel_rfl) (by kernel_rfl) (fun _ _ _ h => h) (Or.inl ⟨by rfl, ?_⟩) (by assumption) ?_
  case refine_2 => (intro w hSw; (try unfold Four at hSw); go_simp <;> with_reducible rfl)
  try simp only [List.getElem_toArray, List.getElem_cons_zero, List.getElem_cons_succ, Act.put, List.setIfInBounds_toArray, List.set_cons_zero, List.set_cons_succ]
  refine wpAnyH_take (i := 7) (oi := _) (v := ?_) rfl (by kernel_rfl) (by kernel_rfl) (by kernel_rfl) (fun _ _ _ h => h) (Or.inl ⟨by rfl, ?_⟩) (by assumption) ?_
  case refine_2 => (intro w hSw; (try unfold Four at hSw); go_simp <;> with_reducible rfl)
  try simp only [List.getElem_toArray, List.getElem_cons_zero, List.getElem_cons_succ, Act.put, List.setIfInBounds_toArray, List.set_cons_zero, List.set_cons_succ]
  refine wpAnyH_take (i := 8) (oi := _) (v := ?_) rfl (by kernel_rfl) (by kernel_rfl) (by kernel_rfl) (fun _ _ _ h => h) (Or.inl ⟨by rfl, ?_⟩) (by assumption) ?_
  case refine_2 => (intro w hSw; (try unfold Four at hSw); go_simp <;> with_reducible rfl)
  try simp only [List.getElem_toArray, List.getElem_cons_zero, List.getElem_cons_succ, Act.put, List.setIfInBounds_toArray, List.set_cons_zero, List.set_cons_succ]
  refine wpAnyH_take (i := 9) (oi := _) (v := ?_) rfl (by kernel_rfl) (by kernel_rfl) (by kernel_rfl) (fun _ _ _ h => h) (Or.inl ⟨by rfl, ?_⟩) (by assumption) ?_
  case refine_2 => (intro w hSw; (try unfold Four at hSw); go_simp <;> with_reducible rfl)
  try simp only [List.getElem_toArray, List.getElem_cons_zero, List.getElem_cons_succ, Act.put, List.setIfInBounds_toArray, List.set_cons_zero, List.set_cons_succ]
  refine wpAnyH_take (i := 13) (oi := _) (v := ?_) rfl (by kernel_rfl) (by kernel_rfl) (by kernel_rfl) (fun _ _ _ h => h) (Or.inl ⟨by rfl, ?_⟩) (by assumption) ?_
  case refine_2 => (intro w hSw; (try unfold Four at hSw); go_simp <;> with_reducible rfl)
  try simp only [List.getElem_toArray, List.getElem_cons_zero, List.getElem_cons_succ, Act.put, List.setIfInBounds_toArray, List.set_cons_zero, List.set_cons_succ]
  refine wpAnyH_take (i := 14) (oi := _) (v := ?_) rfl (by kernel_rfl) (by kernel_rfl) (by kernel_rfl) (fun _ _ _ h => h) (Or.inl ⟨by rfl, ?_⟩) (by assumption) ?_
  case refine_2 => (intro w hSw; (try unfold Four at hSw); go_simp <;> with_reducible rfl)
  try simp only [List.getElem_toArray, List.getElem_cons_zero, List.getElem_cons_succ, Act.put, List.setIfInBounds_toArray, List.set_cons_zero, List.set_cons_succ]
  refine wpAnyH_take (i := 15) (oi := _) (v := ?_) rfl (by kernel_rfl) (by kernel_rfl) (by kernel_rfl) (fun _ _ _ h => h) (Or.inl ⟨by rfl, ?_⟩) (by assumption) ?_
  case refine_2 => (intro w hSw; (try unfold Four at hSw); go_simp <;> with_reducible rfl)
  try simp only [List.getElem_toArray, List.getElem_cons_zero, List.getElem_cons_succ, Act.put, List.setIfInBounds_toArray, List.set_cons_zero, List.set_cons_succ]
  refine wpAnyH_take (i := 16) (oi := _) (v := ?_) rfl (by kernel_rfl) (by kernel_rfl) (by kernel_rfl) (fun _ _ _ h => h) (Or.inl ⟨by rfl, ?_⟩) (by assumption) ?_
  case refine_2 => (intro w hSw; (try unfold Four at hSw); go_simp <;> with_reducible rfl)
  try simp only [List.getElem_toArray, List.getElem_cons_zero, List.getElem_cons_succ, Act.put, List.setIfInBounds_toArray, List.set_cons_zero, List.set_cons_succ]
  refine wpAnyH_take (i := 20) (oi := _) (v := ?_) rfl (by kernel_rfl) (by kernel_rfl) (by kernel_rfl) (fun _ _ _ h => h) (Or.inl ⟨by rfl, ?_⟩) (by assumption) ?_
  case refine_2 => (intro w hSw; (try unfold Four at hSw); go_simp <;> with_reducible rfl)
  try simp only [List.getElem_toArray, List.getElem_cons_zero, List.getElem_cons_succ, Act.put, List.setIfInBounds_toArray, List.set_cons_zero, List.set_cons_succ]
  refine wpAnyH_take (i := 21) (oi := _) (v := ?_) rfl (by kernel_rfl) (by kernel_rfl) (by kernel_rfl) (fun _ _ _ h => h) (Or.inl ⟨by rfl, ?_⟩) (by assumption) ?_
  case refine_2 => (intro w hSw; (try unfold Four at hSw); go_simp <;> with_reducible rfl)
  try simp only [List.getElem_toArray, List.getElem_cons_zero, List.getElem_cons_succ, Act.put, List.setIfInBounds_toArray, List.set_cons_zero, List.set_cons_succ]
  refine wpAnyH_take (i := 22) (oi := _) (v := ?_) rfl (by kernel_rfl) (by kernel_rfl) (by kernel_rfl) (fun _ _ _ h => h) (Or.inl ⟨by rfl, ?_⟩) (by assumption) ?_
  case refine_2 => (intro w hSw; (try unfold Four at hSw); go_simp <;> with_reducible rfl)
  try simp only [List.getElem_toArray, List.getElem_cons_zero, List.getElem_cons_succ, Act.put, List.setIfInBounds_toArray, List.set_cons_zero, List.set_cons_succ]
  refine wpAnyH_take (i := 23) (oi := _) (v := ?_) rfl (by kernel_rfl) (by kernel_rfl) (by kernel_rfl) (fun _ _ _ h => h) (Or.inl ⟨by rfl, ?_⟩) (by assumption) ?_
  case refine_2 => (intro w hSw; (try unfold Four at hSw); go_simp <;> with_reducible rfl)
  try simp only [List.getElem_toArray, List.getElem_cons_zero, List.getElem_cons_succ, Act.put, List.setIfInBounds_toArray, List.set_cons_zero, List.set_cons_succ]
  refine wpAnyH_ready (rs := [4]) (by kernel_rfl) (by simp) ?_
  refine AllReadyH.cons (o := _) rfl (fun K hK => ?_) AllReadyH.nil
  simp only [List.getElem_toArray, List.getElem_cons_zero, List.getElem_cons_succ]
  go_simp
  refine (D0.out _).mono ?_
  rintro e wn ⟨rfl, b⟩
  have Bn := Lib.hid (BB.out.trans (b.mono BB.out.size))
  have hH := hHeld.keep b
  clear b BB
  go_simp
  refine hK.out _ _ hH (fun hHeld2 => ?_)
  clear hK K hHeld hH
  have hHeld := hHeld2
  have BB := Bn
  clear hHeld2 Bn
  try simp only [List.getElem_toArray, List.getElem_cons_zero, List.getElem_cons_succ, Act.put, List.setIfInBounds_toArray, List.set_cons_zero, List.set_cons_succ]
  obtain ⟨c1, c2, c3, c4, c5, c6⟩ := C.out
  refine wpAnyH_take (i := 5) (oi := _) (v := ?_) rfl (by kernel_rfl) (by kernel_rfl) (by kernel_rfl) (fun _ _ _ h => h) (Or.inl ⟨by rfl, ?_⟩) (by assumption) ?_
  case refine_2 => (intro w hSw; (try unfold Four at hSw); go_simp <;> with_reducible rfl)
  try simp only [List.getElem_toArray, List.getElem_cons_zero, List.getElem_cons_succ, Act.put, List.setIfInBounds_toArray, List.set_cons_zero, List.set_cons_succ]
  clear c1 c2 c3 c4 c5 c6
  refine wpAnyH_ready (rs := [10]) (by kernel_rfl) (by simp) ?_
  refine AllReadyH.cons (o := _) rfl (fun K hK => ?_) AllReadyH.nil
  simp only [List.getElem_toArray, List.getElem_cons_zero, List.getElem_cons_succ]
  go_simp
  refine (D1.out _).mono ?_
  rintro e wn ⟨rfl, b⟩
  have Bn := Lib.hid (BB.out.trans (b.mono BB.out.size))
  have hH := hHeld.keep b
  clear b BB
  go_simp
  refine hK.out _ _ hH (fun hHeld2 => ?_)
  clear hK K hHeld hH
  have hHeld := hHeld2
  have BB := Bn
  clear hHeld2 Bn
  try simp only [List.getElem_toArray, List.getElem_cons_zero, List.getElem_cons_succ, Act.put, List.setIfInBounds_toArray, List.set_cons_zero, List.set_cons_succ]
  obtain ⟨c1, c2, c3, c4, c5, c6⟩ := C.out
  refine wpAnyH_take (i := 11) (oi := _) (v := ?_) rfl (by kernel_rfl) (by kernel_rfl) (by kernel_rfl) (fun _ _ _ h => h) (Or.inl ⟨by rfl, ?_⟩) (by assumption) ?_
  case refine_2 => (intro w hSw; (try unfold Four at hSw); go_simp <;> with_reducible rfl)
  try simp only [List.getElem_toArray, List.getElem_cons_zero, List.getElem_cons_succ, Act.put, List.setIfInBounds_toArray, List.set_cons_zero, List.set_cons_succ]
  refine wpAnyH_take (i := 12) (oi := _) (v := ?_) rfl (by kernel_rfl) (by kernel_rfl) (by kernel_rfl) (fun _ _ _ h => h) (Or.inl ⟨by rfl, ?_⟩) (by assumption) ?_
  case refine_2 => (intro w hSw; (try unfold Four at hSw); go_simp <;> with_reducible rfl)
  try simp only [List.getElem_toArray, List.getElem_cons_zero, List.getElem_cons_succ, Act.put, List.setIfInBounds_toArray, List.set_cons_zero, List.set_cons_succ]
  clear c1 c2 c3 c4 c5 c6
  refine wpAnyH_ready (rs := [17]) (by kernel_rfl) (by simp) ?_
  refine AllReadyH.cons (o := _) rfl (fun K hK => ?_) AllReadyH.nil
  simp only [List.getElem_toArray, List.getElem_cons_zero, List.getElem_cons_succ]
  go_simp
  refine (D2.out _).mono ?_
  rintro e wn ⟨rfl, b⟩
  have Bn := Lib.hid (BB.out.trans (b.mono BB.out.size))
  have hH := hHeld.keep b
  clear b BB
  go_simp
  refine hK.out _ _ hH (fun hHeld2 => ?_)
  clear hK K hHeld hH
  have hHeld := hHeld2
  have BB := Bn
  clear hHeld2 Bn
  try simp only [List.getElem_toArray, List.getElem_cons_zero, List.getElem_cons_succ, Act.put, List.setIfInBounds_toArray, List.set_cons_zero, List.set_cons_succ]
  obtain ⟨c1, c2, c3, c4, c5, c6⟩ := C.out
  refine wpAnyH_take (i := 18) (oi := _) (v := ?_) rfl (by kernel_rfl) (by kernel_rfl) (by kernel_rfl) (fun _ _ _ h => h) (Or.inl ⟨by rfl, ?_⟩) (by assumption) ?_
  case refine_2 => (intro w hSw; (try unfold Four at hSw); go_simp <;> with_reducible rfl)
  try simp only [List.getElem_toArray, List.getElem_cons_zero, List.getElem_cons_succ, Act.put, List.setIfInBounds_toArray, List.set_cons_zero, List.set_cons_succ]
  refine wpAnyH_take (i := 19) (oi := _) (v := ?_) rfl (by kernel_rfl) (by kernel_rfl) (by kernel_rfl) (fun _ _ _ h => h) (Or.inl ⟨by rfl, ?_⟩) (by assumption) ?_
  case refine_2 => (intro w hSw; (try unfold Four at hSw); go_simp <;> with_reducible rfl)
  try simp only [List.getElem_toArray, List.getElem_cons_zero, List.getElem_cons_succ, Act.put, List.setIfInBounds_toArray, List.set_cons_zero, List.set_cons_succ]
  clear c1 c2 c3 c4 c5 c6
  refine wpAnyH_ready (rs := [24]) (by kernel_rfl) (by simp) ?_
  refine AllReadyH.cons (o := _) rfl (fun K hK => ?_) AllReadyH.nil
  simp only [List.getElem_toArray, List.getElem_cons_zero, List.getElem_cons_succ]
  go_simp
  refine (D3.out _).mono ?_
  rintro e wn ⟨rfl, b⟩
  have Bn := Lib.hid (BB.out.trans (b.mono BB.out.size))
  have hH := hHeld.keep b
  clear b BB
  go_simp
  refine hK.out _ _ hH (fun hHeld2 => ?_)
  clear hK K hHeld hH
  have hHeld := hHeld2
  have BB := Bn
  clear hHeld2 Bn
  try simp only [List.getElem_toArray, List.getElem_cons_zero, List.getElem_cons_succ, Act.put, List.setIfInBounds_toArray, List.set_cons_zero, List.set_cons_succ]
  obtain ⟨c1, c2, c3, c4, c5, c6⟩ := C.out
  refine wpAnyH_take (i := 25) (oi := _) (v := ?_) rfl (by kernel_rfl) (by kernel_rfl) (by kernel_rfl) (fun _ _ _ h => h) (Or.inl ⟨by rfl, ?_⟩) (by assumption) ?_
  case refine_2 => (intro w hSw; (try unfold Four at hSw); go_simp <;> with_reducible rfl)
  try simp only [List.getElem_toArray, List.getElem_cons_zero, List.getElem_cons_succ, Act.put, List.setIfInBounds_toArray, List.set_cons_zero, List.set_cons_succ]
  clear c1 c2 c3 c4 c5 c6
  refine wpAnyH_take (i := 26) (oi := _) (v := ?_) rfl (by kernel_rfl) (by kernel_rfl) (by kernel_rfl) (fun _ _ _ h => h) (Or.inl ⟨by rfl, ?_⟩) (by assumption) ?_
  case refine_2 => (intro w hSw; (try unfold Four at hSw); go_simp <;> with_reducible rfl)
  try simp only [List.getElem_toArray, List.getElem_cons_zero, List.getElem_cons_succ, Act.put, List.setIfInBounds_toArray, List.set_cons_zero, List.set_cons_succ]
  refine wpAnyH_done (by kernel_rfl) ?_ _
  clear hHeld
  go_wp2_with fail
  all_goals (go_ret; exact ⟨by rw [HP.out, ← HC.out]; rfl, BB.out⟩)
end Go.Proofs.YtonafonhadocgaaDoor
