/- The kind and the place of an error; whether it is of a kind; the law's own 'is'. -/
import Derived.Test.YtdlpeljdpnohlaaDoorFltAs
import Derived.Outline
namespace Go.Proofs.YtdlpeljdpnohlaaDoor
open Go.RowKit Go.Shelf Go.Extern

/-- The variable errors.errorType holds what the program lays there. -/
def ErrType (w : World) : Prop := w.cell? ⟨0, 0, none⟩ = some (.iface 91 (.agg #[.pointer (some ⟨4, 32, none⟩)]))
theorem ErrType.below {w w' : World} (h : ErrType w) (hb : Below w.heap.size w w') : ErrType w' := cell_later hb h

set_option maxHeartbeats 1000000 in
theorem kind_any (v : Value) (k at_ : Int) (w : World) (h : IsErr w v k at_) (hg : ErrType w) :
    Calls Tryd.prog 13 #[v] w fun e w' => e = .returned (.tuple #[.int .i64 k, .bool true]) ∧ Below w.heap.size w w' := by
  obtain ⟨nb, fb, rfl, h1, h2, _⟩ := h
  have b1 := (Below.refl w.heap.size w).alloc (Nat.le_refl _) (.cells #[.int .i64 0] 57)
  have C := Lib.hid (As_PS nb fb w.heap.size k _ (cell_later b1 h1) (cell_later b1 h2) (Blk.new w _ _) (hg.below b1))
  clear h1 h2 hg b1
  go_enter Tryd.func13, Tryd.ntmps13
  go_wp2_with fail
  refine C.out.mono ?_
  rintro e w' ⟨rfl, hk, hb⟩
  have q0 := hk.cell 0
  have HB := Lib.hid hb
  simp at q0
  clear hk hb
  go_wp2
  go_ret2
  exact ⟨rfl, ((Below.refl _ _).alloc (Nat.le_refl _) _).trans HB.out⟩

set_option maxHeartbeats 1000000 in
theorem off_any (v : Value) (k at_ : Int) (w : World) (h : IsErr w v k at_) (hg : ErrType w) :
    Calls Tryd.prog 14 #[v] w fun e w' => e = .returned (.tuple #[.int .i64 at_, .bool true]) ∧ Below w.heap.size w w' := by
  obtain ⟨nb, fb, rfl, h1, h2, h3⟩ := h
  have b1 := (Below.refl w.heap.size w).alloc (Nat.le_refl _) (.cells #[.pointer none] 60)
  have hlt := World.block_lt_of_cell? w _ h3
  have C := Lib.hid (As_PF nb fb w.heap.size k _ (cell_later b1 h1) (cell_later b1 h2) (Blk.new w _ _) (hg.below b1))
  have H3 := Lib.hid (cell_later b1 h3)
  clear h1 h2 h3 hg b1
  go_enter Tryd.func14, Tryd.ntmps14
  go_wp2_with fail
  refine C.out.mono ?_
  rintro e w' ⟨rfl, hk, hb⟩
  have q0 := hk.cell 0
  have q1 : w'.cell? ⟨fb, 1, none⟩ = some (.int .i64 at_) := (hb.cell (p := ⟨fb, 1, none⟩) hlt).trans H3.out
  have HB := Lib.hid hb
  simp at q0
  clear hk hb
  go_wp2
  go_ret2
  exact ⟨rfl, ((Below.refl _ _).alloc (Nat.le_refl _) _).trans HB.out⟩

theorem comparableS (w : World) : (ReflectliteType.method (fun t => do Rtype.noPackHeld "Comparable" t; (fun a => Value.bool a.comparable) <$> typeInfo t) #[.agg #[.pointer (some ⟨4, 57, none⟩)]]).run Tryd.prog w = .ok (.bool true) w := by kernel_rfl

/-- Two kinds, as errors, are one. -/
theorem eql_sort (k : Int) (w : World) : (binOp .eql 32 (.iface 57 (.int .i64 k)) (.iface 57 (.int .i64 k))).run Tryd.prog w = .ok (.bool true) w := by
  obtain ⟨i, hi, hc⟩ : ∃ i, Tryd.prog.info? 57 = some i ∧ i.comparable = true := by
    have h : (Tryd.prog.info? 57).map (·.comparable) = some true := by kernel_rfl
    exact Option.map_eq_some_iff.1 h
  have h : ∀ d : Nat, (Op.equalIn (d + 2) 32 (.iface 57 (.int .i64 k)) (.iface 57 (.int .i64 k))).run Tryd.prog w = .ok true w := fun d => by
    simp [Op.equalIn, run_underlying Tryd.underlying32, run_underlying Tryd.underlying57, typeInfo, hi, hc]
  simp only [binOp]
  simp [Op.equal, Op.maxDepth, h 9998]

set_option maxRecDepth 100000 in
set_option maxHeartbeats 2000000 in
theorem is_any (v : Value) (k at_ : Int) (w : World) (h : IsErr w v k at_) :
    Calls Tryd.prog 29 #[v, .iface 57 (.int .i64 k), .bool true] w fun e w' => e = .returned (.bool true) ∧ w = w' := by
  obtain ⟨nb, fb, rfl, h1, h2, h3⟩ := h
  have U0 := Lib.hid (note_unwrap nb _ _ h1)
  have U1 := Lib.hid (fault_unwrap fb k _ h2)
  have mN := methodUnwrapN
  have mF := methodUnwrapF
  have nN := noIsN
  have nF := noIsF
  have uN := hasUnwrapN
  have uF := hasUnwrapF
  have eS := eql_sort k
  have hN := run_eql_iface_types (P := Tryd.prog) 67 57 (.pointer (some ⟨nb, 0, none⟩)) (.int .i64 k) Tryd.underlying32 (by decide)
  have hF := run_eql_iface_types (P := Tryd.prog) 60 57 (.pointer (some ⟨fb, 0, none⟩)) (.int .i64 k) Tryd.underlying32 (by decide)
  clear h1 h2 h3
  go_enter Tryd.func29, Tryd.ntmps29
  go_wp2_with fail
  refine wp_loop_rounds 3 ?_
  rw [rounds_succ]
  go_wp2_with fail
  refine U0.out.mono ?_
  rintro e w' ⟨rfl, rfl⟩
  go_wp2_with fail
  rw [rounds_succ]
  go_wp2_with fail
  refine U1.out.mono ?_
  rintro e w' ⟨rfl, rfl⟩
  go_wp2_with fail
  rw [rounds_succ]
  go_wp2
  go_ret
  exact ⟨rfl, rfl⟩

set_option maxRecDepth 100000 in
set_option maxHeartbeats 1000000 in
theorem Is_any (v : Value) (k at_ : Int) (w : World) (h : IsErr w v k at_) :
    Calls Tryd.prog 20 #[v, .iface 57 (.int .i64 k)] w fun e w' => e = .returned (.bool true) ∧ w = w' := by
  have C := Lib.hid (is_any v k at_ w h)
  obtain ⟨nb, fb, rfl, h1, h2, h3⟩ := h
  have c28 := @run_callFunc_extern Tryd.prog 28 _ ReflectliteType.typeOf Tryd.func28 (by kernel_rfl) (by kernel_rfl) (by kernel_rfl) (by kernel_rfl)
  have c82 := @run_callFunc_extern Tryd.prog 82 _ (ReflectliteType.method (fun t => do Rtype.noPackHeld "Comparable" t; pure (.bool (← typeInfo t).comparable))) Tryd.func82 (by kernel_rfl) (by kernel_rfl) (by kernel_rfl) (by kernel_rfl)
  have tS := typeOfS
  have mC := methodComparable
  have cS := comparableS
  clear h1 h2 h3
  go_enter Tryd.func20, Tryd.ntmps20
  go_wp2_with fail
  refine C.out.mono ?_
  rintro e w' ⟨rfl, rfl⟩
  go_wp2
  go_ret
  exact ⟨rfl, rfl⟩

set_option maxHeartbeats 1000000 in
theorem isKind_any (v : Value) (k at_ : Int) (w : World) (h : IsErr w v k at_) :
    Calls Tryd.prog 15 #[v, .int .i64 k] w fun e w' => e = .returned (.bool true) ∧ w = w' := by
  have C := Lib.hid (Is_any v k at_ w h)
  clear h
  go_enter Tryd.func15, Tryd.ntmps15
  go_wp2_with fail
  refine C.out.mono ?_
  rintro e w' ⟨rfl, rfl⟩
  go_wp2
  go_ret
  exact ⟨rfl, rfl⟩

set_option maxHeartbeats 1000000 in
/-- The law's own question: an error of a kind, at a place. -/
theorem lawIs_any (v : Value) (k at_ : Int) (w : World) (h : IsErr w v k at_) (hg : ErrType w) :
    Calls Tryd.prog 7 #[v, .int .i64 k, .int .i64 at_] w fun e w' => e = .returned (.bool true) ∧ Below w.heap.size w w' := by
  have H := Lib.hid h
  have G := Lib.hid hg
  clear h hg
  go_enter Tryd.func7, Tryd.ntmps7
  go_wp2_with fail
  refine (kind_any v k at_ w H.out G.out).mono ?_
  rintro e w1 ⟨rfl, hb1⟩
  replace H := Lib.hid (H.out.below hb1)
  replace G := Lib.hid (G.out.below hb1)
  have B1 := Lib.hid hb1
  clear hb1
  go_wp2_with fail
  refine (off_any v k at_ w1 H.out G.out).mono ?_
  rintro e w2 ⟨rfl, hb2⟩
  replace H := Lib.hid (H.out.below hb2)
  replace B1 := Lib.hid (B1.out.trans (hb2.mono B1.out.size))
  clear hb2
  go_wp2_with fail
  refine (isKind_any v k at_ w2 H.out).mono ?_
  rintro e w3 ⟨rfl, rfl⟩
  go_wp2
  go_ret
  exact ⟨rfl, B1.out⟩
end Go.Proofs.YtdlpeljdpnohlaaDoor
