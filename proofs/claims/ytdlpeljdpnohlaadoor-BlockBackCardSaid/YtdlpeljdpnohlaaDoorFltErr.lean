/- Errors of the package fault: what errors.Unwrap finds. -/
import Derived.Test.YtdlpeljdpnohlaaDoorFltMay
import Derived.Stop.Asserts
import Derived.LaidEql
import Derived.Outline
namespace Go.Proofs.YtdlpeljdpnohlaaDoor
open Go.RowKit Go.Shelf

/-! Closed facts on the method sets. -/
theorem noUnwrapS (v : Value) (xT : TypeId) (w : World) : (Instr.typeAssert (.iface 57 v) xT 98 true).run Tryd.prog w = .ok (.tuple #[.nilIface, .bool false]) w := run_typeAssert_lacksB Tryd.underlying98 (by kernel_rfl) (by kernel_rfl) v xT w
theorem hasUnwrapF (v : Value) (xT : TypeId) (w : World) : (Instr.typeAssert (.iface 60 v) xT 98 true).run Tryd.prog w = .ok (.tuple #[.iface 60 v, .bool true]) w := run_typeAssert_hasB Tryd.underlying98 (by kernel_rfl) v xT w
theorem hasUnwrapN (v : Value) (xT : TypeId) (w : World) : (Instr.typeAssert (.iface 67 v) xT 98 true).run Tryd.prog w = .ok (.tuple #[.iface 67 v, .bool true]) w := run_typeAssert_hasB Tryd.underlying98 (by kernel_rfl) v xT w
theorem noUnwrapsS (v : Value) (xT : TypeId) (w : World) : (Instr.typeAssert (.iface 57 v) xT 100 true).run Tryd.prog w = .ok (.tuple #[.nilIface, .bool false]) w := run_typeAssert_lacksB Tryd.underlying100 (by kernel_rfl) (by kernel_rfl) v xT w
theorem noAsS (v : Value) (xT : TypeId) (w : World) : (Instr.typeAssert (.iface 57 v) xT 95 true).run Tryd.prog w = .ok (.tuple #[.nilIface, .bool false]) w := run_typeAssert_lacksB Tryd.underlying95 (by kernel_rfl) (by kernel_rfl) v xT w
theorem noAsF (v : Value) (xT : TypeId) (w : World) : (Instr.typeAssert (.iface 60 v) xT 95 true).run Tryd.prog w = .ok (.tuple #[.nilIface, .bool false]) w := run_typeAssert_lacksB Tryd.underlying95 (by kernel_rfl) (by kernel_rfl) v xT w
theorem noAsN (v : Value) (xT : TypeId) (w : World) : (Instr.typeAssert (.iface 67 v) xT 95 true).run Tryd.prog w = .ok (.tuple #[.nilIface, .bool false]) w := run_typeAssert_lacksB Tryd.underlying95 (by kernel_rfl) (by kernel_rfl) v xT w
theorem noIsS (v : Value) (xT : TypeId) (w : World) : (Instr.typeAssert (.iface 57 v) xT 103 true).run Tryd.prog w = .ok (.tuple #[.nilIface, .bool false]) w := run_typeAssert_lacksB Tryd.underlying103 (by kernel_rfl) (by kernel_rfl) v xT w
theorem noIsF (v : Value) (xT : TypeId) (w : World) : (Instr.typeAssert (.iface 60 v) xT 103 true).run Tryd.prog w = .ok (.tuple #[.nilIface, .bool false]) w := run_typeAssert_lacksB Tryd.underlying103 (by kernel_rfl) (by kernel_rfl) v xT w
theorem noIsN (v : Value) (xT : TypeId) (w : World) : (Instr.typeAssert (.iface 67 v) xT 103 true).run Tryd.prog w = .ok (.tuple #[.nilIface, .bool false]) w := run_typeAssert_lacksB Tryd.underlying103 (by kernel_rfl) (by kernel_rfl) v xT w
theorem noNoteF (v : Value) (xT : TypeId) (w : World) : (Instr.typeAssert (.iface 60 v) xT 67 true).run Tryd.prog w = .ok (.tuple #[.pointer none, .bool false]) w := by kernel_rfl
theorem noNoteS (v : Value) (xT : TypeId) (w : World) : (Instr.typeAssert (.iface 57 v) xT 67 true).run Tryd.prog w = .ok (.tuple #[.pointer none, .bool false]) w := by kernel_rfl

theorem unwrap_fault (fb : Nat) (k : Int) (w : World) (h : w.cell? ⟨fb, 0, none⟩ = some (.int .i64 k)) :
    Calls Tryd.prog 30 #[.iface 60 (.pointer (some ⟨fb, 0, none⟩))] w fun e w' => e = .returned (.iface 57 (.int .i64 k)) ∧ w = w' := by
  have u := hasUnwrapF
  go_enter Tryd.func30, Tryd.ntmps30
  go_wp2
  go_ret
  exact ⟨rfl, rfl⟩

theorem unwrap_sort (k : Int) (w : World) :
    Calls Tryd.prog 30 #[.iface 57 (.int .i64 k)] w fun e w' => e = .returned .nilIface ∧ w = w' := by
  have u := noUnwrapS
  go_enter Tryd.func30, Tryd.ntmps30
  go_wp2
  go_ret
  exact ⟨rfl, rfl⟩

set_option maxHeartbeats 1000000 in
theorem notes_fault (fb : Nat) (k : Int) (w : World) (h : w.cell? ⟨fb, 0, none⟩ = some (.int .i64 k)) :
    Calls Tryd.prog 21 #[.iface 60 (.pointer (some ⟨fb, 0, none⟩))] w fun e w' => e = .returned (.int .i64 0) ∧ w = w' := by
  have HF := Lib.hid (unwrap_fault fb k w h)
  have HS := Lib.hid (unwrap_sort k w)
  clear h
  have nF := noNoteF
  have nS := noNoteS
  go_enter Tryd.func21, Tryd.ntmps21
  go_wp2
  refine wp_loop_rounds 3 ?_
  rw [rounds_succ]
  go_wp2_with fail
  refine HF.out.mono ?_
  rintro e w' ⟨rfl, rfl⟩
  go_wp2_with fail
  rw [rounds_succ]
  go_wp2_with fail
  refine HS.out.mono ?_
  rintro e w' ⟨rfl, rfl⟩
  go_wp2_with fail
  rw [rounds_succ]
  go_wp2
  go_ret
  exact ⟨rfl, rfl⟩

/-- A fault at a place, bare. -/
theorem new_any (k at_ : Int) (w : World) (hk : (k == 0) = false) :
    Calls Tryd.prog 17 #[.int .i64 k, .int .i64 at_] w fun e w' => e = .returned (.iface 60 (.pointer (some ⟨w.heap.size, 0, none⟩))) ∧ w.alloc (.cells #[.int .i64 k, .int .i64 at_] 63) = w' := by
  go_enter Tryd.func17, Tryd.ntmps17
  go_wp2
  go_ret
  exact ⟨rfl, rfl⟩
end Go.Proofs.YtdlpeljdpnohlaaDoor
