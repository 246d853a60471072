/- errors.As over a note around a fault, at the two targets; the kind and the place of an error. -/
import Derived.Test.YtdlpeljdpnohlaaDoorFltFind
import Derived.Outline
namespace Go.Proofs.YtdlpeljdpnohlaaDoor
open Go.RowKit Go.Shelf Go.Extern

set_option maxRecDepth 100000 in
set_option maxHeartbeats 4000000 in
theorem As_PS (nb fb sb : Nat) (k : Int) (w : World) (h1 : w.cell? ⟨nb, 1, none⟩ = some (.iface 60 (.pointer (some ⟨fb, 0, none⟩)))) (h2 : w.cell? ⟨fb, 0, none⟩ = some (.int .i64 k))
    (hs : Blk w sb 57 #[.int .i64 0]) (hg : w.cell? ⟨0, 0, none⟩ = some (.iface 91 (.agg #[.pointer (some ⟨4, 32, none⟩)]))) :
    Calls Tryd.prog 19 #[.iface 67 (.pointer (some ⟨nb, 0, none⟩)), .iface 59 (.pointer (some ⟨sb, 0, none⟩))] w fun e w' =>
      e = .returned (.bool true) ∧ Blk w' sb 57 #[.int .i64 k] ∧ Below sb w w' := by
  have c24 := @run_callFunc_extern Tryd.prog 24 _ (fun args => ReflectliteValue.unpack (args.getD 0 (.tuple #[]))) Tryd.func24 (by kernel_rfl) (by kernel_rfl) (by kernel_rfl) (by kernel_rfl)
  have c25 := @run_callFunc_extern Tryd.prog 25 _ (ReflectliteValue.methodAny (ReflectliteValue.valueError "reflectlite.Value.Type" 0) (fun t _ _ _ => ReflectliteType.toType t)) Tryd.func25 (by kernel_rfl) (by kernel_rfl) (by kernel_rfl) (by kernel_rfl)
  have c26 := @run_callFunc_extern Tryd.prog 26 _ (ReflectliteValue.method (ReflectliteValue.valueError "reflectlite.Value.IsNil" 0) ReflectliteValue.isNil) Tryd.func26 (by kernel_rfl) (by kernel_rfl) (by kernel_rfl) (by kernel_rfl)
  have c68 := @run_callFunc_extern Tryd.prog 68 _ (ReflectliteType.abiMethod fun t => do pure (.int .u8 (← Rtype.kind t))) Tryd.func68 (by kernel_rfl) (by kernel_rfl) (by kernel_rfl) (by kernel_rfl)
  have c83 := @run_callFunc_extern Tryd.prog 83 _ (ReflectliteType.method ReflectliteType.elem) Tryd.func83 (by kernel_rfl) (by kernel_rfl) (by kernel_rfl) (by kernel_rfl)
  have c84 := @run_callFunc_extern Tryd.prog 84 _ (ReflectliteType.relation "Implements" ReflectliteType.implements_) Tryd.func84 (by kernel_rfl) (by kernel_rfl) (by kernel_rfl) (by kernel_rfl)
  have mK := methodKind
  have mE := methodElem
  have mI := methodImplements
  have vT := valueOfPS
  have yT := typePS
  have kT := kindPS
  have kE := kindS
  have eT := elemPS
  have iE := implementsS
  have hg0 : 0 < w.heap.size := World.block_lt_of_cell? w _ hg
  have n8 := isNilPS ⟨w.heap.size, 0, none⟩ ⟨sb, 0, none⟩ ((w.alloc (.cells #[.pointer (some ⟨sb, 0, none⟩)] 59)).alloc (.cells #[.pointer (some ⟨4, 59, none⟩), .pointer (some ⟨w.heap.size, 0, none⟩), .int .u64 150] 76)) (by rw [World.cell?_alloc_lt _ _ _ (by simp)]; exact World.cell?_alloc_at _ _ _ _ rfl)
  have hg2 : ((w.alloc (.cells #[.pointer (some ⟨sb, 0, none⟩)] 59)).alloc (.cells #[.pointer (some ⟨4, 59, none⟩), .pointer (some ⟨w.heap.size, 0, none⟩), .int .u64 150] 76)).cell? ⟨0, 0, none⟩ = some (.iface 91 (.agg #[.pointer (some ⟨4, 32, none⟩)])) := by
    rw [World.cell?_alloc_lt _ _ ⟨0, 0, none⟩ (by simp), World.cell?_alloc_lt _ _ ⟨0, 0, none⟩ hg0]; exact hg
  have B2 : Below w.heap.size w ((w.alloc (.cells #[.pointer (some ⟨sb, 0, none⟩)] 59)).alloc (.cells #[.pointer (some ⟨4, 59, none⟩), .pointer (some ⟨w.heap.size, 0, none⟩), .int .u64 150] 76)) := ((Below.refl _ _).alloc (Nat.le_refl _) _).alloc (by simp) _
  have hsb := hs.lt
  have C := Lib.hid (as_PS nb fb sb w.heap.size k (.iface 59 (.pointer (some ⟨sb, 0, none⟩))) _ (cell_later B2 h1) (cell_later B2 h2) (hs.keep B2) (by rw [World.cell?_alloc_lt _ _ _ (by simp)]; exact World.cell?_alloc_at _ _ _ _ rfl))
  clear hs h1 h2 B2 hg
  go_enter Tryd.func19, Tryd.ntmps19
  go_wp2_with fail
  refine C.out.mono ?_
  rintro e w' ⟨rfl, hk, hb⟩
  have HK := Lib.hid hk
  have HB := Lib.hid hb
  clear hk hb
  go_wp2_with fail
  go_ret
  exact ⟨rfl, HK.out, (((Below.refl _ _).alloc (by omega) _).alloc (by simp; omega) _).trans HB.out⟩

set_option maxRecDepth 100000 in
set_option maxHeartbeats 4000000 in
theorem As_PF (nb fb sb : Nat) (k : Int) (w : World) (h1 : w.cell? ⟨nb, 1, none⟩ = some (.iface 60 (.pointer (some ⟨fb, 0, none⟩)))) (h2 : w.cell? ⟨fb, 0, none⟩ = some (.int .i64 k))
    (hs : Blk w sb 60 #[.pointer none]) (hg : w.cell? ⟨0, 0, none⟩ = some (.iface 91 (.agg #[.pointer (some ⟨4, 32, none⟩)]))) :
    Calls Tryd.prog 19 #[.iface 67 (.pointer (some ⟨nb, 0, none⟩)), .iface 61 (.pointer (some ⟨sb, 0, none⟩))] w fun e w' =>
      e = .returned (.bool true) ∧ Blk w' sb 60 #[.pointer (some ⟨fb, 0, none⟩)] ∧ Below sb w w' := by
  have c24 := @run_callFunc_extern Tryd.prog 24 _ (fun args => ReflectliteValue.unpack (args.getD 0 (.tuple #[]))) Tryd.func24 (by kernel_rfl) (by kernel_rfl) (by kernel_rfl) (by kernel_rfl)
  have c25 := @run_callFunc_extern Tryd.prog 25 _ (ReflectliteValue.methodAny (ReflectliteValue.valueError "reflectlite.Value.Type" 0) (fun t _ _ _ => ReflectliteType.toType t)) Tryd.func25 (by kernel_rfl) (by kernel_rfl) (by kernel_rfl) (by kernel_rfl)
  have c26 := @run_callFunc_extern Tryd.prog 26 _ (ReflectliteValue.method (ReflectliteValue.valueError "reflectlite.Value.IsNil" 0) ReflectliteValue.isNil) Tryd.func26 (by kernel_rfl) (by kernel_rfl) (by kernel_rfl) (by kernel_rfl)
  have c68 := @run_callFunc_extern Tryd.prog 68 _ (ReflectliteType.abiMethod fun t => do pure (.int .u8 (← Rtype.kind t))) Tryd.func68 (by kernel_rfl) (by kernel_rfl) (by kernel_rfl) (by kernel_rfl)
  have c83 := @run_callFunc_extern Tryd.prog 83 _ (ReflectliteType.method ReflectliteType.elem) Tryd.func83 (by kernel_rfl) (by kernel_rfl) (by kernel_rfl) (by kernel_rfl)
  have c84 := @run_callFunc_extern Tryd.prog 84 _ (ReflectliteType.relation "Implements" ReflectliteType.implements_) Tryd.func84 (by kernel_rfl) (by kernel_rfl) (by kernel_rfl) (by kernel_rfl)
  have mK := methodKind
  have mE := methodElem
  have mI := methodImplements
  have vT := valueOfPF
  have yT := typePF
  have kT := kindPF
  have kE := kindF
  have eT := elemPF
  have iE := implementsF
  have hg0 : 0 < w.heap.size := World.block_lt_of_cell? w _ hg
  have n8 := isNilPF ⟨w.heap.size, 0, none⟩ ⟨sb, 0, none⟩ ((w.alloc (.cells #[.pointer (some ⟨sb, 0, none⟩)] 61)).alloc (.cells #[.pointer (some ⟨4, 61, none⟩), .pointer (some ⟨w.heap.size, 0, none⟩), .int .u64 150] 76)) (by rw [World.cell?_alloc_lt _ _ _ (by simp)]; exact World.cell?_alloc_at _ _ _ _ rfl)
  have hg2 : ((w.alloc (.cells #[.pointer (some ⟨sb, 0, none⟩)] 61)).alloc (.cells #[.pointer (some ⟨4, 61, none⟩), .pointer (some ⟨w.heap.size, 0, none⟩), .int .u64 150] 76)).cell? ⟨0, 0, none⟩ = some (.iface 91 (.agg #[.pointer (some ⟨4, 32, none⟩)])) := by
    rw [World.cell?_alloc_lt _ _ ⟨0, 0, none⟩ (by simp), World.cell?_alloc_lt _ _ ⟨0, 0, none⟩ hg0]; exact hg
  have B2 : Below w.heap.size w ((w.alloc (.cells #[.pointer (some ⟨sb, 0, none⟩)] 61)).alloc (.cells #[.pointer (some ⟨4, 61, none⟩), .pointer (some ⟨w.heap.size, 0, none⟩), .int .u64 150] 76)) := ((Below.refl _ _).alloc (Nat.le_refl _) _).alloc (by simp) _
  have hsb := hs.lt
  have C := Lib.hid (as_PF nb fb sb w.heap.size k (.iface 61 (.pointer (some ⟨sb, 0, none⟩))) _ (cell_later B2 h1) (cell_later B2 h2) (hs.keep B2) (by rw [World.cell?_alloc_lt _ _ _ (by simp)]; exact World.cell?_alloc_at _ _ _ _ rfl))
  clear hs h1 h2 B2 hg
  go_enter Tryd.func19, Tryd.ntmps19
  go_wp2_with fail
  refine C.out.mono ?_
  rintro e w' ⟨rfl, hk, hb⟩
  have HK := Lib.hid hk
  have HB := Lib.hid hb
  clear hk hb
  go_wp2_with fail
  go_ret
  exact ⟨rfl, HK.out, (((Below.refl _ _).alloc (by omega) _).alloc (by simp; omega) _).trans HB.out⟩

end Go.Proofs.YtdlpeljdpnohlaaDoor
