/- errors.As, errors.Is over a note around a fault. -/
import Derived.Test.YtdlpeljdpnohlaaDoorFltErr
import Derived.RowKitTokens
import Derived.Outline
namespace Go.Proofs.YtdlpeljdpnohlaaDoor
open Go.RowKit Go.Shelf Go.Extern

/-! What reflectlite says of the types that are met (after the guide's worked example on errors.As). -/
theorem rlm (z : Sem Value) (f : TypeId → Addr → Nat → Nat → Sem Value) (v : Value) :
    ReflectliteValue.method z f #[v] = (do match ← ReflectliteValue.parts v with | none => z | some (t, a, fl) => f t a fl (fl % 32)) := rfl
theorem rls (v x : Value) : ReflectliteValue.set #[v, x] = (do
    let (some (dst, a, fl), some (src, b, _)) := (← ReflectliteValue.parts v, ← ReflectliteValue.parts x)
      | unsupported (.noEntry "extern/(internal/reflectlite.Value).Set.zeroValue")
    if fl / ReflectliteValue.flagAddr % 2 == 0 then unsupported (.noEntry "extern/(internal/reflectlite.Value).Set.unaddressable")
    let val ← loadVar src b
    if ← Rtype.directlyAssignable dst src then storeVar dst a val
    else if ← Rtype.implements dst src then
      if (← Rtype.kind src) == 20 then
        match val with
        | .nilIface => unsupported (.noEntry "extern/reflectlite: a nil value of one interface type handed on as a value of another")
        | _ => storeVar dst a val
      else storeVar dst a (.iface src val)
    else panicString ("reflectlite.Set: value of type " ++ (← Rtype.spelt src) ++ " is not assignable to type " ++ (← Rtype.spelt dst))
    pure (.tuple #[])) := rfl
theorem typeOfN (v : Value) (w : World) : (ReflectliteType.typeOf #[.iface 67 v]).run Tryd.prog w = .ok (.iface 91 (.agg #[.pointer (some ⟨4, 67, none⟩)])) w := by kernel_rfl
theorem assignNS (w : World) : (ReflectliteType.relation "AssignableTo" ReflectliteType.assignableTo #[.agg #[.pointer (some ⟨4, 67, none⟩)], .iface 91 (.agg #[.pointer (some ⟨4, 57, none⟩)])]).run Tryd.prog w = .ok (.bool false) w := by kernel_rfl
theorem assignNF (w : World) : (ReflectliteType.relation "AssignableTo" ReflectliteType.assignableTo #[.agg #[.pointer (some ⟨4, 67, none⟩)], .iface 91 (.agg #[.pointer (some ⟨4, 60, none⟩)])]).run Tryd.prog w = .ok (.bool false) w := by kernel_rfl
theorem typeOfF (v : Value) (w : World) : (ReflectliteType.typeOf #[.iface 60 v]).run Tryd.prog w = .ok (.iface 91 (.agg #[.pointer (some ⟨4, 60, none⟩)])) w := by kernel_rfl
theorem assignFS (w : World) : (ReflectliteType.relation "AssignableTo" ReflectliteType.assignableTo #[.agg #[.pointer (some ⟨4, 60, none⟩)], .iface 91 (.agg #[.pointer (some ⟨4, 57, none⟩)])]).run Tryd.prog w = .ok (.bool false) w := by kernel_rfl
theorem assignFF (w : World) : (ReflectliteType.relation "AssignableTo" ReflectliteType.assignableTo #[.agg #[.pointer (some ⟨4, 60, none⟩)], .iface 91 (.agg #[.pointer (some ⟨4, 60, none⟩)])]).run Tryd.prog w = .ok (.bool true) w := by kernel_rfl
theorem typeOfS (v : Value) (w : World) : (ReflectliteType.typeOf #[.iface 57 v]).run Tryd.prog w = .ok (.iface 91 (.agg #[.pointer (some ⟨4, 57, none⟩)])) w := by kernel_rfl
theorem assignSS (w : World) : (ReflectliteType.relation "AssignableTo" ReflectliteType.assignableTo #[.agg #[.pointer (some ⟨4, 57, none⟩)], .iface 91 (.agg #[.pointer (some ⟨4, 57, none⟩)])]).run Tryd.prog w = .ok (.bool true) w := by kernel_rfl
theorem assignSF (w : World) : (ReflectliteType.relation "AssignableTo" ReflectliteType.assignableTo #[.agg #[.pointer (some ⟨4, 57, none⟩)], .iface 91 (.agg #[.pointer (some ⟨4, 60, none⟩)])]).run Tryd.prog w = .ok (.bool false) w := by kernel_rfl
theorem valueOfPS (t : Addr) (w : World) : (ReflectliteValue.unpack (.iface 59 (.pointer (some t)))).run Tryd.prog w = .ok (.agg #[.pointer (some ⟨4, 59, none⟩), .pointer (some ⟨w.heap.size, 0, none⟩), .int .u64 150]) (w.alloc (.cells #[.pointer (some t)] 59)) := by kernel_rfl
theorem valueOfS (k : Int) (w : World) : (ReflectliteValue.unpack (.iface 57 (.int .i64 k))).run Tryd.prog w = .ok (.agg #[.pointer (some ⟨4, 57, none⟩), .pointer (some ⟨w.heap.size, 0, none⟩), .int .u64 130]) (w.alloc (.cells #[.int .i64 k] 57)) := by kernel_rfl
theorem typePS (a : Addr) (w : World) : (ReflectliteValue.methodAny (ReflectliteValue.valueError "reflectlite.Value.Type" 0) (fun t _ _ _ => ReflectliteType.toType t) #[.agg #[.pointer (some ⟨4, 59, none⟩), .pointer (some a), .int .u64 150]]).run Tryd.prog w = .ok (.iface 91 (.agg #[.pointer (some ⟨4, 59, none⟩)])) w := by kernel_rfl
theorem kindPS (w : World) : ((ReflectliteType.abiMethod fun t => (fun a : Nat => Value.int IntKind.u8 (a : Int)) <$> Rtype.kind t) #[.pointer (some ⟨4, 59, none⟩)]).run Tryd.prog w = .ok (.int .u8 22) w := by kernel_rfl
theorem kindS (w : World) : ((ReflectliteType.abiMethod fun t => (fun a : Nat => Value.int IntKind.u8 (a : Int)) <$> Rtype.kind t) #[.pointer (some ⟨4, 57, none⟩)]).run Tryd.prog w = .ok (.int .u8 2) w := by kernel_rfl
theorem partsPS (a : Addr) (w : World) : (ReflectliteValue.parts (.agg #[.pointer (some ⟨4, 59, none⟩), .pointer (some a), .int .u64 150])).run Tryd.prog w = .ok (some (59, a, 150)) w := by kernel_rfl
theorem isNilPS (a p : Addr) (W : World) (ha : W.cell? a = some (.pointer (some p))) :
    (ReflectliteValue.method (ReflectliteValue.valueError "reflectlite.Value.IsNil" 0) ReflectliteValue.isNil #[.agg #[.pointer (some ⟨4, 59, none⟩), .pointer (some a), .int .u64 150]]).run Tryd.prog W = .ok (.bool false) W := by
  rw [rlm]
  simp only [Sem.run_bind, partsPS, Result.andThen]
  simp [ReflectliteValue.isNil, loadVar, isAgg, underlying, Tryd.underlying59, ha, Result.andThen]
theorem elemPS (w : World) : (ReflectliteType.method ReflectliteType.elem #[.agg #[.pointer (some ⟨4, 59, none⟩)]]).run Tryd.prog w = .ok (.iface 91 (.agg #[.pointer (some ⟨4, 57, none⟩)])) w := by kernel_rfl
theorem implementsS (w : World) : (ReflectliteType.relation "Implements" ReflectliteType.implements_ #[.agg #[.pointer (some ⟨4, 57, none⟩)], .iface 91 (.agg #[.pointer (some ⟨4, 32, none⟩)])]).run Tryd.prog w = .ok (.bool true) w := by kernel_rfl
theorem elemOfPS (w : World) : (Rtype.elem? 59).run Tryd.prog w = .ok (some 57) w := by kernel_rfl
theorem mkS (p : Addr) (w : World) : (ReflectliteValue.mk 57 p ReflectliteValue.flagAddr).run Tryd.prog w = .ok (.agg #[.pointer (some ⟨4, 57, none⟩), .pointer (some p), .int .u64 386]) w := by kernel_rfl
theorem elemVPS (a p : Addr) (W : World) (ha : W.cell? a = some (.pointer (some p))) :
    (ReflectliteValue.method (ReflectliteValue.valueError "reflectlite.Value.Elem" 0) ReflectliteValue.elem #[.agg #[.pointer (some ⟨4, 59, none⟩), .pointer (some a), .int .u64 150]]).run Tryd.prog W
      = .ok (.agg #[.pointer (some ⟨4, 57, none⟩), .pointer (some p), .int .u64 386]) W := by
  rw [rlm]
  simp only [Sem.run_bind, partsPS, Result.andThen]
  simp [ReflectliteValue.elem, loadVar, isAgg, underlying, Tryd.underlying59, ha, Result.andThen, elemOfPS, mkS]
theorem partsSa (a : Addr) (w : World) : (ReflectliteValue.parts (.agg #[.pointer (some ⟨4, 57, none⟩), .pointer (some a), .int .u64 386])).run Tryd.prog w = .ok (some (57, a, 386)) w := by kernel_rfl
theorem partsS (a : Addr) (w : World) : (ReflectliteValue.parts (.agg #[.pointer (some ⟨4, 57, none⟩), .pointer (some a), .int .u64 130])).run Tryd.prog w = .ok (some (57, a, 130)) w := by kernel_rfl
theorem directS (w : World) : (Rtype.directlyAssignable 57 57).run Tryd.prog w = .ok true w := by kernel_rfl
theorem setS (ta b : Addr) (k : Int) (old : Value) (W : World) (hb : W.cell? b = some (.int .i64 k)) (ht : W.cell? ta = some old) (hf : W.frozen? ta = false) :
    (ReflectliteValue.set #[.agg #[.pointer (some ⟨4, 57, none⟩), .pointer (some ta), .int .u64 386], .agg #[.pointer (some ⟨4, 57, none⟩), .pointer (some b), .int .u64 130]]).run Tryd.prog W
      = .ok (.tuple #[]) (W.setCell ta (.int .i64 k)) := by
  rw [rls]
  simp only [Sem.run_bind, partsSa, partsS, Result.andThen]
  simp [ReflectliteValue.flagAddr, loadVar, hb, Result.andThen, directS, storeVar, Value.cells, storeCells, Addr.add]
  rw [run_store Tryd.prog W ta _ _ (by rfl)]
  simp [ht, hf]

theorem valueOfPF (t : Addr) (w : World) : (ReflectliteValue.unpack (.iface 61 (.pointer (some t)))).run Tryd.prog w = .ok (.agg #[.pointer (some ⟨4, 61, none⟩), .pointer (some ⟨w.heap.size, 0, none⟩), .int .u64 150]) (w.alloc (.cells #[.pointer (some t)] 61)) := by kernel_rfl
theorem valueOfF (k : Addr) (w : World) : (ReflectliteValue.unpack (.iface 60 (.pointer (some k)))).run Tryd.prog w = .ok (.agg #[.pointer (some ⟨4, 60, none⟩), .pointer (some ⟨w.heap.size, 0, none⟩), .int .u64 150]) (w.alloc (.cells #[.pointer (some k)] 60)) := by kernel_rfl
theorem typePF (a : Addr) (w : World) : (ReflectliteValue.methodAny (ReflectliteValue.valueError "reflectlite.Value.Type" 0) (fun t _ _ _ => ReflectliteType.toType t) #[.agg #[.pointer (some ⟨4, 61, none⟩), .pointer (some a), .int .u64 150]]).run Tryd.prog w = .ok (.iface 91 (.agg #[.pointer (some ⟨4, 61, none⟩)])) w := by kernel_rfl
theorem kindPF (w : World) : ((ReflectliteType.abiMethod fun t => (fun a : Nat => Value.int IntKind.u8 (a : Int)) <$> Rtype.kind t) #[.pointer (some ⟨4, 61, none⟩)]).run Tryd.prog w = .ok (.int .u8 22) w := by kernel_rfl
theorem kindF (w : World) : ((ReflectliteType.abiMethod fun t => (fun a : Nat => Value.int IntKind.u8 (a : Int)) <$> Rtype.kind t) #[.pointer (some ⟨4, 60, none⟩)]).run Tryd.prog w = .ok (.int .u8 22) w := by kernel_rfl
theorem partsPF (a : Addr) (w : World) : (ReflectliteValue.parts (.agg #[.pointer (some ⟨4, 61, none⟩), .pointer (some a), .int .u64 150])).run Tryd.prog w = .ok (some (61, a, 150)) w := by kernel_rfl
theorem isNilPF (a p : Addr) (W : World) (ha : W.cell? a = some (.pointer (some p))) :
    (ReflectliteValue.method (ReflectliteValue.valueError "reflectlite.Value.IsNil" 0) ReflectliteValue.isNil #[.agg #[.pointer (some ⟨4, 61, none⟩), .pointer (some a), .int .u64 150]]).run Tryd.prog W = .ok (.bool false) W := by
  rw [rlm]
  simp only [Sem.run_bind, partsPF, Result.andThen]
  simp [ReflectliteValue.isNil, loadVar, isAgg, underlying, Tryd.underlying61, ha, Result.andThen]
theorem elemPF (w : World) : (ReflectliteType.method ReflectliteType.elem #[.agg #[.pointer (some ⟨4, 61, none⟩)]]).run Tryd.prog w = .ok (.iface 91 (.agg #[.pointer (some ⟨4, 60, none⟩)])) w := by kernel_rfl
theorem implementsF (w : World) : (ReflectliteType.relation "Implements" ReflectliteType.implements_ #[.agg #[.pointer (some ⟨4, 60, none⟩)], .iface 91 (.agg #[.pointer (some ⟨4, 32, none⟩)])]).run Tryd.prog w = .ok (.bool true) w := by kernel_rfl
theorem elemOfPF (w : World) : (Rtype.elem? 61).run Tryd.prog w = .ok (some 60) w := by kernel_rfl
theorem mkF (p : Addr) (w : World) : (ReflectliteValue.mk 60 p ReflectliteValue.flagAddr).run Tryd.prog w = .ok (.agg #[.pointer (some ⟨4, 60, none⟩), .pointer (some p), .int .u64 406]) w := by kernel_rfl
theorem elemVPF (a p : Addr) (W : World) (ha : W.cell? a = some (.pointer (some p))) :
    (ReflectliteValue.method (ReflectliteValue.valueError "reflectlite.Value.Elem" 0) ReflectliteValue.elem #[.agg #[.pointer (some ⟨4, 61, none⟩), .pointer (some a), .int .u64 150]]).run Tryd.prog W
      = .ok (.agg #[.pointer (some ⟨4, 60, none⟩), .pointer (some p), .int .u64 406]) W := by
  rw [rlm]
  simp only [Sem.run_bind, partsPF, Result.andThen]
  simp [ReflectliteValue.elem, loadVar, isAgg, underlying, Tryd.underlying61, ha, Result.andThen, elemOfPF, mkF]
theorem partsFa (a : Addr) (w : World) : (ReflectliteValue.parts (.agg #[.pointer (some ⟨4, 60, none⟩), .pointer (some a), .int .u64 406])).run Tryd.prog w = .ok (some (60, a, 406)) w := by kernel_rfl
theorem partsF (a : Addr) (w : World) : (ReflectliteValue.parts (.agg #[.pointer (some ⟨4, 60, none⟩), .pointer (some a), .int .u64 150])).run Tryd.prog w = .ok (some (60, a, 150)) w := by kernel_rfl
theorem directF (w : World) : (Rtype.directlyAssignable 60 60).run Tryd.prog w = .ok true w := by kernel_rfl
theorem setF (ta b : Addr) (k : Addr) (old : Value) (W : World) (hb : W.cell? b = some (.pointer (some k))) (ht : W.cell? ta = some old) (hf : W.frozen? ta = false) :
    (ReflectliteValue.set #[.agg #[.pointer (some ⟨4, 60, none⟩), .pointer (some ta), .int .u64 406], .agg #[.pointer (some ⟨4, 60, none⟩), .pointer (some b), .int .u64 150]]).run Tryd.prog W
      = .ok (.tuple #[]) (W.setCell ta (.pointer (some k))) := by
  rw [rls]
  simp only [Sem.run_bind, partsFa, partsF, Result.andThen]
  simp [ReflectliteValue.flagAddr, loadVar, hb, Result.andThen, directF, storeVar, Value.cells, storeCells, Addr.add]
  rw [run_store Tryd.prog W ta _ _ (by rfl)]
  simp [ht, hf]

theorem methodKind (h : Value) (w : World) : (Go.method 256 91 (.agg #[h]) "Kind").run Tryd.prog w = .ok (68, h) w := by kernel_rfl
theorem methodElem (h : Value) (w : World) : (Go.method 256 91 (.agg #[h]) "Elem").run Tryd.prog w = .ok (83, .agg #[h]) w := by kernel_rfl
theorem methodImplements (h : Value) (w : World) : (Go.method 256 91 (.agg #[h]) "Implements").run Tryd.prog w = .ok (84, .agg #[h]) w := by kernel_rfl
theorem methodAssignableTo (h : Value) (w : World) : (Go.method 256 91 (.agg #[h]) "AssignableTo").run Tryd.prog w = .ok (81, .agg #[h]) w := by kernel_rfl
theorem methodComparable (h : Value) (w : World) : (Go.method 256 91 (.agg #[h]) "Comparable").run Tryd.prog w = .ok (82, .agg #[h]) w := by kernel_rfl
theorem methodUnwrapN (v : Value) (w : World) : (Go.method 256 67 v "Unwrap").run Tryd.prog w = .ok (76, v) w := by kernel_rfl
theorem methodUnwrapF (v : Value) (w : World) : (Go.method 256 60 v "Unwrap").run Tryd.prog w = .ok (74, v) w := by kernel_rfl

/-- An error: a note around a fault of kind k at a place. -/
def IsErr (w : World) (v : Value) (k at_ : Int) : Prop :=
  ∃ nb fb, v = .iface 67 (.pointer (some ⟨nb, 0, none⟩)) ∧ w.cell? ⟨nb, 1, none⟩ = some (.iface 60 (.pointer (some ⟨fb, 0, none⟩))) ∧
    w.cell? ⟨fb, 0, none⟩ = some (.int .i64 k) ∧ w.cell? ⟨fb, 1, none⟩ = some (.int .i64 at_)
theorem IsErr.below {w w' : World} {v : Value} {k at_ : Int} (h : IsErr w v k at_) (hb : Below w.heap.size w w') : IsErr w' v k at_ := by
  obtain ⟨nb, fb, h1, h2, h3, h4⟩ := h
  exact ⟨nb, fb, h1, cell_later hb h2, cell_later hb h3, cell_later hb h4⟩

theorem note_unwrap (nb : Nat) (v : Value) (w : World) (h : w.cell? ⟨nb, 1, none⟩ = some v) :
    Calls Tryd.prog 76 #[.pointer (some ⟨nb, 0, none⟩)] w fun e w' => e = .returned v ∧ w = w' := by
  go_enter Tryd.func76, Tryd.ntmps76
  go_wp2
  go_ret
  exact ⟨rfl, rfl⟩
theorem fault_unwrap (fb : Nat) (k : Int) (w : World) (h : w.cell? ⟨fb, 0, none⟩ = some (.int .i64 k)) :
    Calls Tryd.prog 74 #[.pointer (some ⟨fb, 0, none⟩)] w fun e w' => e = .returned (.iface 57 (.int .i64 k)) ∧ w = w' := by
  go_enter Tryd.func74, Tryd.ntmps74
  go_wp2
  go_ret
  exact ⟨rfl, rfl⟩

set_option maxRecDepth 100000 in
set_option maxHeartbeats 4000000 in
theorem as_PS (nb fb sb vb : Nat) (k : Int) (x2 : Value) (w : World) (h1 : w.cell? ⟨nb, 1, none⟩ = some (.iface 60 (.pointer (some ⟨fb, 0, none⟩)))) (h2 : w.cell? ⟨fb, 0, none⟩ = some (.int .i64 k))
    (hs : Blk w sb 57 #[.int .i64 0]) (hvb : w.cell? ⟨vb, 0, none⟩ = some (.pointer (some ⟨sb, 0, none⟩))) :
    Calls Tryd.prog 27 #[.iface 67 (.pointer (some ⟨nb, 0, none⟩)), x2, .agg #[.pointer (some ⟨4, 59, none⟩), .pointer (some ⟨vb, 0, none⟩), .int .u64 150], .iface 91 (.agg #[.pointer (some ⟨4, 57, none⟩)])] w fun e w' =>
      e = .returned (.bool true) ∧ Blk w' sb 57 #[.int .i64 k] ∧ Below sb w w' := by
  have c28 := @run_callFunc_extern Tryd.prog 28 _ ReflectliteType.typeOf Tryd.func28 (by kernel_rfl) (by kernel_rfl) (by kernel_rfl) (by kernel_rfl)
  have c81 := @run_callFunc_extern Tryd.prog 81 _ (ReflectliteType.relation "AssignableTo" ReflectliteType.assignableTo) Tryd.func81 (by kernel_rfl) (by kernel_rfl) (by kernel_rfl) (by kernel_rfl)
  have c24 := @run_callFunc_extern Tryd.prog 24 _ (fun args => ReflectliteValue.unpack (args.getD 0 (.tuple #[]))) Tryd.func24 (by kernel_rfl) (by kernel_rfl) (by kernel_rfl) (by kernel_rfl)
  have c32 := @run_callFunc_extern Tryd.prog 32 _ (ReflectliteValue.method (ReflectliteValue.valueError "reflectlite.Value.Elem" 0) ReflectliteValue.elem) Tryd.func32 (by kernel_rfl) (by kernel_rfl) (by kernel_rfl) (by kernel_rfl)
  have c33 := @run_callFunc_extern Tryd.prog 33 _ ReflectliteValue.set Tryd.func33 (by kernel_rfl) (by kernel_rfl) (by kernel_rfl) (by kernel_rfl)
  have mA := methodAssignableTo
  have mN := methodUnwrapN
  have mF := methodUnwrapF
  have tN := typeOfN
  have tF := typeOfF
  have tS := typeOfS
  have aN := assignNS
  have aF := assignFS
  have aS := assignSS
  have nN := noAsN
  have nF := noAsF
  have uN := hasUnwrapN
  have uF := hasUnwrapF
  have vO := valueOfS
  have hsb := hs.lt
  have hvl : vb < w.heap.size := World.block_lt_of_cell? w _ hvb
  have el := elemVPS ⟨vb, 0, none⟩ ⟨sb, 0, none⟩ (w.alloc (.cells #[.pointer (some ⟨4, 59, none⟩), .pointer (some ⟨vb, 0, none⟩), .int .u64 150] 76)) (by rw [World.cell?_alloc_lt _ _ ⟨vb, 0, none⟩ hvl]; exact hvb)
  have st := setS ⟨sb, 0, none⟩ ⟨w.heap.size + 1, 0, none⟩ k (.int .i64 0) ((w.alloc (.cells #[.pointer (some ⟨4, 59, none⟩), .pointer (some ⟨vb, 0, none⟩), .int .u64 150] 76)).alloc (.cells #[.int .i64 k] 57))
    (by rw [World.cell?_alloc_at _ _ _ _ (by simp)]; rfl)
    (((hs.alloc _).alloc _).cell 0) (((hs.alloc _).alloc _).frozen 0)
  have U0 := Lib.hid (note_unwrap nb _ _ ((World.cell?_alloc_lt w (.cells #[.pointer (some ⟨4, 59, none⟩), .pointer (some ⟨vb, 0, none⟩), .int .u64 150] 76) _ (World.block_lt_of_cell? w _ h1)).trans h1))
  have U1 := Lib.hid (fault_unwrap fb k _ ((World.cell?_alloc_lt w (.cells #[.pointer (some ⟨4, 59, none⟩), .pointer (some ⟨vb, 0, none⟩), .int .u64 150] 76) _ (World.block_lt_of_cell? w _ h2)).trans h2))
  have HS := Lib.hid hs
  have HSB := Lib.hid hsb
  clear hs hvb h1 h2
  go_enter Tryd.func27, Tryd.ntmps27
  go_wp2_with fail
  refine wp_loop_rounds 3 ?_
  rw [rounds_succ]
  go_wp2_with fail
  refine U0.out.mono ?_
  rintro e w' ⟨rfl, rfl⟩
  go_wp2_with fail
  rw [rounds_succ]
  go_wp2_with fail
  refine U1.out.mono ?_
  rintro e w' ⟨rfl, rfl⟩
  go_wp2_with fail
  rw [rounds_succ]
  go_wp2
  go_ret
  exact ⟨rfl, ((HS.out.set_ 0 _).alloc _).alloc _, (((Below.refl _ _).setCell (by exact Nat.le_refl _) _).alloc (by have := HSB.out; simp; omega) _).alloc (by have := HSB.out; simp; omega) _⟩

set_option maxRecDepth 100000 in
set_option maxHeartbeats 4000000 in
theorem as_PF (nb fb sb vb : Nat) (k : Int) (x2 : Value) (w : World) (h1 : w.cell? ⟨nb, 1, none⟩ = some (.iface 60 (.pointer (some ⟨fb, 0, none⟩)))) (h2 : w.cell? ⟨fb, 0, none⟩ = some (.int .i64 k))
    (hs : Blk w sb 60 #[.pointer none]) (hvb : w.cell? ⟨vb, 0, none⟩ = some (.pointer (some ⟨sb, 0, none⟩))) :
    Calls Tryd.prog 27 #[.iface 67 (.pointer (some ⟨nb, 0, none⟩)), x2, .agg #[.pointer (some ⟨4, 61, none⟩), .pointer (some ⟨vb, 0, none⟩), .int .u64 150], .iface 91 (.agg #[.pointer (some ⟨4, 60, none⟩)])] w fun e w' =>
      e = .returned (.bool true) ∧ Blk w' sb 60 #[.pointer (some ⟨fb, 0, none⟩)] ∧ Below sb w w' := by
  have c28 := @run_callFunc_extern Tryd.prog 28 _ ReflectliteType.typeOf Tryd.func28 (by kernel_rfl) (by kernel_rfl) (by kernel_rfl) (by kernel_rfl)
  have c81 := @run_callFunc_extern Tryd.prog 81 _ (ReflectliteType.relation "AssignableTo" ReflectliteType.assignableTo) Tryd.func81 (by kernel_rfl) (by kernel_rfl) (by kernel_rfl) (by kernel_rfl)
  have c24 := @run_callFunc_extern Tryd.prog 24 _ (fun args => ReflectliteValue.unpack (args.getD 0 (.tuple #[]))) Tryd.func24 (by kernel_rfl) (by kernel_rfl) (by kernel_rfl) (by kernel_rfl)
  have c32 := @run_callFunc_extern Tryd.prog 32 _ (ReflectliteValue.method (ReflectliteValue.valueError "reflectlite.Value.Elem" 0) ReflectliteValue.elem) Tryd.func32 (by kernel_rfl) (by kernel_rfl) (by kernel_rfl) (by kernel_rfl)
  have c33 := @run_callFunc_extern Tryd.prog 33 _ ReflectliteValue.set Tryd.func33 (by kernel_rfl) (by kernel_rfl) (by kernel_rfl) (by kernel_rfl)
  have mA := methodAssignableTo
  have mN := methodUnwrapN
  have mF := methodUnwrapF
  have tN := typeOfN
  have tF := typeOfF
  have tS := typeOfS
  have aN := assignNF
  have aF := assignFF
  have aS := assignSF
  have nN := noAsN
  have nF := noAsF
  have uN := hasUnwrapN
  have uF := hasUnwrapF
  have vO := valueOfF
  have hsb := hs.lt
  have hvl : vb < w.heap.size := World.block_lt_of_cell? w _ hvb
  have el := elemVPF ⟨vb, 0, none⟩ ⟨sb, 0, none⟩ (w.alloc (.cells #[.pointer (some ⟨4, 61, none⟩), .pointer (some ⟨vb, 0, none⟩), .int .u64 150] 76)) (by rw [World.cell?_alloc_lt _ _ ⟨vb, 0, none⟩ hvl]; exact hvb)
  have st := setF ⟨sb, 0, none⟩ ⟨w.heap.size + 1, 0, none⟩ ⟨fb, 0, none⟩ (.pointer none) ((w.alloc (.cells #[.pointer (some ⟨4, 61, none⟩), .pointer (some ⟨vb, 0, none⟩), .int .u64 150] 76)).alloc (.cells #[.pointer (some ⟨fb, 0, none⟩)] 60))
    (by rw [World.cell?_alloc_at _ _ _ _ (by simp)]; rfl)
    (((hs.alloc _).alloc _).cell 0) (((hs.alloc _).alloc _).frozen 0)
  have U0 := Lib.hid (note_unwrap nb _ _ ((World.cell?_alloc_lt w (.cells #[.pointer (some ⟨4, 61, none⟩), .pointer (some ⟨vb, 0, none⟩), .int .u64 150] 76) _ (World.block_lt_of_cell? w _ h1)).trans h1))
  have U1 := Lib.hid (fault_unwrap fb k _ ((World.cell?_alloc_lt w (.cells #[.pointer (some ⟨4, 61, none⟩), .pointer (some ⟨vb, 0, none⟩), .int .u64 150] 76) _ (World.block_lt_of_cell? w _ h2)).trans h2))
  have HS := Lib.hid hs
  have HSB := Lib.hid hsb
  clear hs hvb h1 h2
  go_enter Tryd.func27, Tryd.ntmps27
  go_wp2_with fail
  refine wp_loop_rounds 2 ?_
  rw [rounds_succ]
  go_wp2_with fail
  refine U0.out.mono ?_
  rintro e w' ⟨rfl, rfl⟩
  go_wp2_with fail
  rw [rounds_succ]
  go_wp2
  go_ret
  exact ⟨rfl, ((HS.out.set_ 0 _).alloc _).alloc _, (((Below.refl _ _).setCell (by exact Nat.le_refl _) _).alloc (by have := HSB.out; simp; omega) _).alloc (by have := HSB.out; simp; omega) _⟩

end Go.Proofs.YtdlpeljdpnohlaaDoor
