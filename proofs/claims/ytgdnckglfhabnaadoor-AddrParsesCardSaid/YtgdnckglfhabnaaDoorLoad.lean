/- Loads and stores of a whole struct or array, of a part of a block, of one field: of blocks that are known whole. Plain laws. -/
import Derived.Test.YtgdnckglfhabnaaDoorBase
import Derived.Laws.Rows
import Derived.Laws.CopyOwn
import Derived.Deep.MidRow
import Derived.BigFrame
namespace Go.Proofs.YtgdnckglfhabnaaDoor
open Go.RowKit

section
variable {P : Program} {ops : Array Oper} {rest : List Oper} {o : Oper} {a : Act} {w : World} {Q : Exit → Act → World → Prop}

/-- The store whose operands are named: a guard for an arm. -/
theorem at_store {dst : Option Tmp} {t : TypeId} {ps : String} {af : Array Edge} {gd : Option (Nat × Bool)} (ty : TypeId) (x y : Operand) (h : wpList P ops Q ({ dst := dst, op := .store ty x y, type := t, pos := ps, after := af, guard := gd } :: rest) a w) :
    wpList P ops Q ({ dst := dst, op := .store ty x y, type := t, pos := ps, after := af, guard := gd } :: rest) a w := h

/-- A load that may be guarded. -/
theorem wpList_load_blk (ty : TypeId) (x : Operand)
    (g : Nat) (t : TypeId) (cs : Array Value) (d : TypeDesc) (hg : Blk w g t cs) (ho : o.op = .load ty x) (hx : a.eval x = .pointer (some ⟨g, 0, none⟩))
    (hu : P.underlying ty = some d) (hd : (match d with | .struct _ | .array _ _ => true | _ => false) = true) (hi : (P.info? ty).map (·.size) = some cs.size)
    (hw : Region.wanted o (yielded ops a.tmps) = true) (h : wpList P ops Q rest (a.put o.dst (.agg cs)) w) : wpList P ops Q (o :: rest) a w :=
  BigFrame.wpList_want hw fun _ hK => wp_load_row ty x ho g hx t cs (0, 0) d hg hu hd hi (hK _ _ h)

theorem Blk.range {w : World} {g : Nat} {t : TypeId} {all : Array Value} (h : Blk w g t all) (i : Nat) (cs : List Value) (hp : (all.toList.drop i).take cs.length = cs) : w.rangeAt g i cs := by
  intro j v hv
  have hj : j < cs.length := (List.getElem?_eq_some_iff.1 hv).1
  rw [h.cell, ← hv, ← hp, List.getElem?_take, if_pos hj, List.getElem?_drop]
  simp

/-- A load of a part of a block. -/
theorem wpList_load_part (ty : TypeId) (x : Operand) (g i : Nat) (t : TypeId) (all : Array Value) (cs : List Value) (d : TypeDesc) (hg : Blk w g t all) (hp : (all.toList.drop i).take cs.length = cs)
    (ho : o.op = .load ty x) (hx : a.eval x = .pointer (some ⟨g, i, none⟩))
    (hu : P.underlying ty = some d) (hd : d.isRow = true) (hi : (P.info? ty).map (·.size) = some cs.length)
    (hw : Region.wanted o (yielded ops a.tmps) = true) (h : wpList P ops Q rest (a.put o.dst (.agg cs.toArray)) w) : wpList P ops Q (o :: rest) a w :=
  BigFrame.wpList_want hw fun _ hK => wp_load_mid ty x ho g i hx cs d (hg.range i cs hp) hu hd hi (hK _ _ h)

/-- In a region that draws its order: a load of a whole block may be taken first. -/
theorem yieldsIf_load_blk {S : World → Prop} (ty : TypeId) (x : Operand) (g : Nat) (t : TypeId) (cs : Array Value) (d : TypeDesc) (hS : ∀ w, S w → Blk w g t cs) (ho : o.op = .load ty x) (hx : a.eval x = .pointer (some ⟨g, 0, none⟩))
    (hu : P.underlying ty = some d) (hd : (match d with | .struct _ | .array _ _ => true | _ => false) = true) (hi : (P.info? ty).map (·.size) = some cs.size)
    (hw : Region.wanted o (yielded ops a.tmps) = true) : YieldsIf P ops S o (.agg cs) a :=
  .inl ⟨hw, fun w hw' => by
    unfold execOp
    simp only [ho, hx, Instr.loadAt, Instr.sureAddr, Sem.run_bind, Sem.run_pure, Result.andThen_ok, run_loadVar_row w g t ty cs (0, 0) d (hS w hw') hu hd hi]⟩

theorem grownBy_setRow (w : World) (g : Nat) (cs : Array Value) : w.grownBy (w.setRow g cs) (some g) :=
  ⟨rfl, rfl, rfl, by simp, fun k _ hk => setRow_other w g k cs (fun e => hk (by rw [e]))⟩
theorem grownBy_setCell (w : World) (g i : Nat) (u : Value) : w.grownBy (w.setCell ⟨g, i, none⟩ u) (some g) :=
  ⟨rfl, rfl, rfl, by simp, fun k _ hk => Below.heap_setCell w ⟨g, i, none⟩ u k (fun e => hk (by rw [e]))⟩

/-- A store over a whole block. -/
theorem wpList_store_blk (ty : TypeId) (x y : Operand) (g : Nat) (t : TypeId) (old cs : Array Value) (hg : Blk w g t old) (ho : o.op = .store ty x y) (hdst : o.dst = none)
    (hx : a.eval x = .pointer (some ⟨g, 0, none⟩)) (hy : a.eval y = .agg cs) (hi : (P.info? ty).map (·.size) = some cs.size) (hold : old.size = cs.size) (h1 : cs.toList.all (·.oneCell') = true)
    (hw : Region.wanted o (yielded ops a.tmps) = true)
    (h : ∀ w', Blk w' g t cs → w.grownBy w' (some g) → w'.heap.size = w.heap.size → wpList P ops Q rest a w') : wpList P ops Q (o :: rest) a w :=
  BigFrame.wpList_want hw fun _ hK => wp_store_row ty x y ho g cs hx hy t old hg hi hold (by rw [← Array.all_toList]; exact h1) (hK _ _ (by rw [hdst]; exact h _ (setRow_heap w g old cs t (0, 0) hg) (grownBy_setRow w g cs) (by simp)))
end
end Go.Proofs.YtgdnckglfhabnaaDoor
