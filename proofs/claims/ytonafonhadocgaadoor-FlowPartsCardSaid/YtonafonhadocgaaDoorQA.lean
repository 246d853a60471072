/- Laws and walks that the claim's last text leans on, joined: each part says above itself what it proves. -/
import Derived.Test.YtonafonhadocgaaDoorRows
import Derived.WalkKit
import Derived.WalkSpells
import Derived.WalkLawsBesides
import Derived.Handy
import Derived.BigQuiet
import Derived.Deep.QuietTactic
import Derived.Lib.Hide
import Derived.Deep.DeepMust
import Derived.Deep.DeepFit
import Derived.Maps.AppendAt
import Derived.Deep.AppendLies
import Derived.Deep.Draws
import Derived.RegionTactic
import Derived.Laws.Rows
import Derived.Laws.CopyOwn
import Derived.Deep.MidRow
import Derived.BigFrame
import Derived.Maps.OwnIn
import Derived.BigFrameIn
import Derived.Deep.RegionHeld
import Derived.OrdersIn
import Derived.RangeFuncCalls
import Derived.RangeFuncNested
import Derived.RangeFuncBound
import Derived.RangeFuncLeaves
import Derived.Test.YtonafonhadocgaaDoorShelf
import Derived.Lib.LaidTab
import Derived.Lib.TrailingZeros
import Derived.Lib.ItoaMem
import Derived.Lib.AppendIntMem
import Derived.Lib.Walk
import Derived.Laws.IdiomStrings
import Derived.Lib.AtoiErrMem
import Derived.Lib.ParseIntBCases
import Derived.Lib.SplitLaws
import Derived.Lib.IndexBytes

/- Words for memory: a slice of bytes that reads as a list; steps of worlds. Plain lemmas, no program. -/
namespace Go.Proofs.YtonafonhadocgaaDoor
open Go.RowKit

/-- What was there before a call reads as it did. -/
theorem bcell {W w1 : World} (hb : Below W.heap.size W w1) : (∀ b o, b < W.heap.size → w1.cell? ⟨b, o, none⟩ = W.cell? ⟨b, o, none⟩) ∧ (∀ b o, b < W.heap.size → w1.frozen? ⟨b, o, none⟩ = W.frozen? ⟨b, o, none⟩) :=
  ⟨fun b o h => hb.cell (p := ⟨b, o, none⟩) h, fun b o h => hb.frozen (p := ⟨b, o, none⟩) h⟩

theorem carry3 {W W' : World} {b : Nat} {v0 v1 v2 : Value} (hb : Below W.heap.size W W') (h : W.cell? ⟨b, 0, none⟩ = some v0 ∧ W.cell? ⟨b, 1, none⟩ = some v1 ∧ W.cell? ⟨b, 2, none⟩ = some v2) :
    W'.cell? ⟨b, 0, none⟩ = some v0 ∧ W'.cell? ⟨b, 1, none⟩ = some v1 ∧ W'.cell? ⟨b, 2, none⟩ = some v2 :=
  ⟨cell_later hb h.1, cell_later hb h.2.1, cell_later hb h.2.2⟩

theorem cell_far {w : World} {b o : Nat} {p : Addr} (hp : b ≠ p.block) (u : Value) : (w.setCell p u).cell? ⟨b, o, none⟩ = w.cell? ⟨b, o, none⟩ :=
  World.cell?_of_block (Below.heap_setCell w p u b hp)
theorem frozen_far {w : World} {b o : Nat} {p : Addr} (hp : b ≠ p.block) (u : Value) : (w.setCell p u).frozen? ⟨b, o, none⟩ = w.frozen? ⟨b, o, none⟩ :=
  World.frozen?_of_block (Below.heap_setCell w p u b hp)
theorem carry3set {W : World} {b : Nat} {v0 v1 v2 : Value} {p : Addr} (hp : b ≠ p.block) (u : Value) (h : W.cell? ⟨b, 0, none⟩ = some v0 ∧ W.cell? ⟨b, 1, none⟩ = some v1 ∧ W.cell? ⟨b, 2, none⟩ = some v2) :
    (W.setCell p u).cell? ⟨b, 0, none⟩ = some v0 ∧ (W.setCell p u).cell? ⟨b, 1, none⟩ = some v1 ∧ (W.setCell p u).cell? ⟨b, 2, none⟩ = some v2 :=
  ⟨(cell_far hp u).trans h.1, (cell_far hp u).trans h.2.1, (cell_far hp u).trans h.2.2⟩

/-- The cells of a row of bytes. -/
def bv (l : List UInt8) : List Value := l.map fun u => Value.int .u8 (u.toNat : Int)

theorem bv_length (l : List UInt8) : (bv l).length = l.length := by simp [bv]
theorem bv_append (l m : List UInt8) : bv (l ++ m) = bv l ++ bv m := by simp [bv]
theorem bv_one (l : List UInt8) : ∀ u ∈ bv l, u.oneCell' = true := by
  intro u hu
  obtain ⟨_, _, rfl⟩ := List.mem_map.1 hu
  rfl
theorem bv_get (l : List UInt8) (k : Nat) (h : k < l.length) : (bv l)[k]? = some (Value.int .u8 ((l[k]?.getD 0).toNat : Int)) := by
  simp [bv, h]

/-- A slice value '.slice A n c' of bytes reads as the list l. -/
def Rd (w : World) (A : Option Addr) (n c : Nat) (l : List UInt8) : Prop :=
  l.length = n ∧ n ≤ c ∧ c ≤ 9223372036854775807 ∧
    (0 < n → ∃ b off, A = some ⟨b, off, none⟩ ∧ ∀ k, k < n → w.cell? ⟨b, off + k, none⟩ = some (.int .u8 ((l[k]?.getD 0).toNat : Int)))

section
variable {w w' : World} {A : Option Addr} {n c : Nat} {l : List UInt8}

theorem Rd.len (h : Rd w A n c l) : l.length = n := h.1
theorem Rd.nil (w : World) : Rd w none 0 0 [] := ⟨rfl, Nat.le_refl _, by omega, fun h => absurd h (by omega)⟩
theorem Rd.at_ (h : Rd w A n c l) (hn : 0 < n) : ∃ b off, A = some ⟨b, off, none⟩ ∧ b < w.heap.size ∧ ∀ k, k < n → w.cell? ⟨b, off + k, none⟩ = some (.int .u8 ((l[k]?.getD 0).toNat : Int)) := by
  obtain ⟨b, off, hA, hk⟩ := h.2.2.2 hn
  exact ⟨b, off, hA, World.block_lt_of_cell? w _ (hk 0 hn), hk⟩
theorem Rd.below (h : Rd w A n c l) (hb : Below w.heap.size w w') : Rd w' A n c l :=
  ⟨h.1, h.2.1, h.2.2.1, fun hn => by
    obtain ⟨b, off, hA, hk⟩ := h.2.2.2 hn
    exact ⟨b, off, hA, fun k hk' => cell_later hb (hk k hk')⟩⟩
theorem Rd.alloc (h : Rd w A n c l) (o : Obj) : Rd (w.alloc o) A n c l := h.below ((Below.refl _ _).alloc (Nat.le_refl _) o)
theorem Rd.drew (h : Rd w A n c l) : Rd w.drew A n c l := h
theorem Rd.drewN (h : Rd w A n c l) (k : Nat) : Rd (w.drewN k) A n c l := h
/-- A part of a slice. -/
theorem Rd.cut (h : Rd w A n c l) {lo hi c' : Nat} (h1 : lo ≤ hi) (h2 : hi ≤ n) (h3 : hi - lo ≤ c') (h4 : c' ≤ c) (A' : Option Addr)
    (hA : lo < hi → A' = A.map fun x => x.add lo) : Rd w A' (hi - lo) c' ((l.drop lo).take (hi - lo)) := by
  have hl := h.1
  refine ⟨by simp; omega, h3, by have := h.2.2.1; omega, fun hn => ?_⟩
  obtain ⟨b, off, rfl, hk⟩ := h.2.2.2 (by omega)
  refine ⟨b, off + lo, by rw [hA (by omega)]; simp [Addr.add_lit], fun k hk' => ?_⟩
  have e := hk (lo + k) (by omega)
  rw [Nat.add_assoc, e]
  simp [hk', List.getElem?_drop]
theorem Rd.of_own {base e : Nat} (h : w.ownsRow base e 1 (.slice A n c) n (bv l)) : Rd w A n c l := by
  obtain ⟨h1, h2⟩ := h
  have hl : l.length = n := by simpa [bv] using h1
  rcases h2 with ⟨hv, hn⟩ | ⟨g, cap, cur, hv, hb, hg, hnc, hcm, hcs, ht⟩
  · injection hv with a b d
    subst a; subst b; subst d
    have : l = [] := List.eq_nil_of_length_eq_zero hl
    subst this
    exact Rd.nil w
  · injection hv with a b d
    subst a; subst d
    refine ⟨hl, hnc, by simpa [maxLen] using hcm, fun hn => ⟨g, 0, rfl, fun k hk => ?_⟩⟩
    rw [Nat.zero_add, cell_of_row w g k cur e (0, 0) hg]
    have e1 : (bv l)[k]? = cur[k]? := by
      rw [← ht, List.getElem?_take, if_pos (by omega)]
      simp
    rw [← e1, bv_get l k (by omega)]
end

/-- Block g is known whole: the cells cs, none frozen. -/
def Blk (w : World) (g : Nat) (t : TypeId) (cs : Array Value) : Prop := w.heap[g]? = some (.cells cs t (0, 0))

section
variable {w w' : World} {g : Nat} {t : TypeId} {cs : Array Value}
theorem Blk.lt (h : Blk w g t cs) : g < w.heap.size := (Array.getElem?_eq_some_iff.1 h).1
theorem Blk.cell (h : Blk w g t cs) (i : Nat) : w.cell? ⟨g, i, none⟩ = cs[i]? := cell_of_row w g i cs t (0, 0) h
theorem Blk.frozen (h : Blk w g t cs) (i : Nat) : w.frozen? ⟨g, i, none⟩ = false := by
  unfold Blk at h
  simp [World.frozen?, h]
theorem Blk.new (w : World) (t : TypeId) (cs : Array Value) : Blk (w.alloc (.cells cs t)) w.heap.size t cs := heap_alloc_new w _
theorem Blk.drew (h : Blk w g t cs) : Blk w.drew g t cs := h
theorem Blk.drewN (h : Blk w g t cs) (n : Nat) : Blk (w.drewN n) g t cs := h
theorem Blk.alloc (h : Blk w g t cs) (o : Obj) : Blk (w.alloc o) g t cs := (Below.heap_alloc w o g h.lt).trans h
theorem Blk.set_ (h : Blk w g t cs) (i : Nat) (u : Value) : Blk (w.setCell ⟨g, i, none⟩ u) g t (cs.setIfInBounds i u) := by
  unfold Blk at h ⊢
  simp [World.setCell, Array.getElem?_modify, h]
theorem Blk.far (h : Blk w g t cs) {p : Addr} (hp : g ≠ p.block) (u : Value) : Blk (w.setCell p u) g t cs := (Below.heap_setCell w p u g hp).trans h
theorem Blk.below {B : Nat} (h : Blk w g t cs) (hb : Below B w w') (hg : g < B) : Blk w' g t cs := (hb.block g hg).trans h
theorem Blk.grown {row : Option Nat} (h : Blk w g t cs) (hb : w.grownBy w' row) (hg : some g ≠ row) : Blk w' g t cs := (hb.block g h.lt hg).trans h
theorem Blk.keep (h : Blk w g t cs) (hb : Below w.heap.size w w') : Blk w' g t cs := h.below hb h.lt
end

end Go.Proofs.YtonafonhadocgaaDoor

/- Loads and stores of a whole struct or array, of a part of a block, of one field: of blocks that are known whole. Plain laws. -/
namespace Go.Proofs.YtonafonhadocgaaDoor
open Go.RowKit

section
variable {P : Program} {ops : Array Oper} {rest : List Oper} {o : Oper} {a : Act} {w : World} {Q : Exit → Act → World → Prop}

/-- The store whose operands are named: a guard for an arm. -/
theorem at_store {dst : Option Tmp} {t : TypeId} {ps : String} {af : Array Edge} {gd : Option (Nat × Bool)} (ty : TypeId) (x y : Operand) (h : wpList P ops Q ({ dst := dst, op := .store ty x y, type := t, pos := ps, after := af, guard := gd } :: rest) a w) :
    wpList P ops Q ({ dst := dst, op := .store ty x y, type := t, pos := ps, after := af, guard := gd } :: rest) a w := h

/-- A load that may be guarded. -/
theorem wpList_load_blk (ty : TypeId) (x : Operand)
    (g : Nat) (t : TypeId) (cs : Array Value) (d : TypeDesc) (hg : Blk w g t cs) (ho : o.op = .load ty x) (hx : a.eval x = .pointer (some ⟨g, 0, none⟩))
    (hu : P.underlying ty = some d) (hd : (match d with | .struct _ | .array _ _ => true | _ => false) = true) (hi : (P.info? ty).map (·.size) = some cs.size)
    (hw : Region.wanted o (yielded ops a.tmps) = true) (h : wpList P ops Q rest (a.put o.dst (.agg cs)) w) : wpList P ops Q (o :: rest) a w :=
  BigFrame.wpList_want hw fun _ hK => wp_load_row ty x ho g hx t cs (0, 0) d hg hu hd hi (hK _ _ h)

theorem Blk.range {w : World} {g : Nat} {t : TypeId} {all : Array Value} (h : Blk w g t all) (i : Nat) (cs : List Value) (hp : (all.toList.drop i).take cs.length = cs) : w.rangeAt g i cs := by
  intro j v hv
  have hj : j < cs.length := (List.getElem?_eq_some_iff.1 hv).1
  rw [h.cell, ← hv, ← hp, List.getElem?_take, if_pos hj, List.getElem?_drop]
  simp

/-- A load of a part of a block. -/
theorem wpList_load_part (ty : TypeId) (x : Operand) (g i : Nat) (t : TypeId) (all : Array Value) (cs : List Value) (d : TypeDesc) (hg : Blk w g t all) (hp : (all.toList.drop i).take cs.length = cs)
    (ho : o.op = .load ty x) (hx : a.eval x = .pointer (some ⟨g, i, none⟩))
    (hu : P.underlying ty = some d) (hd : d.isRow = true) (hi : (P.info? ty).map (·.size) = some cs.length)
    (hw : Region.wanted o (yielded ops a.tmps) = true) (h : wpList P ops Q rest (a.put o.dst (.agg cs.toArray)) w) : wpList P ops Q (o :: rest) a w :=
  BigFrame.wpList_want hw fun _ hK => wp_load_mid ty x ho g i hx cs d (hg.range i cs hp) hu hd hi (hK _ _ h)

/-- In a region that draws its order: a load of a whole block may be taken first. -/
theorem yieldsIf_load_blk {S : World → Prop} (ty : TypeId) (x : Operand) (g : Nat) (t : TypeId) (cs : Array Value) (d : TypeDesc) (hS : ∀ w, S w → Blk w g t cs) (ho : o.op = .load ty x) (hx : a.eval x = .pointer (some ⟨g, 0, none⟩))
    (hu : P.underlying ty = some d) (hd : (match d with | .struct _ | .array _ _ => true | _ => false) = true) (hi : (P.info? ty).map (·.size) = some cs.size)
    (hw : Region.wanted o (yielded ops a.tmps) = true) : YieldsIf P ops S o (.agg cs) a :=
  .inl ⟨hw, fun w hw' => by
    unfold execOp
    simp only [ho, hx, Instr.loadAt, Instr.sureAddr, Sem.run_bind, Sem.run_pure, Result.andThen_ok, run_loadVar_row w g t ty cs (0, 0) d (hS w hw') hu hd hi]⟩

theorem grownBy_setRow (w : World) (g : Nat) (cs : Array Value) : w.grownBy (w.setRow g cs) (some g) :=
  ⟨rfl, rfl, rfl, by simp, fun k _ hk => setRow_other w g k cs (fun e => hk (by rw [e]))⟩
theorem grownBy_setCell (w : World) (g i : Nat) (u : Value) : w.grownBy (w.setCell ⟨g, i, none⟩ u) (some g) :=
  ⟨rfl, rfl, rfl, by simp, fun k _ hk => Below.heap_setCell w ⟨g, i, none⟩ u k (fun e => hk (by rw [e]))⟩

/-- A store over a whole block. -/
theorem wpList_store_blk (ty : TypeId) (x y : Operand) (g : Nat) (t : TypeId) (old cs : Array Value) (hg : Blk w g t old) (ho : o.op = .store ty x y) (hdst : o.dst = none)
    (hx : a.eval x = .pointer (some ⟨g, 0, none⟩)) (hy : a.eval y = .agg cs) (hi : (P.info? ty).map (·.size) = some cs.size) (hold : old.size = cs.size) (h1 : cs.toList.all (·.oneCell') = true)
    (hw : Region.wanted o (yielded ops a.tmps) = true)
    (h : ∀ w', Blk w' g t cs → w.grownBy w' (some g) → w'.heap.size = w.heap.size → wpList P ops Q rest a w') : wpList P ops Q (o :: rest) a w :=
  BigFrame.wpList_want hw fun _ hK => wp_store_row ty x y ho g cs hx hy t old hg hi hold (by rw [← Array.all_toList]; exact h1) (hK _ _ (by rw [hdst]; exact h _ (setRow_heap w g old cs t (0, 0) hg) (grownBy_setRow w g cs) (by simp)))
end
end Go.Proofs.YtonafonhadocgaaDoor

/- Loads and stores of whole structs inside a fence. Plain laws. -/
namespace Go.Proofs.YtonafonhadocgaaDoor
open Go.RowKit

section
variable {F : Fence} {n : Nat} {P : Program} {ops : Array Oper} {rest : List Oper} {o : Oper} {a : Act} {w : World} {Q : Exit → Act → World → Prop} {K : Act → World → Prop}
theorem about_none (hnc : ∀ c, o.op ≠ .call c) : o.about P w a.eval = none := by
  unfold Oper.about
  split
  · rename_i c hc
    exact absurd hc (hnc c)
  · rfl
theorem wpIn_val (hnc : ∀ c, o.op ≠ .call c) (hnd : ∀ c, o.op ≠ .defer c) {v : Value} {w' : World} (hrun : (execOp a.eval o).run P w = .ok (.value v) w') (h : K (a.put o.dst v) w') : o.wpIn F n P a w K Q := by
  refine ⟨fun f hf => ?_, ?_⟩
  · rw [about_none hnc] at hf
    cases hf
  · rw [Oper.semAt_plain F _ _ hnd, hrun]
    exact h
theorem wpIn_skp (hnc : ∀ c, o.op ≠ .call c) (hnd : ∀ c, o.op ≠ .defer c) {w' : World} (hrun : (execOp a.eval o).run P w = .ok .skip w') (h : K (a.put o.dst undef) w') : o.wpIn F n P a w K Q := by
  refine ⟨fun f hf => ?_, ?_⟩
  · rw [about_none hnc] at hf
    cases hf
  · rw [Oper.semAt_plain F _ _ hnd, hrun]
    exact h

/-- A load of cells that are known, from place i on. -/
theorem wpListIn_load_rng (ty : TypeId) (x : Operand) (g i : Nat) (cs : List Value) (d : TypeDesc) (hc : w.rangeAt g i cs) (ho : o.op = .load ty x) (hx : a.eval x = .pointer (some ⟨g, i, none⟩))
    (hu : P.underlying ty = some d) (hd : d.isRow = true) (hi : (P.info? ty).map (·.size) = some cs.length)
    (hw : Region.wanted o (yielded ops a.tmps) = true) (h : wpListIn F n P ops Q rest (a.put o.dst (.agg cs.toArray)) w) : wpListIn F n P ops Q (o :: rest) a w :=
  BigFrame.wpListIn_want hw fun _ hK => wpIn_val (fun c hc => by rw [ho] at hc; cases hc) (fun c hc => by rw [ho] at hc; cases hc) (by
    unfold execOp
    simp only [ho, hx, Instr.loadAt, Instr.sureAddr, Sem.run_bind, Sem.run_pure, Result.andThen_ok, run_loadVar_mid w g i ty cs d hc hu hd hi]) (hK _ _ h)
theorem Blk.whole {g : Nat} {t : TypeId} {cs : Array Value} (h : Blk w g t cs) : w.rangeAt g 0 cs.toList := h.range 0 cs.toList (by rw [List.drop_zero, List.take_of_length_le (Nat.le_refl _)])
/-- A store over a whole block. -/
theorem wpListIn_store_blk (ty : TypeId) (x y : Operand) (g : Nat) (t : TypeId) (old cs : Array Value) (hg : Blk w g t old) (ho : o.op = .store ty x y) (hdst : o.dst = none)
    (hx : a.eval x = .pointer (some ⟨g, 0, none⟩)) (hy : a.eval y = .agg cs) (hi : (P.info? ty).map (·.size) = some cs.size) (hold : old.size = cs.size) (h1 : cs.toList.all (·.oneCell') = true)
    (hw : Region.wanted o (yielded ops a.tmps) = true)
    (h : ∀ w', Blk w' g t cs → w.grownBy w' (some g) → w'.heap.size = w.heap.size → wpListIn F n P ops Q rest a w') : wpListIn F n P ops Q (o :: rest) a w :=
  BigFrame.wpListIn_want hw fun _ hK => wpIn_skp (fun c hc => by rw [ho] at hc; cases hc) (fun c hc => by rw [ho] at hc; cases hc) (by
    unfold execOp
    simp only [ho, hx, hy, Instr.storeAt, Instr.sureAddr, Sem.run_bind, Sem.run_pure, Result.andThen_ok, run_storeVar_row w g t ty old cs hg hi hold (by rw [← Array.all_toList]; exact h1)]
    rfl) (hK _ _ (by rw [hdst]; exact h _ (setRow_heap w g old cs t (0, 0) hg) (grownBy_setRow w g cs) (by simp)))
theorem at_storeIn {dst : Option Tmp} {t : TypeId} {ps : String} {af : Array Edge} {gd : Option (Nat × Bool)} (ty : TypeId) (x y : Operand) (h : wpListIn F n P ops Q ({ dst := dst, op := .store ty x y, type := t, pos := ps, after := af, guard := gd } :: rest) a w) :
    wpListIn F n P ops Q ({ dst := dst, op := .store ty x y, type := t, pos := ps, after := af, guard := gd } :: rest) a w := h
theorem at_loadIn {dst : Option Tmp} {t : TypeId} {ps : String} {af : Array Edge} {gd : Option (Nat × Bool)} (ty : TypeId) (x : Operand) (h : wpListIn F n P ops Q ({ dst := dst, op := .load ty x, type := t, pos := ps, after := af, guard := gd } :: rest) a w) :
    wpListIn F n P ops Q ({ dst := dst, op := .load ty x, type := t, pos := ps, after := af, guard := gd } :: rest) a w := h

/-! ### A region that draws its order, in a round of a range over a function -/
theorem wpIn_of_wp {l : Nat} (hnd : ∀ c, o.op ≠ .defer c) {K' : Act → World → Prop} (hK : ∀ a w, K a w → K' a w) (h : o.wp P a w K Q) : o.wpIn (Fence.wide.inRound l) 0 P a w K' Q := by
  refine ⟨fun _ _ => trivial, ?_⟩
  rw [Oper.semAt_plain _ _ _ hnd]
  unfold Oper.wp at h
  generalize (execOp a.eval o).run P w = r at *
  cases r with
  | ok x w' =>
    cases x <;> simp only [Oper.upon, Oper.uponIn] at h ⊢
    case value => exact hK _ _ h
    case skip => exact hK _ _ h
    case defer => exact hK _ _ h
    case enter f args =>
      refine ⟨(fun h => by cases h), CallsIn.inRound l (CallsIn.mono (callsIn_wide.2 h) fun e w'' he => ?_)⟩
      cases e with
      | returned v => exact hK _ _ he
      | panicked c => exact he
      | outgrown => exact he
    case row row args =>
      refine ⟨(fun h => by cases h), fun c cs _ => ?_⟩
      obtain ⟨v, w2, r, s⟩ := h c cs
      exact ⟨v, w2, hK _ _ r, stepsIn_wide.2 s⟩
  | halt x w' =>
    cases x <;> simp only [Oper.upon, Oper.uponIn] at h ⊢
    case panic => exact h
theorem wpAnyIn_of_wpAny {md : Region.Mode} {l : Nat} (hnd : ∀ (i : Nat) (o : Oper), ops[i]? = some o → ∀ c, o.op ≠ .defer c) (hno : ¬ LetsOut Q) : ∀ (fuel : Nat) (listed : Array Bool) (a : Act) (w : World),
    wpAny P md ops Q fuel listed a w → wpAnyIn (Fence.wide.inRound l) 0 P md ops Q fuel listed a w
  | 0, _, _, _, h => h
  | fuel + 1, listed, a, w, h => by
    refine ⟨h.1, fun i hi => ?_⟩
    have hw := h.2 i hi
    unfold wpOp at hw
    unfold wpOpIn
    cases ho : ops[i]? with
    | none =>
      rw [ho] at hw
      exact wpAnyIn_of_wpAny hnd hno fuel _ _ _ hw
    | some o =>
      rw [ho] at hw
      simp only at hw ⊢
      split
      · rename_i hwa
        rw [if_pos hwa] at hw
        rcases hw with hw | hw
        · exact wpIn_of_wp (hnd i o ho) (fun a w h => wpAnyIn_of_wpAny hnd hno fuel _ a w h) hw
        · exact absurd hw.2 hno
      · rename_i hwa
        rw [if_neg hwa] at hw
        exact ⟨fun _ _ => trivial, wpAnyIn_of_wpAny hnd hno fuel _ _ _ hw⟩
def noDefer (ops : Array Oper) : Bool := ops.all fun o => match o.op with | .defer _ => false | _ => true
theorem noDefer_spec (h : noDefer ops = true) (i : Nat) (o : Oper) (ho : ops[i]? = some o) : ∀ c, o.op ≠ .defer c := fun c hc => by
  have h1 := (Array.all_eq_true_iff_forall_mem.1 h) o (Array.mem_of_getElem? ho)
  simp [hc] at h1
theorem wpIn_region_held {l id : Nat} {S : World → Prop} (hm : P.follows .mixedOrders = true) (hd : noDefer ops = true) (hno : ¬ LetsOut Q) (hS : S w.drew)
    (h : S w.drew → wpAnyH P .any ops Q S ops.size (Array.replicate ops.size false) a w.drew) : (Code.region id ops true).wpIn (Fence.wide.inRound l) 0 P Q a w :=
  wpIn_region_any hm (wpAnyIn_of_wpAny (noDefer_spec hd) hno _ _ _ _ (wpAny_of_held _ _ _ _ (h hS)))
end
end Go.Proofs.YtonafonhadocgaaDoor

/- Ranges over functions whose iterator keeps cells of its own: the contract of such an iterator names the blocks that are its own ('X'); the caller's invariant abides turns of them, a round leaves them. No round leaves the loop. Over any program; the wide fence. -/
namespace Go.Proofs.YtonafonhadocgaaDoor
open Go.RowKit

/-- An iterator that hands out xs, one behind the other. -/
def SeqX {α : Type} (P : Program) (gf : Nat) (lb : Array Value) (encs : α → Array Value) (xs : List α) (X : Nat → Prop) (W : World) : Prop :=
  ∀ (l : Nat) (J : List α → World → Prop),
    (∀ s A B row, J s A → A.grownBy B row → (∀ r, row = some r → X r) → J s B) →
    (∀ pre x rest A, xs = pre ++ x :: rest → J pre A → (∀ r, X r → r < A.heap.size) →
      YieldAt Fence.wide 0 P l (encs x) A fun e B => e = .returned (.bool true) ∧ J (pre ++ [x]) B ∧ A.heap.size ≤ B.heap.size ∧ ∀ r, X r → B.heap[r]? = A.heap[r]?) →
    J [] W → CallsIn Fence.wide 0 P gf (#[.func (.yield l) #[] #[]] ++ lb) W fun e W' => (∃ v, e = .returned v) ∧ J xs W'

/-- What a round leaves as it lay. -/
def KeepsX (X : Nat → Prop) (A B : World) : Prop := A.heap.size ≤ B.heap.size ∧ ∀ r, X r → B.heap[r]? = A.heap[r]?
theorem KeepsX.refl (X : Nat → Prop) (A : World) : KeepsX X A A := ⟨Nat.le_refl _, fun _ _ => rfl⟩
theorem KeepsX.trans {X : Nat → Prop} {A B C : World} (h : KeepsX X A B) (k : KeepsX X B C) : KeepsX X A C := ⟨Nat.le_trans h.1 k.1, fun r hr => (k.2 r hr).trans (h.2 r hr)⟩
theorem KeepsX.alloc {X : Nat → Prop} {A B : World} (h : KeepsX X A B) (hX : ∀ r, X r → r < B.heap.size) (o : Obj) : KeepsX X A (B.alloc o) :=
  ⟨by simp; have := h.1; omega, fun r hr => (Below.heap_alloc B o r (hX r hr)).trans (h.2 r hr)⟩
theorem KeepsX.set_ {X : Nat → Prop} {A B : World} (h : KeepsX X A B) {p : Addr} (hp : ¬ X p.block) (u : Value) : KeepsX X A (B.setCell p u) :=
  ⟨by have := h.1; simpa using this, fun r hr => (Below.heap_setCell B p u r (fun e => hp (e ▸ hr))).trans (h.2 r hr)⟩
theorem KeepsX.below {X : Nat → Prop} {A B C : World} {b : Nat} (h : KeepsX X A B) (hX : ∀ r, X r → r < b) (hb : Below b B C) : KeepsX X A C :=
  ⟨Nat.le_trans h.1 hb.size, fun r hr => (hb.block r (hX r hr)).trans (h.2 r hr)⟩
theorem KeepsX.grown {X : Nat → Prop} {A B C : World} {row : Option Nat} (h : KeepsX X A B) (hX : ∀ r, X r → r < B.heap.size) (hg : B.grownBy C row) (hr : ∀ r, row = some r → ¬ X r) : KeepsX X A C :=
  ⟨Nat.le_trans h.1 hg.size, fun r hx => (hg.block r (hX r hx) (fun e => hr r e.symm hx)).trans (h.2 r hx)⟩

variable {P : Program}

/-- An outermost loop. -/
theorem range_outer {α : Type} {g : Operand} {ps : Array Tmp} {assign body : Code} {Q : Exit → Act → World → Prop} {a : Act} {w : World}
    {gf : Nat} {lb : Array Value} (hg : a.eval g = .func (.func gf) #[] lb) (eg : ∀ args w, (callFunc gf args).run P w = .ok (.enter gf args) w)
    {encs : α → Array Value} (hps : ∀ x, (encs x).size = ps.size) (xs : List α) (X : Nat → Prop)
    (hseq : ∀ W1, Below w.heap.size w W1 → W1.heap.size = w.heap.size + 2 → SeqX P gf lb encs xs X W1)
    (hX : ∀ r, X r → r ≠ w.heap.size ∧ r ≠ w.heap.size + 1)
    (I : List α → World → Prop) (hI : ∀ s A B row, I s A → A.grownBy B row → (∀ r, row = some r → X r ∨ r = w.heap.size ∨ r = w.heap.size + 1) → I s B) (h0 : I [] w)
    (Ax : α → Act → World → Prop) (hAx : ∀ x a' A o, A.heap.size > w.heap.size + 1 → Ax x a' A → Ax x a' (A.putObj (w.heap.size + 1) o))
    (hassign : ∀ (pre : List α) (x : α) (A : World) (K : Act → World → Prop), I pre A → (∀ r, X r → r < A.heap.size) → w.heap.size + 2 ≤ A.heap.size →
      (∀ a' A', KeepsX (fun r => X r ∨ r = w.heap.size ∨ r = w.heap.size + 1) A A' → I pre A' → Ax x a' A' → K a' A') →
      assign.wpIn (Fence.wide.inRound (w.heap.size + 1)) 0 P (Exit.then K (fun _ _ _ => False)) { tmps := (ps.zip (encs x)).foldl (fun t (p, v) => t.setIfInBounds p v) a.tmps, defers := [] } A)
    (hbody : ∀ (pre : List α) (x : α) (rest : List α) (a' : Act) (A : World), xs = pre ++ x :: rest → I pre A → Ax x a' A → (∀ r, X r → r < A.heap.size) → w.heap.size + 2 ≤ A.heap.size → (∃ r, A.heap[w.heap.size + 1]? = some (.loop r)) →
      body.wpIn (Fence.wide.inRound (w.heap.size + 1)) 0 P (fun e _ B => e = .normal ∧ KeepsX (fun r => X r ∨ r = w.heap.size ∨ r = w.heap.size + 1) A B ∧ I (pre ++ [x]) B) a' A)
    (hdone : ∀ (W : World), I xs W → w.heap.size + 2 ≤ W.heap.size → W.heap[w.heap.size]? = some (.deferred (some [])) → Q .normal { a with defers := { target := .collected w.heap.size, args := #[] } :: a.defers } W) :
    (Code.rangeFunc g ps assign body).wpIn Fence.wide 0 P Q a w := by
  refine wpIn_rangeFunc fun fn hfn => ?_
  obtain ⟨rec, hrec⟩ : ∃ rec : LoopState → Option Code → Loop, rec = fun st pe => { state := st, pending := pe, fn, tmps := a.tmps, params := ps, assign, body, defers := w.heap.size } := ⟨_, rfl⟩
  have e1 : (w.alloc (.deferred (some []))).heap.size = w.heap.size + 1 := by simp
  have hA : Below w.heap.size w ((w.alloc (.deferred (some []))).alloc (.loop (rec .ready none))) := ((Below.refl _ w).alloc (Nat.le_refl _) _).alloc (by simp) _
  have hD : ((w.alloc (.deferred (some []))).alloc (.loop (rec .ready none))).heap[w.heap.size]? = some (.deferred (some [])) :=
    (Below.heap_alloc _ _ _ (by simp)).trans (World.alloc_heap_new w _)
  have hL : ((w.alloc (.deferred (some []))).alloc (.loop (rec .ready none))).heap[w.heap.size + 1]? = some (.loop (rec .ready none)) := by
    have h := World.alloc_heap_new (w.alloc (.deferred (some []))) (.loop (rec .ready none))
    rwa [e1] at h
  have hz : ((w.alloc (.deferred (some []))).alloc (.loop (rec .ready none))).heap.size = w.heap.size + 2 := by simp
  have hi0 : I [] ((w.alloc (.deferred (some []))).alloc (.loop (rec .ready none))) :=
    hI _ _ _ none (hI _ _ _ none h0 (World.grownBy_alloc w _ none) (fun r e => by cases e)) (World.grownBy_alloc _ _ none) (fun r e => by cases e)
  have henter : (Instr.enterLoop fn a.tmps ps assign body none).run P w = .ok (w.heap.size + 1, [{ target := .collected w.heap.size, args := #[] }]) ((w.alloc (.deferred (some []))).alloc (.loop (rec .ready none))) := by
    rw [hrec]; exact run_enterLoop_outer _ _ _ _ _
  generalize (w.alloc (.deferred (some []))).alloc (.loop (rec .ready none)) = W1 at *
  refine ⟨w.heap.size + 1, [{ target := .collected w.heap.size, args := #[] }], W1, { target := .fn (.func gf) lb, args := #[.func (.yield (w.heap.size + 1)) #[] #[]] }, W1, gf, #[.func (.yield (w.heap.size + 1)) #[] #[]] ++ lb, W1, henter, ?_, ?_, ?_, (fun h => by cases h), ?_⟩
  · simp only [resolve, hg]
    simp [go_sem]
  · intro f' _; trivial
  · simp [invoke, go_sem, eg]
  refine (hseq W1 hA hz (w.heap.size + 1) (fun pre A => I pre A ∧ A.heap[w.heap.size + 1]? = some (.loop (rec .ready none)) ∧ A.heap[w.heap.size]? = some (.deferred (some []))) ?_ ?_ ⟨hi0, hL, hD⟩).mono ?_
  · rintro s A B row ⟨hi, hl, hd⟩ hgr hrow
    have ne : ∀ k, (k = w.heap.size ∨ k = w.heap.size + 1) → some k ≠ row := fun k hk e => by
      have h := hX k (hrow k e.symm)
      rcases hk with rfl | rfl
      · exact h.1 rfl
      · exact h.2 rfl
    exact ⟨hI s A B row hi hgr (fun r e => .inl (hrow r e)), (hgr.block _ (Array.getElem?_eq_some_iff.1 hl).1 (ne _ (.inr rfl))).trans hl, (hgr.block _ (Array.getElem?_eq_some_iff.1 hd).1 (ne _ (.inl rfl))).trans hd⟩
  · rintro pre x rest A hxs ⟨hi, hl, hd⟩ hXA
    have hlt : w.heap.size + 1 < A.heap.size := (Array.getElem?_eq_some_iff.1 hl).1
    have hy := run_yield (P := P) (args := encs x) hl (by rw [hrec]; exact hps x)
    rw [hrec] at hy
    refine ⟨fn, _, assign, body, hy, roundIn_of_wpIn hfn (hassign pre x A _ hi hXA (by omega) ?_)⟩
    intro a' A1 hk1 hi1 hax
    have hl1 : A1.heap[w.heap.size + 1]? = some (.loop (rec .ready none)) := (hk1.2 _ (.inr (.inr rfl))).trans hl
    have hd1 : A1.heap[w.heap.size]? = some (.deferred (some [])) := (hk1.2 _ (.inr (.inl rfl))).trans hd
    have hlt1 : w.heap.size + 1 < A1.heap.size := (Array.getElem?_eq_some_iff.1 hl1).1
    refine ⟨_, run_beginRound hl1 (by rw [hrec]), ?_⟩
    have put : ∀ (C : World) (o : Obj), C.grownBy (C.putObj (w.heap.size + 1) o) (some (w.heap.size + 1)) := fun C o => grownBy_putObj' C _ o
    have hi2 := hI _ _ _ _ hi1 (put A1 (.loop { rec .ready none with state := .busy })) (fun r e => by cases e; exact .inr (.inr rfl))
    have hax2 := hAx x a' A1 (.loop { rec .ready none with state := .busy }) hlt1 hax
    have hl2 : (A1.putObj (w.heap.size + 1) (.loop { rec .ready none with state := .busy })).heap[w.heap.size + 1]? = some (.loop { rec .ready none with state := .busy }) := World.putObj_heap_same hlt1
    have hd2 : (A1.putObj (w.heap.size + 1) (.loop { rec .ready none with state := .busy })).heap[w.heap.size]? = some (.deferred (some [])) := (World.putObj_heap_other (by omega)).trans hd1
    have hz2 : A1.heap.size ≤ (A1.putObj (w.heap.size + 1) (.loop { rec .ready none with state := .busy })).heap.size := (put A1 _).size
    have hk2 : ∀ r, X r → (A1.putObj (w.heap.size + 1) (.loop { rec .ready none with state := .busy })).heap[r]? = A1.heap[r]? := fun r hr => World.putObj_heap_other (hX r hr).2
    generalize A1.putObj (w.heap.size + 1) (.loop { rec .ready none with state := .busy }) = A2 at *
    refine wpIn_mono (hbody pre x rest a' A2 hxs hi2 hax2 (fun r hr => Nat.lt_of_lt_of_le (hXA r hr) (Nat.le_trans hk1.1 hz2)) (by omega) ⟨_, hl2⟩) ?_
    rintro e a3 A3 ⟨rfl, hk3, hi3⟩
    have hl3 : A3.heap[w.heap.size + 1]? = some (.loop { rec .ready none with state := .busy }) := (hk3.2 _ (.inr (.inr rfl))).trans hl2
    have hd3 : A3.heap[w.heap.size]? = some (.deferred (some [])) := (hk3.2 _ (.inr (.inl rfl))).trans hd2
    have hlt3 : w.heap.size + 1 < A3.heap.size := (Array.getElem?_eq_some_iff.1 hl3).1
    have hend := run_endRound (P := P) none hl3
    rw [hrec] at hend hl3
    refine ⟨_, _, hend, rfl, ⟨hI _ _ _ _ hi3 (put A3 _) (fun r e => by cases e; exact .inr (.inr rfl)), ?_, (World.putObj_heap_other (by omega)).trans hd3⟩, ?_, fun r hr => ?_⟩
    · rw [World.putObj_heap_same hlt3, hrec]; rfl
    · exact Nat.le_trans hk1.1 (Nat.le_trans hz2 (Nat.le_trans hk3.1 (put A3 _).size))
    · exact (World.putObj_heap_other (hX r hr).2).trans ((hk3.2 r (.inl hr)).trans ((hk2 r hr).trans (hk1.2 r (.inl hr))))
  · rintro e W2 ⟨⟨v, rfl⟩, hi, hl, hd⟩
    have hend := run_endLoop (P := P) hl (by rw [hrec]; simp)
    rw [hrec] at hend
    have hlt : w.heap.size + 1 < W2.heap.size := (Array.getElem?_eq_some_iff.1 hl).1
    exact ⟨none, _, hend, hdone _ (hI _ _ _ _ hi (grownBy_putObj' W2 _ _) (fun r e => by cases e; exact .inr (.inr rfl))) (by have := (grownBy_putObj' W2 (w.heap.size + 1) (.loop { rec .ready none with state := .exhausted })).size; rw [hrec] at this; exact Nat.le_trans hlt this) ((World.putObj_heap_other (by omega)).trans hd)⟩

/-- A loop within a round of loop l₀. -/
theorem range_inner {α : Type} {g : Operand} {ps : Array Tmp} {assign body : Code} {Q : Exit → Act → World → Prop} {a : Act} {w : World} {l₀ : Nat} {r₀ : Loop} (hl₀ : w.heap[l₀]? = some (.loop r₀))
    {gf : Nat} {lb : Array Value} (hg : a.eval g = .func (.func gf) #[] lb) (eg : ∀ args w, (callFunc gf args).run P w = .ok (.enter gf args) w)
    {encs : α → Array Value} (hps : ∀ x, (encs x).size = ps.size) (xs : List α) (X : Nat → Prop)
    (hseq : ∀ W1, Below w.heap.size w W1 → W1.heap.size = w.heap.size + 1 → SeqX P gf lb encs xs X W1)
    (hX : ∀ r, X r → r ≠ w.heap.size)
    (I : List α → World → Prop) (hI : ∀ s A B row, I s A → A.grownBy B row → (∀ r, row = some r → X r ∨ r = w.heap.size) → I s B) (h0 : I [] w)
    (a₁ : α → Act)
    (hassign : ∀ (x : α) (A : World) (K : Act → World → Prop), K (a₁ x) A →
      assign.wpIn (Fence.wide.inRound w.heap.size) 0 P (Exit.then K (fun _ _ _ => False)) { tmps := (ps.zip (encs x)).foldl (fun t (p, v) => t.setIfInBounds p v) a.tmps, defers := [] } A)
    (hbody : ∀ (pre : List α) (x : α) (rest : List α) (A : World), xs = pre ++ x :: rest → I pre A → (∀ r, X r → r < A.heap.size) → w.heap.size + 1 ≤ A.heap.size →
      body.wpIn (Fence.wide.inRound w.heap.size) 0 P (fun e _ B => e = .normal ∧ KeepsX (fun r => X r ∨ r = w.heap.size) A B ∧ I (pre ++ [x]) B) (a₁ x) A)
    (hdone : ∀ (W : World), I xs W → w.heap.size + 1 ≤ W.heap.size → Q .normal a W) :
    (Code.rangeFunc g ps assign body).wpIn (Fence.wide.inRound l₀) 0 P Q a w := by
  refine wpIn_rangeFunc fun fn hfn => ?_
  obtain ⟨rec, hrec⟩ : ∃ rec : LoopState → Option Code → Loop, rec = fun st pe => { state := st, pending := pe, fn, tmps := a.tmps, params := ps, assign, body, defers := r₀.defers } := ⟨_, rfl⟩
  have hA : Below w.heap.size w (w.alloc (.loop (rec .ready none))) := (Below.refl _ w).alloc (Nat.le_refl _) _
  have hL : (w.alloc (.loop (rec .ready none))).heap[w.heap.size]? = some (.loop (rec .ready none)) := World.alloc_heap_new w _
  have hz : (w.alloc (.loop (rec .ready none))).heap.size = w.heap.size + 1 := by simp
  have hi0 : I [] (w.alloc (.loop (rec .ready none))) := hI _ _ _ none h0 (World.grownBy_alloc _ _ none) (fun r e => by cases e)
  have henter : (Instr.enterLoop fn a.tmps ps assign body (some l₀)).run P w = .ok (w.heap.size, []) (w.alloc (.loop (rec .ready none))) := by
    rw [hrec]; exact run_enterLoop_inner hl₀ _ _ _ _ _
  generalize w.alloc (.loop (rec .ready none)) = W1 at *
  refine ⟨w.heap.size, [], W1, { target := .fn (.func gf) lb, args := #[.func (.yield w.heap.size) #[] #[]] }, W1, gf, #[.func (.yield w.heap.size) #[] #[]] ++ lb, W1, henter, ?_, ?_, ?_, (fun h => by cases h), ?_⟩
  · simp only [resolve, hg]
    simp [go_sem]
  · intro f' _; trivial
  · simp [invoke, go_sem, eg]
  refine CallsIn.mono (R := fun e W' => (∃ v, e = .returned v) ∧ (I xs W' ∧ W'.heap[w.heap.size]? = some (.loop (rec .ready none)))) (CallsIn.inRound l₀ (hseq W1 hA hz w.heap.size (fun pre A => I pre A ∧ A.heap[w.heap.size]? = some (.loop (rec .ready none))) ?_ ?_ ⟨hi0, hL⟩)) ?_
  · rintro s A B row ⟨hi, hl⟩ hgr hrow
    have ne : some w.heap.size ≠ row := fun e => hX _ (hrow _ e.symm) rfl
    exact ⟨hI s A B row hi hgr (fun r e => .inl (hrow r e)), (hgr.block _ (Array.getElem?_eq_some_iff.1 hl).1 ne).trans hl⟩
  · rintro pre x rest A hxs ⟨hi, hl⟩ hXA
    have hlt : w.heap.size < A.heap.size := (Array.getElem?_eq_some_iff.1 hl).1
    have hy := run_yield (P := P) (args := encs x) hl (by rw [hrec]; exact hps x)
    rw [hrec] at hy
    refine ⟨fn, _, assign, body, hy, roundIn_of_wpIn hfn (hassign x A _ ?_)⟩
    refine ⟨_, run_beginRound hl (by rw [hrec]), ?_⟩
    have put : ∀ (C : World) (o : Obj), C.grownBy (C.putObj w.heap.size o) (some w.heap.size) := fun C o => grownBy_putObj' C _ o
    have hi2 := hI _ _ _ _ hi (put A (.loop { rec .ready none with state := .busy })) (fun r e => by cases e; exact .inr rfl)
    have hl2 : (A.putObj w.heap.size (.loop { rec .ready none with state := .busy })).heap[w.heap.size]? = some (.loop { rec .ready none with state := .busy }) := World.putObj_heap_same hlt
    have hz2 : A.heap.size ≤ (A.putObj w.heap.size (.loop { rec .ready none with state := .busy })).heap.size := (put A _).size
    have hk2 : ∀ r, X r → (A.putObj w.heap.size (.loop { rec .ready none with state := .busy })).heap[r]? = A.heap[r]? := fun r hr => World.putObj_heap_other (hX r hr)
    generalize A.putObj w.heap.size (.loop { rec .ready none with state := .busy }) = A2 at *
    refine wpIn_mono (hbody pre x rest A2 hxs hi2 (fun r hr => Nat.lt_of_lt_of_le (hXA r hr) hz2) (by omega)) ?_
    rintro e a3 A3 ⟨rfl, hk3, hi3⟩
    have hl3 : A3.heap[w.heap.size]? = some (.loop { rec .ready none with state := .busy }) := (hk3.2 _ (.inr rfl)).trans hl2
    have hlt3 : w.heap.size < A3.heap.size := (Array.getElem?_eq_some_iff.1 hl3).1
    have hend := run_endRound (P := P) none hl3
    rw [hrec] at hend hl3
    refine ⟨_, _, hend, rfl, ⟨hI _ _ _ _ hi3 (put A3 _) (fun r e => by cases e; exact .inr rfl), ?_⟩, ?_, fun r hr => ?_⟩
    · rw [World.putObj_heap_same hlt3, hrec]; rfl
    · exact Nat.le_trans hz2 (Nat.le_trans hk3.1 (put A3 _).size)
    · exact (World.putObj_heap_other (hX r hr)).trans ((hk3.2 r (.inl hr)).trans (hk2 r hr))
  · rintro e W2 ⟨⟨v, rfl⟩, hi, hl⟩
    have hend := run_endLoop (P := P) hl (by rw [hrec]; simp)
    rw [hrec] at hend
    have hlt : w.heap.size < W2.heap.size := (Array.getElem?_eq_some_iff.1 hl).1
    exact ⟨none, _, hend, hdone _ (hI _ _ _ _ hi (grownBy_putObj' W2 _ _) (fun r e => by cases e; exact .inr rfl)) (by have := (grownBy_putObj' W2 w.heap.size (.loop { rec .ready none with state := .exhausted })).size; rw [hrec] at this; exact Nat.le_trans hlt this)⟩
end Go.Proofs.YtonafonhadocgaaDoor

/- Ranges over functions whose iterator reads what the loop's invariant tells: beside XRange's law. -/
namespace Go.Proofs.YtonafonhadocgaaDoor
open Go.RowKit

/-- An iterator that hands out xs, one behind the other, as long as R holds. -/
def SeqXR {α : Type} (P : Program) (gf : Nat) (lb : Array Value) (encs : α → Array Value) (xs : List α) (X : Nat → Prop) (R : World → Prop) (W : World) : Prop :=
  ∀ (l : Nat) (J : List α → World → Prop),
    (∀ s A B row, J s A → A.grownBy B row → (∀ r, row = some r → X r) → J s B) →
    (∀ s A, J s A → R A) →
    (∀ pre x rest A, xs = pre ++ x :: rest → J pre A → (∀ r, X r → r < A.heap.size) →
      YieldAt Fence.wide 0 P l (encs x) A fun e B => e = .returned (.bool true) ∧ J (pre ++ [x]) B ∧ A.heap.size ≤ B.heap.size ∧ ∀ r, X r → B.heap[r]? = A.heap[r]?) →
    J [] W → CallsIn Fence.wide 0 P gf (#[.func (.yield l) #[] #[]] ++ lb) W fun e W' => (∃ v, e = .returned v) ∧ J xs W'

variable {P : Program}

/-- An outermost loop; the invariant tells what the iterator reads. -/
theorem range_outerR {α : Type} {g : Operand} {ps : Array Tmp} {assign body : Code} {Q : Exit → Act → World → Prop} {a : Act} {w : World}
    {gf : Nat} {lb : Array Value} (hg : a.eval g = .func (.func gf) #[] lb) (eg : ∀ args w, (callFunc gf args).run P w = .ok (.enter gf args) w)
    {encs : α → Array Value} (hps : ∀ x, (encs x).size = ps.size) (xs : List α) (X : Nat → Prop) (R : World → Prop)
    (hseq : ∀ W1, Below w.heap.size w W1 → W1.heap.size = w.heap.size + 2 → SeqXR P gf lb encs xs X R W1)
    (hX : ∀ r, X r → r ≠ w.heap.size ∧ r ≠ w.heap.size + 1)
    (I : List α → World → Prop) (hI : ∀ s A B row, I s A → A.grownBy B row → (∀ r, row = some r → X r ∨ r = w.heap.size ∨ r = w.heap.size + 1) → I s B) (h0 : I [] w) (hR : ∀ s A, I s A → R A)
    (Ax : α → Act → World → Prop) (hAx : ∀ x a' A o, A.heap.size > w.heap.size + 1 → Ax x a' A → Ax x a' (A.putObj (w.heap.size + 1) o))
    (hassign : ∀ (pre : List α) (x : α) (rest : List α) (A : World) (K : Act → World → Prop), xs = pre ++ x :: rest → I pre A → (∀ r, X r → r < A.heap.size) → w.heap.size + 2 ≤ A.heap.size →
      (∀ a' A', KeepsX (fun r => X r ∨ r = w.heap.size ∨ r = w.heap.size + 1) A A' → I pre A' → Ax x a' A' → K a' A') →
      assign.wpIn (Fence.wide.inRound (w.heap.size + 1)) 0 P (Exit.then K (fun _ _ _ => False)) { tmps := (ps.zip (encs x)).foldl (fun t (p, v) => t.setIfInBounds p v) a.tmps, defers := [] } A)
    (hbody : ∀ (pre : List α) (x : α) (rest : List α) (a' : Act) (A : World), xs = pre ++ x :: rest → I pre A → Ax x a' A → (∀ r, X r → r < A.heap.size) → w.heap.size + 2 ≤ A.heap.size → (∃ r, A.heap[w.heap.size + 1]? = some (.loop r)) →
      body.wpIn (Fence.wide.inRound (w.heap.size + 1)) 0 P (fun e _ B => e = .normal ∧ KeepsX (fun r => X r ∨ r = w.heap.size ∨ r = w.heap.size + 1) A B ∧ I (pre ++ [x]) B) a' A)
    (hdone : ∀ (W : World), I xs W → w.heap.size + 2 ≤ W.heap.size → W.heap[w.heap.size]? = some (.deferred (some [])) → Q .normal { a with defers := { target := .collected w.heap.size, args := #[] } :: a.defers } W) :
    (Code.rangeFunc g ps assign body).wpIn Fence.wide 0 P Q a w := by
  refine wpIn_rangeFunc fun fn hfn => ?_
  obtain ⟨rec, hrec⟩ : ∃ rec : LoopState → Option Code → Loop, rec = fun st pe => { state := st, pending := pe, fn, tmps := a.tmps, params := ps, assign, body, defers := w.heap.size } := ⟨_, rfl⟩
  have e1 : (w.alloc (.deferred (some []))).heap.size = w.heap.size + 1 := by simp
  have hA : Below w.heap.size w ((w.alloc (.deferred (some []))).alloc (.loop (rec .ready none))) := ((Below.refl _ w).alloc (Nat.le_refl _) _).alloc (by simp) _
  have hD : ((w.alloc (.deferred (some []))).alloc (.loop (rec .ready none))).heap[w.heap.size]? = some (.deferred (some [])) :=
    (Below.heap_alloc _ _ _ (by simp)).trans (World.alloc_heap_new w _)
  have hL : ((w.alloc (.deferred (some []))).alloc (.loop (rec .ready none))).heap[w.heap.size + 1]? = some (.loop (rec .ready none)) := by
    have h := World.alloc_heap_new (w.alloc (.deferred (some []))) (.loop (rec .ready none))
    rwa [e1] at h
  have hz : ((w.alloc (.deferred (some []))).alloc (.loop (rec .ready none))).heap.size = w.heap.size + 2 := by simp
  have hi0 : I [] ((w.alloc (.deferred (some []))).alloc (.loop (rec .ready none))) :=
    hI _ _ _ none (hI _ _ _ none h0 (World.grownBy_alloc w _ none) (fun r e => by cases e)) (World.grownBy_alloc _ _ none) (fun r e => by cases e)
  have henter : (Instr.enterLoop fn a.tmps ps assign body none).run P w = .ok (w.heap.size + 1, [{ target := .collected w.heap.size, args := #[] }]) ((w.alloc (.deferred (some []))).alloc (.loop (rec .ready none))) := by
    rw [hrec]; exact run_enterLoop_outer _ _ _ _ _
  generalize (w.alloc (.deferred (some []))).alloc (.loop (rec .ready none)) = W1 at *
  refine ⟨w.heap.size + 1, [{ target := .collected w.heap.size, args := #[] }], W1, { target := .fn (.func gf) lb, args := #[.func (.yield (w.heap.size + 1)) #[] #[]] }, W1, gf, #[.func (.yield (w.heap.size + 1)) #[] #[]] ++ lb, W1, henter, ?_, ?_, ?_, (fun h => by cases h), ?_⟩
  · simp only [resolve, hg]
    simp [go_sem]
  · intro f' _; trivial
  · simp [invoke, go_sem, eg]
  refine (hseq W1 hA hz (w.heap.size + 1) (fun pre A => I pre A ∧ A.heap[w.heap.size + 1]? = some (.loop (rec .ready none)) ∧ A.heap[w.heap.size]? = some (.deferred (some []))) ?_ (fun s A h => hR s A h.1) ?_ ⟨hi0, hL, hD⟩).mono ?_
  · rintro s A B row ⟨hi, hl, hd⟩ hgr hrow
    have ne : ∀ k, (k = w.heap.size ∨ k = w.heap.size + 1) → some k ≠ row := fun k hk e => by
      have h := hX k (hrow k e.symm)
      rcases hk with rfl | rfl
      · exact h.1 rfl
      · exact h.2 rfl
    exact ⟨hI s A B row hi hgr (fun r e => .inl (hrow r e)), (hgr.block _ (Array.getElem?_eq_some_iff.1 hl).1 (ne _ (.inr rfl))).trans hl, (hgr.block _ (Array.getElem?_eq_some_iff.1 hd).1 (ne _ (.inl rfl))).trans hd⟩
  · rintro pre x rest A hxs ⟨hi, hl, hd⟩ hXA
    have hlt : w.heap.size + 1 < A.heap.size := (Array.getElem?_eq_some_iff.1 hl).1
    have hy := run_yield (P := P) (args := encs x) hl (by rw [hrec]; exact hps x)
    rw [hrec] at hy
    refine ⟨fn, _, assign, body, hy, roundIn_of_wpIn hfn (hassign pre x rest A _ hxs hi hXA (by omega) ?_)⟩
    intro a' A1 hk1 hi1 hax
    have hl1 : A1.heap[w.heap.size + 1]? = some (.loop (rec .ready none)) := (hk1.2 _ (.inr (.inr rfl))).trans hl
    have hd1 : A1.heap[w.heap.size]? = some (.deferred (some [])) := (hk1.2 _ (.inr (.inl rfl))).trans hd
    have hlt1 : w.heap.size + 1 < A1.heap.size := (Array.getElem?_eq_some_iff.1 hl1).1
    refine ⟨_, run_beginRound hl1 (by rw [hrec]), ?_⟩
    have put : ∀ (C : World) (o : Obj), C.grownBy (C.putObj (w.heap.size + 1) o) (some (w.heap.size + 1)) := fun C o => grownBy_putObj' C _ o
    have hi2 := hI _ _ _ _ hi1 (put A1 (.loop { rec .ready none with state := .busy })) (fun r e => by cases e; exact .inr (.inr rfl))
    have hax2 := hAx x a' A1 (.loop { rec .ready none with state := .busy }) hlt1 hax
    have hl2 : (A1.putObj (w.heap.size + 1) (.loop { rec .ready none with state := .busy })).heap[w.heap.size + 1]? = some (.loop { rec .ready none with state := .busy }) := World.putObj_heap_same hlt1
    have hd2 : (A1.putObj (w.heap.size + 1) (.loop { rec .ready none with state := .busy })).heap[w.heap.size]? = some (.deferred (some [])) := (World.putObj_heap_other (by omega)).trans hd1
    have hz2 : A1.heap.size ≤ (A1.putObj (w.heap.size + 1) (.loop { rec .ready none with state := .busy })).heap.size := (put A1 _).size
    have hk2 : ∀ r, X r → (A1.putObj (w.heap.size + 1) (.loop { rec .ready none with state := .busy })).heap[r]? = A1.heap[r]? := fun r hr => World.putObj_heap_other (hX r hr).2
    generalize A1.putObj (w.heap.size + 1) (.loop { rec .ready none with state := .busy }) = A2 at *
    refine wpIn_mono (hbody pre x rest a' A2 hxs hi2 hax2 (fun r hr => Nat.lt_of_lt_of_le (hXA r hr) (Nat.le_trans hk1.1 hz2)) (by omega) ⟨_, hl2⟩) ?_
    rintro e a3 A3 ⟨rfl, hk3, hi3⟩
    have hl3 : A3.heap[w.heap.size + 1]? = some (.loop { rec .ready none with state := .busy }) := (hk3.2 _ (.inr (.inr rfl))).trans hl2
    have hd3 : A3.heap[w.heap.size]? = some (.deferred (some [])) := (hk3.2 _ (.inr (.inl rfl))).trans hd2
    have hlt3 : w.heap.size + 1 < A3.heap.size := (Array.getElem?_eq_some_iff.1 hl3).1
    have hend := run_endRound (P := P) none hl3
    rw [hrec] at hend hl3
    refine ⟨_, _, hend, rfl, ⟨hI _ _ _ _ hi3 (put A3 _) (fun r e => by cases e; exact .inr (.inr rfl)), ?_, (World.putObj_heap_other (by omega)).trans hd3⟩, ?_, fun r hr => ?_⟩
    · rw [World.putObj_heap_same hlt3, hrec]; rfl
    · exact Nat.le_trans hk1.1 (Nat.le_trans hz2 (Nat.le_trans hk3.1 (put A3 _).size))
    · exact (World.putObj_heap_other (hX r hr).2).trans ((hk3.2 r (.inl hr)).trans ((hk2 r hr).trans (hk1.2 r (.inl hr))))
  · rintro e W2 ⟨⟨v, rfl⟩, hi, hl, hd⟩
    have hend := run_endLoop (P := P) hl (by rw [hrec]; simp)
    rw [hrec] at hend
    have hlt : w.heap.size + 1 < W2.heap.size := (Array.getElem?_eq_some_iff.1 hl).1
    exact ⟨none, _, hend, hdone _ (hI _ _ _ _ hi (grownBy_putObj' W2 _ _) (fun r e => by cases e; exact .inr (.inr rfl))) (by have := (grownBy_putObj' W2 (w.heap.size + 1) (.loop { rec .ready none with state := .exhausted })).size; rw [hrec] at this; exact Nat.le_trans hlt this) ((World.putObj_heap_other (by omega)).trans hd)⟩

end Go.Proofs.YtonafonhadocgaaDoor

/- What the library's variables hold: one premise, carried over every call. -/
namespace Go.Proofs.YtonafonhadocgaaDoor
open Go.RowKit Go.Shelf

/-- A table of bytes in its variable. -/
def ByteTab (g : Nat) (tab : List Nat) (w : World) : Prop := ∀ j, j < tab.length → w.cell? ⟨g, j, none⟩ = some (.int .u8 (tab.getD j 0))

structure Env (w : World) : Prop where
  max : ∃ m, w.cell? ⟨0, 0, none⟩ = some (.int .i64 m)
  pow : Lib.TabIs Tryd.prog w "internal/strconv.uint64pow10" .u64 Lib.pow10Tab
  bru : ByteTab 5 Lib.deBruijn64tab w
  syn : ∃ tp p, w.var? Tryd.prog "strconv.ErrSyntax" = some #[.iface tp p]
  rng : ∃ tp p, w.var? Tryd.prog "strconv.ErrRange" = some #[.iface tp p]

theorem var_later {P : Program} {w w' : World} {n : String} {cs : Array Value} (hb : Below w.heap.size w w') (h : w.var? P n = some cs) : w'.var? P n = some cs := by
  unfold World.var? at *
  cases hg : P.globalNamed n with
  | none => simp [hg] at h
  | some g =>
    simp only [hg, Option.bind_some] at h ⊢
    have hlt : g < w.heap.size := by
      rcases Nat.lt_or_ge g w.heap.size with h' | h'
      · exact h'
      · rw [Array.getElem?_eq_none h'] at h; simp at h
    rw [hb.block g hlt]
    exact h

theorem Env.below {w w' : World} (h : Env w) (hb : Below w.heap.size w w') : Env w' := by
  obtain ⟨m, hm⟩ := h.max
  obtain ⟨t1, p1, h1⟩ := h.syn
  obtain ⟨t2, p2, h2⟩ := h.rng
  exact ⟨⟨m, cell_later hb hm⟩, var_later hb h.pow, fun j hj => cell_later hb (h.bru j hj), ⟨t1, p1, var_later hb h1⟩, ⟨t2, p2, var_later hb h2⟩⟩
theorem Env.alloc {w : World} (h : Env w) (o : Obj) : Env (w.alloc o) := h.below ((Below.refl _ _).alloc (Nat.le_refl _) o)
theorem Env.drewN {w : World} (h : Env w) (k : Nat) : Env (w.drewN k) := h.below ⟨rfl, rfl, rfl, Nat.le_refl _, fun _ _ => rfl⟩
theorem Env.drew {w : World} (h : Env w) : Env w.drew := h.below ⟨rfl, rfl, rfl, Nat.le_refl _, fun _ _ => rfl⟩
theorem below_drewN {b : Nat} {u v : World} (h : Below b u v) (k : Nat) : Below b u (v.drewN k) := ⟨h.os, h.tape, h.output, h.size, h.block⟩
theorem below_drew {b : Nat} {u v : World} (h : Below b u v) : Below b u v.drew := ⟨h.os, h.tape, h.output, h.size, h.block⟩
end Go.Proofs.YtonafonhadocgaaDoor

/- strconv.FormatUint at base 10, and text.Unsigned: every uint64. -/
namespace Go.Proofs.YtonafonhadocgaaDoor
open Go.RowKit Go.Shelf Go.Sort Go.Lib

/-- A number's decimal digits. -/
def dec (n : Nat) : List UInt8 := Lib.decDigits n

theorem holds_zero0 (w : World) (T : TypeId) (nd : Nat) (hs : nd ≤ 24) : Holds (fun (b : UInt8) => Value.int .u8 (b.toNat : Int)) (w.alloc (.cells zeros24 T)) w.heap.size 0 (Array.replicate nd (0 : UInt8)) := fun j hj => by
  have hj' : j < nd := by simpa using hj
  refine ⟨?_, World.frozen?_alloc_new _ _ _ _⟩
  rw [World.cell?_alloc_new, zeros24_at _ (by omega), getElem!_pos _ j hj]
  simp

theorem below_put (w : World) (o : Obj) (dk : Array UInt8) (k : Nat) : Below w.heap.size w ((putRow (fun (b : UInt8) => Value.int .u8 (b.toNat : Int)) (w.alloc o) w.heap.size 0 dk).drewN k) := by
  rw [alloc_eq_grow]
  obtain ⟨os', _, e⟩ := putRow_grow_new (fun (b : UInt8) => Value.int .u8 (b.toNat : Int)) w #[o] w.heap.size 0 dk (Nat.le_refl _)
  rw [e]
  exact below_grow w.heap.size w (Nat.le_refl _) k os'

set_option maxRecDepth 100000 in
set_option maxHeartbeats 4000000 in
theorem ifmt10_any (u : Nat) (hu64 : u < 18446744073709551616) (w : World) (env : Env w) :
    Calls Tryd.prog 62 #[.int .u64 u, .int .i64 10] w fun e w' => e = .returned (.string ⟨(dec u).toArray⟩) ∧ Below w.heap.size w w' := by
  by_cases hs : u < 100
  · go_enter Tryd.func62, Tryd.ntmps62
    go_wp2_with fail
    refine (Any.internal_strconv_small lays283 u hs _).mono ?_
    rintro e w' ⟨rfl, rfl⟩
    go_wp2_with fail
    go_ret
    exact ⟨rfl, Below.refl _ _⟩
  · have hu1 : 1 ≤ u := by omega
    have hnd20 : Lib.nDigits u ≤ 20 := by have := Lib.numDigits_eq u hu1 hu64; split at this <;> omega
    have hnd24 : Lib.nDigits u ≤ 24 := by omega
    have hal : Tryd.prog.arrayLen 129 = 24 := by kernel_rfl
    have hsl1 : ∀ W, (Instr.sliceAt 129 (.pointer (some ⟨w.heap.size, 0, none⟩)) none (some (.int .i64 (Lib.nDigits u : Int))) none).run Tryd.prog W = .ok (.slice (some ⟨w.heap.size, 0, none⟩) (Lib.nDigits u) 24) W := fun W => by
      rw [run_sliceAt_array_h W 129 ⟨w.heap.size, 0, none⟩ (by kernel_rfl) .i64 (Lib.nDigits u : Int) (by omega) (by rw [hal]; omega)]
      go_simp
    have hH0 := holds_zero0 w 129 (Lib.nDigits u) (by omega)
    have hfmt := Any.internal_strconv_formatBase10 lays285 w.heap.size 0 24 u (Array.replicate (Lib.nDigits u) 0) (w.alloc (.cells Lib.zeros24 129)) hH0 (by rw [Array.size_replicate]; exact Lib.lt_pow_nDigits u) hu64 (by rw [Array.size_replicate]; omega)
    rw [Array.size_replicate] at hfmt
    have HH0 := Lib.hid hH0
    have HP := Lib.hid env.pow
    clear hH0 hal env
    go_enter Tryd.func62, Tryd.ntmps62
    go_wp2_with fail
    refine (Any.internal_strconv_numDigits lays284 u hu1 hu64 _ (Lib.tabIs_alloc HP.out _)).mono ?_
    rintro e w' ⟨rfl, rfl⟩
    go_wp2_with fail
    refine hfmt.mono ?_
    rintro e w' ⟨rfl, k, v', dk, rfl, hF⟩
    have HB := Lib.hid (below_put w (.cells Lib.zeros24 129) dk k)
    have hcv : (convert 57 9 (.slice (some ⟨w.heap.size, 0, none⟩) (Lib.nDigits u) 24)).run Tryd.prog ((putRow (fun (b : UInt8) => Value.int .u8 (b.toNat : Int)) (w.alloc (.cells Lib.zeros24 129)) w.heap.size 0 dk).drewN k) = .ok (.string ⟨(Lib.decDigits u).toArray⟩) ((putRow (fun (b : UInt8) => Value.int .u8 (b.toNat : Int)) (w.alloc (.cells Lib.zeros24 129)) w.heap.size 0 dk).drewN k) := by
      have h := run_convert_bytes_back (P := Tryd.prog) ((putRow (fun (b : UInt8) => Value.int .u8 (b.toNat : Int)) (w.alloc (.cells Lib.zeros24 129)) w.heap.size 0 dk).drewN k) 57 9 5 ⟨w.heap.size, 0, none⟩ 24 (Lib.decDigits u) Tryd.underlying57 Tryd.underlying5 Tryd.underlying9 (fun j hj => by
        rw [Lib.row_is_numeral hF j hj, Lib.add_plain, World.cell?_drewN]
        exact cell?_putRow (fun (b : UInt8) => Value.int .u8 (b.toNat : Int)) _ w.heap.size 0 _ dk HH0.out (by rw [hF.size, Array.size_replicate]) j (by rw [hF.size]; rw [Lib.decDigits_length] at hj; exact hj))
      rw [Lib.decDigits_length] at h
      exact h
    clear hfmt
    go_wp2_with fail
    go_ret
    exact ⟨rfl, HB.out⟩

set_option maxRecDepth 100000 in
theorem fmt10_any (u : Nat) (hu64 : u < 18446744073709551616) (w : World) (env : Env w) :
    Calls Tryd.prog 50 #[.int .u64 u, .int .i64 10] w fun e w' => e = .returned (.string ⟨(dec u).toArray⟩) ∧ Below w.heap.size w w' := by
  have H := Lib.hid (ifmt10_any u hu64)
  have E := Lib.hid env
  clear env
  go_enter Tryd.func50, Tryd.ntmps50
  go_wp2_with fail
  refine (H.out _ E.out).mono ?_
  rintro e w' ⟨rfl, b⟩
  have B := Lib.hid b
  clear b
  go_wp2_with fail
  go_ret
  exact ⟨rfl, B.out⟩

set_option maxRecDepth 100000 in
theorem unsigned_any (u : Nat) (hu64 : u < 18446744073709551616) (w : World) (env : Env w) :
    Calls Tryd.prog 30 #[.int .u64 u] w fun e w' => e = .returned (.string ⟨(dec u).toArray⟩) ∧ Below w.heap.size w w' := by
  have H := Lib.hid (fmt10_any u hu64)
  have E := Lib.hid env
  clear env
  go_enter Tryd.func30, Tryd.ntmps30
  go_wp2_with fail
  refine (H.out _ E.out).mono ?_
  rintro e w' ⟨rfl, b⟩
  have B := Lib.hid b
  clear b
  go_wp2_with fail
  go_ret
  exact ⟨rfl, B.out⟩
end Go.Proofs.YtonafonhadocgaaDoor

/- text.Ununsigned: the number of a decimal text, as it is printed. -/
namespace Go.Proofs.YtonafonhadocgaaDoor
open Go.RowKit Go.Shelf

/-- The number that a text is the digits of. -/
def unum (s : ByteArray) : Option Nat :=
  match Lib.parseUintB 64 s.data.toList with
  | .ok u => if (⟨(dec u).toArray⟩ : ByteArray) = s then some u else none
  | _ => none
def unumV (s : ByteArray) : Value := match unum s with
  | some n => .tuple #[.int .u64 n, .bool true]
  | none => .tuple #[.int .u64 0, .bool false]

theorem str_ne {t s : ByteArray} (h : ¬ t = s) : (t.toList == s.toList) = false := by
  rw [beq_eq_false_iff_ne]
  intro e
  rw [ByteArray.toList_eq, ByteArray.toList_eq] at e
  exact h (by cases t; cases s; simp at e; rw [e])

set_option maxRecDepth 100000 in
set_option maxHeartbeats 2000000 in
theorem ununsigned_any (s : ByteArray) (hs : s.size ≤ 281474976710656) (w : World) (env : Env w) :
    Calls Tryd.prog 44 #[.string s] w fun e w' => e = .returned (unumV s) ∧ Below w.heap.size w w' := by
  have E := Lib.hid env
  cases h : Lib.parseUintB 64 s.data.toList with
  | ok u =>
    have hu : u < 18446744073709551616 := by have := Lib.parseUintB_le h; omega
    have HP := Lib.hid (fun W => Any.strconv_ParseUint_10_at64_ok lays14 s (by omega) u h W)
    have HU := Lib.hid (fun W (e : Env W) => unsigned_any u hu W e)
    by_cases he : (⟨(dec u).toArray⟩ : ByteArray) = s
    · have HV := Lib.hid (show unumV s = .tuple #[.int .u64 u, .bool true] by simp only [unumV, unum, h, if_pos he])
      rw [he] at HU
      clear he h env hs
      go_enter Tryd.func44, Tryd.ntmps44
      go_wp2_with fail
      refine (HP.out _).mono ?_
      rintro e w1 ⟨rfl, hw⟩
      have B1 := Lib.hid (show Below w.heap.size w w1 by rcases hw with hw | hw <;> subst hw <;> first | exact Below.refl _ _ | exact Lib.bytesWorld_below _ _ _)
      clear hw
      go_wp2_with fail
      refine (HU.out _ (E.out.below B1.out)).mono ?_
      rintro e w2 ⟨rfl, b⟩
      have B2 := Lib.hid (B1.out.trans (b.mono B1.out.size))
      clear b
      go_wp2_with fail
      go_ret2
      exact ⟨by rw [HV.out]; rfl, B2.out⟩
    · have HV := Lib.hid (show unumV s = .tuple #[.int .u64 0, .bool false] by simp only [unumV, unum, h, if_neg he])
      have hn := str_ne he
      generalize (⟨(dec u).toArray⟩ : ByteArray) = t at *
      clear he h env hs
      go_enter Tryd.func44, Tryd.ntmps44
      go_wp2_with fail
      refine (HP.out _).mono ?_
      rintro e w1 ⟨rfl, hw⟩
      have B1 := Lib.hid (show Below w.heap.size w w1 by rcases hw with hw | hw <;> subst hw <;> first | exact Below.refl _ _ | exact Lib.bytesWorld_below _ _ _)
      clear hw
      go_wp2_with fail
      refine (HU.out _ (E.out.below B1.out)).mono ?_
      rintro e w2 ⟨rfl, b⟩
      have B2 := Lib.hid (B1.out.trans (b.mono B1.out.size))
      clear b
      go_wp2_with fail
      go_ret2
      exact ⟨by rw [HV.out]; rfl, B2.out⟩
  | range =>
    obtain ⟨tp, p, hv⟩ := env.rng
    have HP := Lib.hid (Any.strconv_ParseUint_10_at64_range_var lays14 s hs h tp p w hv)
    have HV := Lib.hid (show unumV s = .tuple #[.int .u64 0, .bool false] by simp only [unumV, unum, h])
    clear h env hs hv
    go_enter Tryd.func44, Tryd.ntmps44
    go_wp2_with fail
    refine HP.out.mono ?_
    rintro e w1 ⟨N, rfl, _, _, b⟩
    have B1 := Lib.hid b
    clear b
    go_wp2_with fail
    go_ret2
    exact ⟨by rw [HV.out]; rfl, B1.out⟩
  | _ =>
    obtain ⟨tp, p, hv⟩ := env.syn
    have HP := Lib.hid (Any.strconv_ParseUint_10_at64_syntax_var lays14 s hs h tp p w hv)
    have HV := Lib.hid (show unumV s = .tuple #[.int .u64 0, .bool false] by simp only [unumV, unum, h])
    clear h env hs hv
    go_enter Tryd.func44, Tryd.ntmps44
    go_wp2_with fail
    refine HP.out.mono ?_
    rintro e w1 ⟨N, rfl, _, _, b⟩
    have B1 := Lib.hid b
    clear b
    go_wp2_with fail
    go_ret2
    exact ⟨by rw [HV.out]; rfl, B1.out⟩
end Go.Proofs.YtonafonhadocgaaDoor

/- strings.Split at a text of one byte. -/
namespace Go.Proofs.YtonafonhadocgaaDoor
open Go.RowKit Go.Shelf

/-- A text's parts between bytes. -/
def spl (b : UInt8) : List UInt8 → List (List UInt8)
  | [] => [[]]
  | c :: r => if c = b then [] :: spl b r else match spl b r with
    | h :: t => (c :: h) :: t
    | [] => [[c]]

theorem splitK_one (b : UInt8) (l : List UInt8) : ∀ k, Lib.count l [b] = k → Lib.splitK [b] 0 k l = spl b l := by
  induction l with
  | nil =>
    intro k hk
    rw [Lib.count_miss (by simp [Lib.index])] at hk
    subst hk
    rfl
  | cons c l ih =>
    intro k hk
    by_cases hc : c = b
    · subst hc
      rw [Lib.count_cons_eq] at hk
      obtain ⟨j, rfl⟩ : ∃ j, k = j + 1 := ⟨k - 1, by omega⟩
      have hix : Lib.index (c :: l) [c] = 0 := by rw [Lib.index]; simp [List.isPrefixOf]
      rw [Lib.splitK, hix, if_neg (by decide), spl, if_pos rfl]
      congr 1
      simpa using ih j (by omega)
    · rw [Lib.count_cons_ne c b l hc] at hk
      have hp : ([b] : List UInt8).isPrefixOf (c :: l) = false := by simp [List.isPrefixOf, Ne.symm hc]
      have hix : Lib.index (c :: l) [b] = if Lib.index l [b] == -1 then -1 else Lib.index l [b] + 1 := by rw [Lib.index, hp]; simp
      have ih' := ih k hk
      rw [spl, if_neg hc, ← ih']
      cases k with
      | zero => rfl
      | succ k =>
        have hm : ¬ Lib.index l [b] = -1 := fun e => by rw [Lib.count_miss e] at hk; omega
        have hge := Lib.index_ge l [b]
        obtain ⟨j, hj⟩ : ∃ j : Nat, Lib.index l [b] = j := ⟨(Lib.index l [b]).toNat, by omega⟩
        have hix' : Lib.index (c :: l) [b] = ((j + 1 : Nat) : Int) := by rw [hix, if_neg (fun e => hm (beq_iff_eq.1 e)), hj]; omega
        rw [Lib.splitK, Lib.splitK, hix', hj, if_neg (fun e => by have := beq_iff_eq.1 e; omega), if_neg (fun e => by have := beq_iff_eq.1 e; omega)]
        simp

def mkB (l : List UInt8) : ByteArray := ⟨l.toArray⟩
theorem mkB_of (s : ByteArray) : mkB s.data.toList = s := by cases s; rfl
def partsB (b : UInt8) (s : ByteArray) : List ByteArray := (spl b s.data.toList).map mkB

theorem splitB_parts (b : UInt8) (s : ByteArray) : Lib.splitB ⟨#[b]⟩ 0 (Lib.countB s ⟨#[b]⟩) s = partsB b s := by
  have h := Lib.splitB_data ⟨#[b]⟩ 0 (Lib.countB s ⟨#[b]⟩) s
  rw [show (⟨#[b]⟩ : ByteArray).data.toList = [b] from rfl, splitK_one b _ _ rfl] at h
  unfold partsB
  rw [← h, List.map_map]
  have : (mkB ∘ fun x : ByteArray => x.data.toList) = id := by funext x; exact mkB_of x
  rw [this, List.map_id]
theorem parts_count (b : UInt8) (s : ByteArray) : Lib.countB s ⟨#[b]⟩ + 1 = (partsB b s).length := by
  rw [← splitB_parts, Lib.splitB_all ⟨#[b]⟩ (by show 1 ≤ 1; omega) 0 _ s rfl]

theorem spl_len (b : UInt8) (l : List UInt8) : ∀ x ∈ spl b l, x.length ≤ l.length := by
  induction l with
  | nil => intro x hx; simp [spl] at hx; rw [hx]; exact Nat.le_refl _
  | cons c r ih =>
    intro x hx
    by_cases hc : c = b
    · rw [spl, if_pos hc] at hx
      rcases List.mem_cons.1 hx with rfl | h
      · simp
      · have := ih x h
        simp; omega
    · rw [spl, if_neg hc] at hx
      cases hsp : spl b r with
      | nil =>
        rw [hsp] at hx
        simp at hx
        rw [hx]; simp
      | cons h t =>
        rw [hsp] at hx ih
        rcases List.mem_cons.1 hx with rfl | hm
        · have := ih h (List.mem_cons_self ..)
          simp; omega
        · have := ih x (List.mem_cons_of_mem _ hm)
          simp; omega
theorem parts_size (b : UInt8) (s : ByteArray) : ∀ x ∈ partsB b s, x.size ≤ s.size := by
  intro x hx
  obtain ⟨l, hl, rfl⟩ := List.mem_map.1 hx
  exact spl_len b _ l hl
theorem spl_count (b : UInt8) (l : List UInt8) : (spl b l).length ≤ l.length + 1 := by
  induction l with
  | nil => simp [spl]
  | cons c r ih =>
    by_cases hc : c = b
    · rw [spl, if_pos hc]; simp; omega
    · rw [spl, if_neg hc]
      cases hsp : spl b r with
      | nil => simp
      | cons h t => rw [hsp] at ih; simp at ih ⊢; omega
theorem parts_len (b : UInt8) (s : ByteArray) : (partsB b s).length ≤ s.size + 1 := by
  unfold partsB
  rw [List.length_map]
  exact spl_count b _

theorem split_any (b : UInt8) (s : ByteArray) (hs : s.size < 4294967281) (w : World) (env : Env w) :
    Calls Tryd.prog 68 #[.string s, .string ⟨#[b]⟩] w fun e w' => e = .returned (.slice (some ⟨w.heap.size, 0, none⟩) (partsB b s).length (partsB b s).length) ∧ w' = w.alloc (.cells ((partsB b s).map Value.string).toArray 9) := by
  obtain ⟨m, hm⟩ := env.max
  have h := Any.strings_Split { lays146 with } lays146.i9 s ⟨#[b]⟩ m w hs hm (by show 1 ≤ 1; omega)
  rw [splitB_parts, parts_count] at h
  exact h
end Go.Proofs.YtonafonhadocgaaDoor
