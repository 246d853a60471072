/- Laws and walks that the claim's last text leans on, joined: each part says above itself what it proves. -/
import Derived.Test.YtonafonhadocgaaDoorQF
import Derived.ChangeKeysEq
import Derived.Test.YtonafonhadocgaaDoorQA

/- Equality of rows of bytes, and of addresses. -/
namespace Go.Proofs.YtonafonhadocgaaDoor
open Go.RowKit Go.Shelf

theorem bv_at (l : List UInt8) (k : Nat) (h : k < l.length) : (bv l).toArray[k]? = some (Value.int .u8 ((l[k]'h).toNat : Int)) := by
  rw [List.getElem?_toArray]; simp [bv, h]

theorem eq_items (d : Nat) (xs ys : List UInt8) (h : xs.length = ys.length) (w : World) : ∀ m k, k + m = xs.length →
    (Op.eqItems (d + 1) 5 1 (bv xs).toArray (bv ys).toArray (List.range' k m)).run Tryd.prog w = .ok (decide (xs.drop k = ys.drop k)) w
  | 0, k, hk => by
    rw [List.drop_eq_nil_of_le (by omega), List.drop_eq_nil_of_le (by omega)]
    simp [Op.eqItems]
  | m + 1, k, hk => by
    have h1 : k < xs.length := by omega
    have h2 : k < ys.length := by omega
    have hp : Tryd.prog.plainKey 5 = true := by kernel_rfl
    have p1 := run_part_plain (P := Tryd.prog) w hp (bv_at xs k h1)
    have p2 := run_part_plain (P := Tryd.prog) w hp (bv_at ys k h2)
    have ih := eq_items d xs ys h w m (k + 1) (by omega)
    rw [List.range'_succ]
    simp only [Op.eqItems, Nat.mul_one, Sem.run_bind, p1, p2, Result.andThen_ok, run_equalIn_int (P := Tryd.prog) w d 5 .u8 .u8 _ _ Tryd.underlying5]
    rw [List.drop_eq_getElem_cons h1, List.drop_eq_getElem_cons h2]
    by_cases e : xs[k] = ys[k]
    · rw [e, beq_self_eq_true, Bool.not_true, if_neg (by decide), ih]
      exact congrArg (Result.ok · w) (decide_eq_decide.2 ⟨fun h => by rw [h], fun h => (List.cons.inj h).2⟩)
    · have : ¬ ((xs[k].toNat : Int) = (ys[k].toNat : Int)) := fun q => e (UInt8.toNat_inj.1 (by exact_mod_cast q))
      rw [beq_eq_false_iff_ne.2 this, Bool.not_false, if_pos rfl]
      exact congrArg (Result.ok · w) (decide_eq_false fun h => e (List.cons.inj h).1).symm

theorem bytes_eq (t : TypeId) (n : Nat) (hu : Tryd.prog.underlying t = some (.array n 5)) (d : Nat) (xs ys : List UInt8) (h1 : xs.length = n) (h2 : ys.length = n) (w : World) :
    (Op.equalIn (d + 2) t (.agg (bv xs).toArray) (.agg (bv ys).toArray)).run Tryd.prog w = .ok (decide (xs = ys)) w := by
  obtain ⟨i, hi⟩ := info_of_underlying (P := Tryd.prog) Tryd.underlying5
  have hc : Tryd.prog.cellsOf 5 = 1 := by kernel_rfl
  rw [run_equalIn_array (P := Tryd.prog) w (d + 1) _ _ hu hi, hc, List.range_eq_range', eq_items d xs ys (h1.trans h2.symm) w n 0 (by rw [h1]; exact Nat.zero_add n)]
  rfl

@[go_sem] theorem eq_twelve (xs ys : List UInt8) (h1 : xs.length = 12) (h2 : ys.length = 12) (w : World) :
    (Op.equalIn 10000 114 (.agg (bv xs).toArray) (.agg (bv ys).toArray)).run Tryd.prog w = .ok (decide (xs = ys)) w :=
  bytes_eq 114 12 Tryd.underlying114 9998 xs ys h1 h2 w

theorem part_v (u : Bool) (xs : List UInt8) (w : World) : (part 4 (adC u xs) 0).run Tryd.prog w = .ok (.bool u) w := run_part_plain (P := Tryd.prog) w (by kernel_rfl) (by rfl)

theorem part_b (u : Bool) (xs : List UInt8) (h : xs.length = 16) (w : World) : (part 22 (adC u xs) 1).run Tryd.prog w = .ok (.agg (bv xs).toArray) w := by
  have e : (adC u xs).extract 1 17 = (bv xs).toArray := by
    apply Array.toList_inj.1
    rw [Array.toList_extract]
    show ((bv xs).drop 0).take 16 = bv xs
    exact List.take_of_length_le (by rw [List.drop_zero, bv_length, h]; exact Nat.le_refl _)
  have hg : (isAgg 22).run Tryd.prog w = .ok true w := Tryd.isAgg22 w
  have hs : (sizeOf 22).run Tryd.prog w = .ok 16 w := Tryd.sizeOf22 w
  simp only [part, Sem.run_bind, hg, hs, Result.andThen_ok, if_true, e]
  exact Sem.run_pure ..

theorem eq_addr_d (d : Nat) (u v : Bool) (xs ys : List UInt8) (h1 : xs.length = 16) (h2 : ys.length = 16) (w : World) :
    (Op.equalIn (d + 3) 24 (.agg (adC u xs)) (.agg (adC v ys))).run Tryd.prog w = .ok (decide (u = v ∧ xs = ys)) w := by
  have hS : Tryd.prog.underlying 24 = some (.struct (Tryd.prog.fieldsOf 24)) := by kernel_rfl
  have hp : Tryd.prog.stoodInHeld 24 = false := by kernel_rfl
  obtain ⟨f1, f2, hf, n1, n2, t1, t2, o1, o2⟩ : ∃ f1 f2, (Tryd.prog.fieldsOf 24).toList = [f1, f2] ∧ f1.name ≠ "_" ∧ f2.name ≠ "_" ∧ f1.type = 4 ∧ f2.type = 22 ∧ f1.offset = 0 ∧ f2.offset = 1 := by
    simp only [Program.fieldsOf, Tryd.underlying24]
    exact ⟨_, _, rfl, by decide, by decide, rfl, rfl, rfl, rfl⟩
  rw [run_equalIn_agg w (d + 2) 24 _ _ hS hp, hf]
  simp only [Op.eqFields, n1, n2, t1, t2, o1, o2, ne_eq, not_false_eq_true, if_true, Sem.run_bind, part_v, Result.andThen_ok, run_equalIn_bool (P := Tryd.prog) w (d + 1) 4 _ _ Tryd.underlying4]
  cases u <;> cases v
  all_goals simp [part_b _ xs h1, part_b _ ys h2, bytes_eq 22 16 Tryd.underlying22 d xs ys h1 h2 w]
  all_goals by_cases e : xs = ys <;> simp [e]

theorem eq_addr (u v : Bool) (xs ys : List UInt8) (h1 : xs.length = 16) (h2 : ys.length = 16) (w : World) :
    (Op.equalIn 10000 24 (.agg (adC u xs)) (.agg (adC v ys))).run Tryd.prog w = .ok (decide (u = v ∧ xs = ys)) w :=
  eq_addr_d 9997 u v xs ys h1 h2 w
end Go.Proofs.YtonafonhadocgaaDoor

/- addr.May. -/
namespace Go.Proofs.YtonafonhadocgaaDoor
open Go.RowKit Go.Shelf

def mayB (v6 : Bool) (l : List UInt8) : Bool := v6 || decide (l.drop 4 = List.replicate 12 0)

theorem a12 : (Tryd.prog.info? 114).map (·.size) = some 12 := by kernel_rfl

set_option maxRecDepth 100000 in
set_option maxHeartbeats 4000000 in
theorem may_yes (l : List UInt8) (w : World) :
    Calls Tryd.prog 45 #[.agg (adC true l)] w fun e w' => e = .returned (.bool true) ∧ Below w.heap.size w w' := by
  have k := Blk.new w 24 (adC true l)
  have q := k.cell 0
  have q0 : (w.alloc (.cells (adC true l) 24)).cell? ⟨w.heap.size, 0, none⟩ = some (.bool true) := by rw [q]; rfl
  have HB := Lib.hid ((Below.refl _ w).alloc (Nat.le_refl _) (.cells (adC true l) 24))
  clear k q
  go_enter Tryd.func45, Tryd.ntmps45
  go_wp2_with fail
  go_ret
  exact ⟨rfl, HB.out⟩

set_option maxRecDepth 100000 in
set_option maxHeartbeats 4000000 in
theorem may_four (b0 b1 b2 b3 b4 b5 b6 b7 b8 b9 b10 b11 b12 b13 b14 b15 : UInt8) (w : World) :
    Calls Tryd.prog 45 #[.agg (adC false [b0, b1, b2, b3, b4, b5, b6, b7, b8, b9, b10, b11, b12, b13, b14, b15])] w fun e w' => e = .returned (.bool (decide ([b4, b5, b6, b7, b8, b9, b10, b11, b12, b13, b14, b15] = List.replicate 12 0))) ∧ Below w.heap.size w w' := by
  obtain ⟨cs, hcs⟩ : ∃ cs, cs = adC false [b0, b1, b2, b3, b4, b5, b6, b7, b8, b9, b10, b11, b12, b13, b14, b15] := ⟨_, rfl⟩
  rw [← hcs]
  obtain ⟨r, hr⟩ : ∃ r, r = decide ([b4, b5, b6, b7, b8, b9, b10, b11, b12, b13, b14, b15] = List.replicate 12 0) := ⟨_, rfl⟩
  rw [← hr]
  have k := Blk.new w 24 cs
  have q := k.cell 0
  have q0 : (w.alloc (.cells cs 24)).cell? ⟨w.heap.size, 0, none⟩ = some (.bool false) := by rw [q, hcs]; rfl
  have HB := Lib.hid ((Below.refl _ w).alloc (Nat.le_refl _) (.cells cs 24))
  have K := Lib.hid k
  have HC := Lib.hid hcs
  have ha : ∀ W : World, (Instr.arrayAt 114 (.slice (some ⟨w.heap.size, 5, none⟩) 12 12)).run Tryd.prog W = .ok (.pointer (some ⟨w.heap.size, 5, none⟩)) W := fun W => by kernel_rfl
  have hz : ∀ W : World, (Op.equalIn 10000 114 (.agg (bv [b4, b5, b6, b7, b8, b9, b10, b11, b12, b13, b14, b15]).toArray) (.agg #[.int .u8 0, .int .u8 0, .int .u8 0, .int .u8 0, .int .u8 0, .int .u8 0, .int .u8 0, .int .u8 0, .int .u8 0, .int .u8 0, .int .u8 0, .int .u8 0])).run Tryd.prog W = .ok r W := fun W => by rw [hr]; exact eq_twelve _ (List.replicate 12 0) rfl rfl W
  clear k q hcs hr
  go_enter Tryd.func45, Tryd.ntmps45
  go_wp2_with (refine wpList_load_part 114 (.tmp 8) w.heap.size 5 24 cs (bv [b4, b5, b6, b7, b8, b9, b10, b11, b12, b13, b14, b15]) _ K.out (by rw [HC.out]; rfl) (by rfl) (by rfl) Tryd.underlying114 rfl a12 (by rfl) ?_)
  go_ret
  exact ⟨rfl, HB.out⟩

theorem sixteen (l : List UInt8) (h : l.length = 16) : ∃ b0 b1 b2 b3 b4 b5 b6 b7 b8 b9 b10 b11 b12 b13 b14 b15, l = [b0, b1, b2, b3, b4, b5, b6, b7, b8, b9, b10, b11, b12, b13, b14, b15] := by
  match l, h with
  | [b0, b1, b2, b3, b4, b5, b6, b7, b8, b9, b10, b11, b12, b13, b14, b15], _ => exact ⟨_, _, _, _, _, _, _, _, _, _, _, _, _, _, _, _, rfl⟩

/-- addr.May. -/
theorem may_any (v6 : Bool) (l : List UInt8) (h : l.length = 16) (w : World) :
    Calls Tryd.prog 45 #[.agg (adC v6 l)] w fun e w' => e = .returned (.bool (mayB v6 l)) ∧ Below w.heap.size w w' := by
  cases v6
  · obtain ⟨b0, b1, b2, b3, b4, b5, b6, b7, b8, b9, b10, b11, b12, b13, b14, b15, rfl⟩ := sixteen l h
    exact (may_four b0 b1 b2 b3 b4 b5 b6 b7 b8 b9 b10 b11 b12 b13 b14 b15 w).mono fun e w' ⟨h1, h2⟩ => ⟨by rw [h1]; rfl, h2⟩
  · exact (may_yes l w).mono fun e w' ⟨h1, h2⟩ => ⟨h1, h2⟩
end Go.Proofs.YtonafonhadocgaaDoor

/- Laws on append to a row of bytes of the call's own, the source any slice of bytes that reads as a list (nil and empty too). -/
namespace Go.Proofs.YtonafonhadocgaaDoor
open Go.RowKit

/-- The value v is nil or the head of a row of the call's own (a block from base on), and holds the bytes l. -/
def Own (w : World) (base : Nat) (v : Value) (l : List UInt8) : Prop := w.ownsRow base 5 1 v l.length (bv l)

section
variable {w w' : World} {base : Nat} {v : Value} {l : List UInt8}
theorem Own.form (h : Own w base v l) : ∃ A c, v = .slice A l.length c ∧ Rd w A l.length c l ∧ (A = none ∨ ∃ g, A = some ⟨g, 0, none⟩ ∧ base ≤ g ∧ g < w.heap.size) := by
  rcases h.2 with ⟨hv, hn⟩ | ⟨g, cap, cur, hv, hb, hg, hnc, hcm, hcs, ht⟩
  · have hl : l = [] := List.eq_nil_of_length_eq_zero hn
    subst hl
    exact ⟨none, 0, hv, Rd.nil w, .inl rfl⟩
  · subst hv
    exact ⟨some ⟨g, 0, none⟩, cap, rfl, Rd.of_own h, .inr ⟨g, rfl, hb, (Array.getElem?_eq_some_iff.1 hg).1⟩⟩
theorem Own.nil (w : World) (base : Nat) : Own w base (.slice none 0 0) [] := World.ownsRow_nil w base _ 1
theorem Own.kept (h : Own w base v l) {B : Nat} (hb : Below B w w') (hB : ∀ g, v.ownBlock = some g → g < B) : Own w' base v l := by
  refine ⟨h.1, ?_⟩
  rcases h.2 with hn | ⟨g, cap, cur, rfl, hb', hg, rest⟩
  · exact .inl hn
  · exact .inr ⟨g, cap, cur, rfl, hb', by rw [hb.block g (hB g rfl)]; exact hg, rest⟩
theorem Own.below (h : Own w base v l) (hb : Below w.heap.size w w') : Own w' base v l := h.kept hb (fun g hg => (h.lt g hg).2)
theorem Own.alloc (h : Own w base v l) (o : Obj) : Own (w.alloc o) base v l := World.ownsRow.alloc h o
theorem Own.drew (h : Own w base v l) : Own w.drew base v l := h
theorem Own.drewN (h : Own w base v l) (k : Nat) : Own (w.drewN k) base v l := h
theorem Own.setCell (h : Own w base v l) {a : Addr} (ha : a.block < base) (u : Value) : Own (w.setCell a u) base v l := ownsRow_setCell_below h ha u
theorem Own.mono (h : Own w base v l) {base' : Nat} (hb : base' ≤ base) : Own w base' v l := by
  refine ⟨h.1, ?_⟩
  rcases h.2 with hn | ⟨g, cap, cur, hv, hb', rest⟩
  · exact .inl hn
  · exact .inr ⟨g, cap, cur, hv, by omega, rest⟩
theorem Own.rd {A : Option Addr} {n c : Nat} (h : Own w base (.slice A n c) l) : Rd w A n c l := by
  obtain ⟨A', c', hv, hr, _⟩ := h.form
  injection hv with a b d
  subst a; subst b; subst d
  exact hr
theorem Own.len_ {A : Option Addr} {n c : Nat} (h : Own w base (.slice A n c) l) : l.length = n := h.rd.1
theorem Own.ne_ (h : Own w base v l) {k : Nat} (hk : w.heap.size ≤ k ∨ k < base) : some k ≠ v.ownBlock := fun e => by
  have := h.lt k e.symm
  omega
theorem Own.setFar (h : Own w base v l) {a : Addr} (ha : some a.block ≠ v.ownBlock) (u : Value) : Own (w.setCell a u) base v l := by
  refine ⟨h.1, ?_⟩
  rcases h.2 with hn | ⟨g, cap, cur, rfl, hb', hg, rest⟩
  · exact .inl hn
  · exact .inr ⟨g, cap, cur, rfl, hb', by rw [Below.heap_setCell _ _ _ _ (fun e => ha (by simp [Value.ownBlock, e]))]; exact hg, rest⟩
theorem apart_after {v v' : Value} {k H : Nat} (hat : v'.ownBlock = v.ownBlock ∨ v'.ownBlock = some H) (hv : some k ≠ v.ownBlock) (hk : k < H) : some k ≠ v'.ownBlock := by
  rcases hat with e | e
  · rw [e]; exact hv
  · rw [e]; intro h; injection h with h; omega
/-- A row that a literal has just laid. -/
theorem Own.lit (w : World) (l : List UInt8) (cs : Array Value) (hc : cs = (bv l).toArray) (hb : base ≤ w.heap.size) (hm : l.length ≤ 9223372036854775807) :
    Own (w.alloc (.cells cs 5)) base (.slice (some ⟨w.heap.size, 0, none⟩) l.length l.length) l := by
  subst hc
  refine ⟨by simp [bv_length], .inr ⟨w.heap.size, l.length, _, rfl, hb, heap_alloc_new w _, Nat.le_refl _, by simpa [maxLen] using hm, by simp [bv_length], ?_⟩⟩
  simp [bv_length, List.take_of_length_le]
end

theorem bv_replicate (n : Nat) : bv (List.replicate n 0) = List.replicate n (Value.int .u8 0) := by simp [bv]
theorem bv_set (l : List UInt8) (j : Nat) (u : UInt8) : (bv l).set j (.int .u8 (u.toNat : Int)) = bv (l.set j u) := by simp [bv, List.map_set]
theorem Own.stored {w : World} {base g n c : Nat} {l : List UInt8} (h : Own w base (.slice (some ⟨g, 0, none⟩) n c) l) (j : Nat) (u : UInt8) :
    Own (w.setCell ⟨g, j, none⟩ (.int .u8 (u.toNat : Int))) base (.slice (some ⟨g, 0, none⟩) n c) (l.set j u) := by
  have hl := h.len_
  have h2 := h
  unfold Own at h2 ⊢
  rw [hl] at h2
  rw [List.length_set, hl, ← bv_set]
  exact (h2.stored j _).1
theorem Own.frozenAt {w : World} {base g n c : Nat} {l : List UInt8} (h : Own w base (.slice (some ⟨g, 0, none⟩) n c) l) (j : Nat) : w.frozen? ⟨g, j, none⟩ = false := by
  have hl := h.len_
  have h2 := h
  unfold Own at h2
  rw [hl] at h2
  exact World.ownsRow.frozenAt h2 j
theorem Own.cellAt {w : World} {base g n c : Nat} {l : List UInt8} (h : Own w base (.slice (some ⟨g, 0, none⟩) n c) l) (j : Nat) (hj : j < n) : w.cell? ⟨g, j, none⟩ = some (.int .u8 ((l[j]?.getD 0).toNat : Int)) := by
  obtain ⟨b, off, hA, hk⟩ := h.rd.2.2.2 (by omega)
  injection hA with hA
  injection hA with e1 e2 _
  subst e1; subst e2
  simpa using hk j hj

theorem lit_rd (w : World) (l : List UInt8) (cs : Array Value) (n : Nat) (hc : cs = (bv l).toArray) (hn : l.length = n) (hm : n ≤ 9223372036854775807) :
    Rd (w.alloc (.cells cs 5)) (some ⟨w.heap.size, 0, none⟩) n n l := by
  subst hn
  exact (Own.lit (base := w.heap.size) w l cs hc (Nat.le_refl _) hm).rd

theorem lit_rd_mark (w : World) (l : List UInt8) (cs : Array Value) (fr : Nat × Nat) (n : Nat) (hc : cs = (bv l).toArray) (hn : l.length = n) (hm : n ≤ 9223372036854775807) :
    Rd (w.alloc (.cells cs 5 fr)) (some ⟨w.heap.size, 0, none⟩) n n l := by
  subst hc
  refine ⟨hn, Nat.le_refl _, hm, fun _ => ⟨w.heap.size, 0, rfl, fun k hk => ?_⟩⟩
  rw [Nat.zero_add, World.cell?_alloc_mark, ← bv_get l k (by omega)]
  simp

section
variable {P : Program} (w : World)

/-- make([]byte, n). -/
theorem wpList_make_bytes {ops : Array Oper} {rest : List Oper} {o : Oper} {a : Act} {Q : Exit → Act → World → Prop}
    (hg : o.guard = none) (s x : Operand) (t : TypeId) (hop : o.op = Op.makeSlice t s x)
    (i : TypeInfo) (h1 : P.underlying t = some (.slice 5)) (h2 : P.info? 5 = some i) (h3 : i.zero = some (.int .u8 0)) (h4 : i.size = 1) (h5 : i.bytes = 1)
    (kl kc : IntKind) (L C : Int) (n : Nat) (hl : a.eval s = .int kl L) (hc : a.eval x = .int kc C) (hL : L = (n : Int)) (hC : C = (n : Int)) (b2 : n ≤ 140737488355328)
    (hK : ∀ w', Own w' w.heap.size (.slice (some ⟨w.heap.size, 0, none⟩) n n) (List.replicate n 0) → Below w.heap.size w w' → w.heap.size < w'.heap.size → wpList P ops Q rest (a.put o.dst (.slice (some ⟨w.heap.size, 0, none⟩) n n)) w') :
    wpList P ops Q (o :: rest) a w := by
  refine wpList_make_full w hg s x t hop w.heap.size 5 i (.int .u8 0) 1 h1 h2 h3 h4 kl kc L C n hl hc hL hC (by rw [h5]; omega) (by simp only [maxLen]; omega) (Nat.le_refl _) fun w' ho hgr => ?_
  have ho2 : Own w' w.heap.size (.slice (some ⟨w.heap.size, 0, none⟩) n n) (List.replicate n 0) := by
    unfold Own
    rw [List.length_replicate, bv_replicate]
    have e := toList_madeCells_one (.int .u8 0) (n * 1)
    simp only [Nat.mul_one] at e
    rw [← e]
    simpa [Value.cells] using ho
  exact hK w' ho2 ((Below.refl _ _).grown hgr (Nat.le_refl _) (by simp)) (ho2.lt _ rfl).2

theorem run_append_src_nil (base : Nat) (t ty : TypeId) (i : TypeInfo) (ht : P.underlying t = some (.slice 5)) (hi : P.info? 5 = some i)
    (v : Value) (l : List UInt8) (hown : Own w base v l) (c : Nat) : (Builtin.append_ #[t, t] ty #[v, .slice none 0 c]).run P w = .ok v w := by
  rcases hown.2 with ⟨rfl, hn⟩ | ⟨g, cap, cur, rfl, _, _, hnc, _⟩
  · simp [Builtin.append_, run_underlying ht, sizeOf, typeInfo, hi, Builtin.lenOf, Builtin.firstCells]
  · simp [Builtin.append_, run_underlying ht, sizeOf, typeInfo, hi, Builtin.lenOf, Builtin.firstCells, hnc, storeCells]

theorem run_append_rd (base : Nat) (t ty : TypeId) (i : TypeInfo) (z : Value) (ht : P.underlying t = some (.slice 5)) (hi : P.info? 5 = some i) (hz : i.zero = some z)
    (hsize : i.size = 1) (hby : i.bytes = 1) (hzs : z.cells.size = 1)
    (v : Value) (l : List UInt8) (hown : Own w base v l)
    (A : Option Addr) (m c : Nat) (l2 : List UInt8) (hr : Rd w A m c l2) (h63 : l.length + m ≤ 140737488355328) (hbase : base ≤ w.heap.size) :
    ∃ v' w', (Builtin.append_ #[t, t] ty #[v, .slice A m c]).run P w = .ok v' w' ∧ Own w' base v' (l ++ l2) ∧ w.grownBy w' v.ownBlock ∧
      (v'.ownBlock = v.ownBlock ∨ v'.ownBlock = some w.heap.size) := by
  have hl2 := hr.1
  have e : (l ++ l2).length = l.length + m := by simp [hl2]
  have hb1 : l.length + m ≤ maxLen := by simp only [maxLen]; omega
  have key : ∀ ad : Addr, (∀ j u, (bv l2)[j]? = some u → w.cell? (ad.add j) = some u) → ∃ v' w', (Builtin.append_ #[t, t] ty #[v, .slice (some ad) m c]).run P w = .ok v' w' ∧ Own w' base v' (l ++ l2) ∧ w.grownBy w' v.ownBlock ∧
      (v'.ownBlock = v.ownBlock ∨ v'.ownBlock = some w.heap.size) := by
    intro ad hc
    obtain ⟨v', w', hrun, h2, h3, _, h5⟩ := run_append_own_at (P := P) w base t ty 5 i z 1 1 ht hi hz hsize hby hzs (by omega) v l.length (bv l) hown ad m c (bv l2) (by simp [bv_length, hl2]) hc (bv_one l2) hb1 (by omega) hbase
    refine ⟨v', w', hrun, ?_, h3, h5⟩
    unfold Own
    rw [e, bv_append]
    exact h2
  rcases Nat.eq_zero_or_pos m with h0 | h0
  · subst h0
    have hn : l2 = [] := List.eq_nil_of_length_eq_zero hl2
    subst hn
    rcases A with _ | ad
    · exact ⟨v, w, run_append_src_nil w base t ty i ht hi v l hown c, by simpa using hown, World.grownBy.refl w _, .inl rfl⟩
    · exact key ad (by intro j u hu; simp [bv] at hu)
  · obtain ⟨b, off, rfl, hk⟩ := hr.2.2.2 h0
    refine key _ fun j u hu => ?_
    have hj : j < l2.length := by
      have := (List.getElem?_eq_some_iff.1 hu).1
      simpa [bv_length] using this
    rw [Addr.add_lit, hk j (by omega), ← bv_get l2 j hj]
    exact hu

theorem wp_append_rd {o : Oper} {a : Act} {K : Act → World → Prop} {Q : Exit → Act → World → Prop} (s x : Operand) (t : TypeId)
    (ho : o.op = .call { callee := .builtin .append, args := #[s, x], argTypes := #[t, t] })
    (base : Nat) (i : TypeInfo) (z : Value) (ht : P.underlying t = some (.slice 5)) (hi : P.info? 5 = some i) (hz : i.zero = some z)
    (hsize : i.size = 1) (hby : i.bytes = 1) (hzs : z.cells.size = 1)
    (v : Value) (l : List UInt8) (hs : a.eval s = v) (hown : Own w base v l)
    (A : Option Addr) (m c : Nat) (l2 : List UInt8) (hx : a.eval x = .slice A m c) (hr : Rd w A m c l2) (h63 : l.length + m ≤ 140737488355328) (hbase : base ≤ w.heap.size) (N : Nat) (hN : l.length + m = N)
    (h : ∀ A' c' w', Own w' base (.slice A' N c') (l ++ l2) → Below base w w' → w.grownBy w' v.ownBlock → ((Value.slice A' N c').ownBlock = v.ownBlock ∨ (Value.slice A' N c').ownBlock = some w.heap.size) → K (a.put o.dst (.slice A' N c')) w') : o.wp P a w K Q := by
  obtain ⟨v', w', hrun, h2, h3, h4⟩ := run_append_rd (P := P) w base t o.type i z ht hi hz hsize hby hzs v l hown A m c l2 hr h63 hbase
  unfold Oper.wp execOp
  simp only [ho, resolve, invoke, builtin, Sem.run_bind, Sem.run_pure, Result.andThen_ok, List.map_toArray, List.map_cons, List.map_nil, hs, hx, hrun]
  obtain ⟨A', c', hv, _, _⟩ := h2.form
  have hl : (l ++ l2).length = N := by rw [List.length_append, hr.1]; exact hN
  rw [hl] at hv
  subst hv
  exact h A' c' w' h2 ((Below.refl _ _).grown h3 hbase (fun k hk => (hown.lt k hk).1)) h3 h4

theorem wpList_append_rd {ops : Array Oper} {rest : List Oper} {o : Oper} {a : Act} {Q : Exit → Act → World → Prop} (hgd : o.guard = none) (s x : Operand) (t : TypeId)
    (ho : o.op = .call { callee := .builtin .append, args := #[s, x], argTypes := #[t, t] })
    (base : Nat) (i : TypeInfo) (z : Value) (ht : P.underlying t = some (.slice 5)) (hi : P.info? 5 = some i) (hz : i.zero = some z)
    (hsize : i.size = 1) (hby : i.bytes = 1) (hzs : z.cells.size = 1)
    (v : Value) (l : List UInt8) (hs : a.eval s = v) (hown : Own w base v l)
    (A : Option Addr) (m c : Nat) (l2 : List UInt8) (hx : a.eval x = .slice A m c) (hr : Rd w A m c l2) (h63 : l.length + m ≤ 140737488355328) (hbase : base ≤ w.heap.size) (N : Nat) (hN : l.length + m = N)
    (h : ∀ A' c' w', Own w' base (.slice A' N c') (l ++ l2) → Below base w w' → w.grownBy w' v.ownBlock → ((Value.slice A' N c').ownBlock = v.ownBlock ∨ (Value.slice A' N c').ownBlock = some w.heap.size) → wpList P ops Q rest (a.put o.dst (.slice A' N c')) w') : wpList P ops Q (o :: rest) a w :=
  wpList_plain hgd fun _ hK => wp_append_rd w s x t ho base i z ht hi hz hsize hby hzs v l hs hown A m c l2 hx hr h63 hbase N hN fun A' c' w' h2 h3 h4 h5 => hK _ _ (h A' c' w' h2 h3 h4 h5)

theorem step_append_rd {ops : Array Oper} {o : Oper} {a : Act} {K : Act → World → Prop} {Q : Exit → Act → World → Prop} {E : Prop} (hgd : o.guard = none) (s x : Operand) (t : TypeId)
    (ho : o.op = .call { callee := .builtin .append, args := #[s, x], argTypes := #[t, t] })
    (base : Nat) (i : TypeInfo) (z : Value) (ht : P.underlying t = some (.slice 5)) (hi : P.info? 5 = some i) (hz : i.zero = some z)
    (hsize : i.size = 1) (hby : i.bytes = 1) (hzs : z.cells.size = 1)
    (v : Value) (l : List UInt8) (hs : a.eval s = v) (hown : Own w base v l)
    (A : Option Addr) (m c : Nat) (l2 : List UInt8) (hx : a.eval x = .slice A m c) (hr : Rd w A m c l2) (h63 : l.length + m ≤ 140737488355328) (hbase : base ≤ w.heap.size) (N : Nat) (hN : l.length + m = N)
    (h : ∀ A' c' w', Own w' base (.slice A' N c') (l ++ l2) → Below base w w' → w.grownBy w' v.ownBlock → ((Value.slice A' N c').ownBlock = v.ownBlock ∨ (Value.slice A' N c').ownBlock = some w.heap.size) → K (a.put o.dst (.slice A' N c')) w') :
    if Region.wanted o (yielded ops a.tmps) = true then Oper.wp P o a w K Q else E := by
  have hw : Region.wanted o (yielded ops a.tmps) = true := by simp [Region.wanted, hgd]
  rw [if_pos hw]
  exact wp_append_rd w s x t ho base i z ht hi hz hsize hby hzs v l hs hown A m c l2 hx hr h63 hbase N hN h
end


/-- string(b). -/
theorem conv_str {P : Program} {w : World} {A : Option Addr} {n c : Nat} {l : List UInt8} (h : Rd w A n c l) (src dst : TypeId) (hs : P.underlying src = some (.slice 5)) (he : P.underlying 5 = some (.int .u8)) (hd : P.underlying dst = some .string) :
    Sem.run P (convert src dst (.slice A n c)) w = .ok (.string ⟨l.toArray⟩) w := by
  have hl := h.1
  rcases Nat.eq_zero_or_pos n with h0 | h0
  · subst h0
    have : l = [] := List.eq_nil_of_length_eq_zero hl
    subst this
    rcases A with _ | ad
    · exact run_convert_bytes_nil w src _ hs he 0 c dst hd
    · rw [run_convert_bytes_string w src dst _ _ 0 c hs he hd]
      have e := run_bytesToString (P := P) w ad 0 c [] (by simp [loadCells, loadCellsFrom])
      rw [e]
      rfl
  · obtain ⟨b, off, rfl, hk⟩ := h.2.2.2 h0
    have e := run_convert_bytes_arg w src _ hs he b off n c (l.map fun u => (u.toNat : Int)) (by simp [hl]) (fun i hi => by
      rw [hk i hi]
      simp [List.getElem?_eq_getElem (show i < l.length by omega)]) dst hd
    rw [e]
    congr 2
    apply ByteArray.ext
    apply Array.ext'
    rw [strOfNums_data]
    simp [List.map_map, Function.comp_def]

/-- The row of the table: bytes. -/
theorem info_u8 : (Tryd.prog.info? 5).map (fun i => (i.zero, i.size, i.bytes)) = some (some (.int .u8 0), 1, 1) := by kernel_rfl

end Go.Proofs.YtonafonhadocgaaDoor
