/- Laws and walks that the claim's last text leans on, joined: each part says above itself what it proves. -/
import Derived.Test.YtonafonhadocgaaDoorQD
import Derived.Lib.AppendZeros

/- append(s, make([]T, n)...) and append(s, x...) onto a row of the call's own: elements of one cell. Plain laws. -/
namespace Go.Proofs.YtonafonhadocgaaDoor
open Go.RowKit

theorem zeroCells_one (z : Value) (n : Nat) : Builtin.zeroCells #[z] n = Array.replicate n z := by
  apply Array.ext
  · simp [Builtin.zeroCells]
  · intro i h1 h2
    simp [Builtin.zeroCells, Nat.mod_one]

section
variable {P : Program} (w : World)
/-- The run: a row with zeros behind it. -/
theorem run_append_zeros (base : Nat) (t tn ty T : TypeId) (i : TypeInfo) (z : Value) (k kn : IntKind) (bytes : Nat) (ht : P.underlying t = some (.slice T)) (htn : P.underlying tn = some (.int kn)) (hi : P.info? T = some i) (hz : i.zero = some z)
    (hsize : i.size = 1) (hby : i.bytes = bytes) (hzs : z.cells = #[z]) (hz1 : z.oneCell' = true)
    (v : Value) (xs : List Value) (hown : OwnV T w base v xs) (n : Nat) (h63 : xs.length + n ≤ 1099511627776) (hb16 : bytes ≤ 16) (hbase : base ≤ w.heap.size) :
    ∃ v' w', (Builtin.append_ #[t, tn] ty #[v, .int k n]).run P w = .ok v' w' ∧ OwnV T w' base v' (xs ++ List.replicate n z) ∧ w.grownBy w' v.ownBlock := by
  subst hby
  have hw : IntKind.i64.wrap (n : Int) = n := by rw [IntKind.wrap_i64]; omega
  have hneg : ¬ ((n : Int) < 0) := by omega
  have hnb : n * i.bytes ≤ 1099511627776 * 16 := Nat.mul_le_mul (by omega) hb16
  have h48i : ¬ (281474976710656 < (n : Int) * (i.bytes : Int)) := by
    rw [← Int.natCast_mul]
    omega
  have hmx : maxLen = 9223372036854775807 := rfl
  have hlen : (xs ++ List.replicate n z).length = xs.length + n := by simp
  have grown : ∀ (old : Nat), old < xs.length + n → ∀ (row : Option Nat),
      OwnV T (w.drew.alloc (.cells (xs.toArray ++ Array.replicate n z ++ Array.replicate (grownCap w (xs.length + n) old T - (xs.length + n)) z) T)) base (.slice (some ⟨w.heap.size, 0, none⟩) (xs.length + n) (grownCap w (xs.length + n) old T)) (xs ++ List.replicate n z) ∧
      w.grownBy (w.drew.alloc (.cells (xs.toArray ++ Array.replicate n z ++ Array.replicate (grownCap w (xs.length + n) old T - (xs.length + n)) z) T)) row := by
    intro old ho row
    have hge := grownCap_ge w (xs.length + n) old T
    have hcm : grownCap w (xs.length + n) old T ≤ maxLen := grownCap_le_maxLen w (xs.length + n) old T (by omega)
    refine ⟨?_, ⟨rfl, rfl, rfl, by simp, fun k' hk' h' => (World.grownBy_alloc w.drew _ row).block k' hk' h'⟩⟩
    unfold OwnV
    rw [hlen]
    refine ⟨by simp, .inr ⟨w.heap.size, _, _, rfl, hbase, heap_alloc_new w.drew _, hge, hcm, ?_, ?_⟩⟩
    · simp only [Array.size_append, List.size_toArray, Array.size_replicate, Nat.mul_one]; omega
    · rw [show (xs.toArray ++ Array.replicate n z ++ Array.replicate (grownCap w (xs.length + n) old T - (xs.length + n)) z).toList = (xs ++ List.replicate n z) ++ List.replicate (grownCap w (xs.length + n) old T - (xs.length + n)) z by simp only [Array.toList_append, Array.toList_replicate], Nat.mul_one, ← hlen]
      exact List.take_left
  rcases hown.2 with ⟨rfl, hx0⟩ | ⟨g, cap, cur, rfl, hbg, hg, hnc, hcm, hcs, htake⟩
  · have hx : xs = [] := List.eq_nil_of_length_eq_zero hx0
    subst hx
    by_cases hn : n = 0
    · subst hn
      refine ⟨.slice none 0 0, w, ?_, by simpa using OwnV.nil w base, ⟨rfl, rfl, rfl, Nat.le_refl _, fun _ _ _ => rfl⟩⟩
      have hw0 : IntKind.i64.wrap 0 = 0 := by decide
      simp [Builtin.append_, run_underlying ht, run_underlying htn, sizeOf, typeInfo, hi, asInt, asIntOf, hw0]
    · have hr := Lib.run_append_nil_zeros w t tn ty T i z k kn ht htn hi hz n (by omega) (by omega) (by omega) (by omega)
      rw [hzs, zeroCells_one, zeroCells_one] at hr
      have hgr := grown 0 (by simp; omega) (Value.ownBlock (.slice none 0 0))
      simp only [List.length_nil, Nat.zero_add, List.nil_append, Array.empty_append] at hgr
      exact ⟨_, _, hr, by simpa using hgr.1, hgr.2⟩
  · by_cases hroom : xs.length + n ≤ cap
    · have hcs' : cur.size = cap := by simpa using hcs
      have hst := run_storeCells_at P g xs.length T (List.replicate n z) 0 cur w hg (by simp; omega) (fun u hu => by rw [(List.mem_replicate.1 hu).2]; exact hz1)
      simp only [Nat.add_zero] at hst
      have hst' : (storeCells ⟨g, xs.length, none⟩ (List.replicate n z)).run P w = .ok () (w.setRow g (cur.toList.take xs.length ++ List.replicate n z ++ cur.toList.drop (xs.length + n)).toArray) := by simpa using hst
      have hr : (Builtin.append_ #[t, tn] ty #[.slice (some ⟨g, 0, none⟩) xs.length cap, .int k n]).run P w = .ok (.slice (some ⟨g, 0, none⟩) (xs.length + n) cap) (w.setRow g (cur.toList.take xs.length ++ List.replicate n z ++ cur.toList.drop (xs.length + n)).toArray) := by
        by_cases hn : n = 0
        · subst hn
          have hw0 : IntKind.i64.wrap 0 = 0 := by decide
          have hse : w.setRow g (cur.toList.take xs.length ++ List.replicate 0 z ++ cur.toList.drop (xs.length + 0)).toArray = w := by
            simp only [List.replicate_zero, List.append_nil, Nat.add_zero, List.take_append_drop]
            exact setRow_self w g cur T (0, 0) hg
          rw [hse]
          simp [Builtin.append_, run_underlying ht, run_underlying htn, sizeOf, typeInfo, hi, asInt, asIntOf, hw0, hnc, storeCells]
        · have hns : ¬ (n * 1 = 0) := by omega
          simp [Builtin.append_, run_underlying ht, run_underlying htn, sizeOf, typeInfo, zeroValue, hi, hz, hsize, asInt, asIntOf, hw, hneg, h48i, hn, hroom, Addr.add_lit, hzs, zeroCells_one, hst']
      refine ⟨_, _, hr, ?_, ⟨rfl, rfl, rfl, by simp, fun k _ hk => setRow_other w g k _ (fun e => hk (by simp [Value.ownBlock, e]))⟩⟩
      unfold OwnV
      rw [hlen]
      refine ⟨by simp, .inr ⟨g, cap, _, rfl, hbg, setRow_heap w g cur _ T _ hg, hroom, hcm, ?_, ?_⟩⟩
      · simp; omega
      · have : cur.toList.take xs.length = xs := by simpa using htake
        rw [this, Nat.mul_one, ← hlen]
        exact List.take_left
    · have holds : ∀ j u, xs[j]? = some u → w.drew.cell? ((⟨g, 0, none⟩ : Addr).add j) = some u := fun j u hu => by
        have := (show w.ownsRow base T 1 (.slice (some ⟨g, 0, none⟩) xs.length cap) xs.length xs from hown).cells (g := g) rfl j u hu
        simpa using this
      have hfo := run_firstCells_some (P := P) w.drew 1 xs.length ⟨g, 0, none⟩ xs.length cap xs (by simp) holds
      have hnr : ¬ (xs.length + n ≤ cap) := hroom
      have hn0 : n ≠ 0 := by omega
      have h63' : ¬ (9223372036854775807 < ((xs.length : Int) + (n : Int))) := by omega
      have hfit := growslice_fits (need := xs.length + n) (old := cap) (bytes := i.bytes) (by omega) (by have := Nat.mul_le_mul h63 hb16; omega)
      have h48' : ¬ (281474976710656 < Builtin.nextslicecap (xs.length + n) cap * i.bytes) := by omega
      have hr : (Builtin.append_ #[t, tn] ty #[.slice (some ⟨g, 0, none⟩) xs.length cap, .int k n]).run P w = .ok (.slice (some ⟨w.heap.size, 0, none⟩) (xs.length + n) (grownCap w (xs.length + n) cap T)) (w.drew.alloc (.cells (xs.toArray ++ Array.replicate n z ++ Array.replicate (grownCap w (xs.length + n) cap T - (xs.length + n)) z) T)) := by
        simp [Builtin.append_, run_underlying ht, run_underlying htn, sizeOf, typeInfo, zeroValue, hi, hz, hsize, asInt, asIntOf, hw, hneg, h48i, hnr, hn0, h63', h48', Question.forced, hfo, newRow, grownCap, hzs, zeroCells_one]
        try (congr 2; apply Array.ext'; simp [List.append_assoc])
      have hgr := grown cap (by omega) (Value.ownBlock (.slice (some ⟨g, 0, none⟩) xs.length cap))
      exact ⟨_, _, hr, hgr.1, hgr.2⟩

theorem wpList_append_zeros {ops : Array Oper} {rest : List Oper} {o : Oper} {a : Act} {Q : Exit → Act → World → Prop} (hgd : o.guard = none) (s x : Operand) (t tn T : TypeId)
    (ho : o.op = .call { callee := .builtin .append, args := #[s, x], argTypes := #[t, tn] })
    (base : Nat) (i : TypeInfo) (z : Value) (k kn : IntKind) (bytes : Nat) (ht : P.underlying t = some (.slice T)) (htn : P.underlying tn = some (.int kn)) (hi : P.info? T = some i) (hz : i.zero = some z)
    (hsize : i.size = 1) (hby : i.bytes = bytes) (hzs : z.cells = #[z]) (hz1 : z.oneCell' = true)
    (v : Value) (xs : List Value) (hs : a.eval s = v) (hown : OwnV T w base v xs) (n : Nat) (hx : a.eval x = .int k n) (h63 : xs.length + n ≤ 1099511627776) (hb16 : bytes ≤ 16) (hbase : base ≤ w.heap.size)
    (h : ∀ v' w', OwnV T w' base v' (xs ++ List.replicate n z) → Below base w w' → w.grownBy w' v.ownBlock → wpList P ops Q rest (a.put o.dst v') w') : wpList P ops Q (o :: rest) a w := by
  obtain ⟨v', w', hr, h2, h3⟩ := run_append_zeros (P := P) w base t tn o.type T i z k kn bytes ht htn hi hz hsize hby hzs hz1 v xs hown n h63 hb16 hbase
  exact Lib.wpList_append_run w hgd s x t tn ho v (.int k n) hs hx v' w' hr (h v' w' h2 ((Below.refl _ _).grown h3 hbase (fun k hk => (hown.blk_lt hk).1)) h3)

/-- append(s, x...), x a slice that reads as a list. -/
theorem wpList_append_rdv {ops : Array Oper} {rest : List Oper} {o : Oper} {a : Act} {Q : Exit → Act → World → Prop} (hgd : o.guard = none) (s x : Operand) (t T : TypeId)
    (ho : o.op = .call { callee := .builtin .append, args := #[s, x], argTypes := #[t, t] })
    (base : Nat) (i : TypeInfo) (z : Value) (bytes : Nat) (ht : P.underlying t = some (.slice T)) (hi : P.info? T = some i) (hz : i.zero = some z)
    (hsize : i.size = 1) (hby : i.bytes = bytes) (hzs : z.cells.size = 1)
    (v : Value) (xs : List Value) (hs : a.eval s = v) (hown : OwnV T w base v xs) (A : Option Addr) (m c : Nat) (ys : List Value) (hx : a.eval x = .slice A m c) (hr : RdV w A m c ys) (h1 : ∀ u ∈ ys, u.oneCell' = true) (h63 : xs.length + m ≤ 1099511627776) (hb16 : bytes ≤ 16) (hbase : base ≤ w.heap.size)
    (h : ∀ v' w', OwnV T w' base v' (xs ++ ys) → Below base w w' → w.grownBy w' v.ownBlock → wpList P ops Q rest (a.put o.dst v') w') : wpList P ops Q (o :: rest) a w := by
  have hl := hr.1
  have hmx : maxLen = 9223372036854775807 := rfl
  have hbb := Nat.mul_le_mul h63 hb16
  have fin : ∀ v' w', w'.ownsRow base T 1 v' (xs.length + m) (xs ++ ys) → w.grownBy w' v.ownBlock → wpList P ops Q rest (a.put o.dst v') w' := fun v' w' h2 h3 => by
    refine h v' w' ?_ ((Below.refl _ _).grown h3 hbase (fun k hk => (hown.blk_lt hk).1)) h3
    unfold OwnV
    rw [List.length_append, hl]
    exact h2
  have key : ∀ ad : Addr, a.eval x = .slice (some ad) m c → (∀ j u, ys[j]? = some u → w.cell? (ad.add j) = some u) → wpList P ops Q (o :: rest) a w := fun ad hx' hk =>
    wpList_append_own w hgd s x t ho base T i z 1 bytes ht hi hz hsize hby hzs (by omega) v xs.length xs hs hown ad m c ys hx' (by omega) hk h1 (by omega) (by omega) hbase (fun v' w' h2 h3 _ => fin v' w' h2 h3)
  by_cases h0 : m = 0
  · subst h0
    have hy : ys = [] := List.eq_nil_of_length_eq_zero hl
    subst hy
    rcases A with _ | ad
    · obtain ⟨A', c', hv, _, _⟩ := hown.form
      refine Lib.wpList_append_run w hgd s x t t ho v (.slice none 0 c) hs hx v w ?_ (fin v w (by rw [Nat.add_zero, List.append_nil]; exact hown) (World.grownBy.refl w _))
      subst hv
      have hle : xs.length ≤ c' := by
        rcases hown.2 with ⟨e, e0⟩ | ⟨g, cap, cur, e, _, _, hnc, _⟩
        · injection e with _ _ e3; omega
        · injection e with _ _ e3; omega
      cases A' <;> simp [Builtin.append_, run_underlying ht, sizeOf, typeInfo, hi, Builtin.lenOf, Builtin.firstCells, hle, storeCells]
    · exact key ad hx (by intro j u hu; simp at hu)
  · obtain ⟨b, off, rfl, _, hk⟩ := hr.at_ (by omega)
    refine key _ hx fun j u hu => ?_
    have hj : j < ys.length := (List.getElem?_eq_some_iff.1 hu).1
    rw [Addr.add_lit, hk j (by omega), hu]
end
end Go.Proofs.YtonafonhadocgaaDoor
