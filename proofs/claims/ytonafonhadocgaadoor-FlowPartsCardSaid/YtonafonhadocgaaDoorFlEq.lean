/- Equality of flows and of keys. -/
import Derived.Test.YtonafonhadocgaaDoorAdEqE
import Derived.Test.YtonafonhadocgaaDoorQL
namespace Go.Proofs.YtonafonhadocgaaDoor
open Go.RowKit Go.Shelf

theorem part_aE (e : En) (h : e.2.1.length = 16) (w : World) : (part 24 (enC e.1 e.2.1 e.2.2) 0).run Tryd.prog w = .ok (.agg (adC e.1 e.2.1)) w := part_a e.1 e.2.1 e.2.2 h w
theorem eq_ends_d (d : Nat) (a b : En) (h1 : a.2.1.length = 16) (h2 : b.2.1.length = 16) (w : World) :
    (Op.equalIn (d + 4) 27 (.agg (enC a.1 a.2.1 a.2.2)) (.agg (enC b.1 b.2.1 b.2.2))).run Tryd.prog w = .ok (decide (a = b)) w := by
  obtain ⟨u, xs, p⟩ := a
  obtain ⟨v, ys, q⟩ := b
  dsimp only at h1 h2 ⊢
  have hS : Tryd.prog.underlying 27 = some (.struct (Tryd.prog.fieldsOf 27)) := by kernel_rfl
  have hp : Tryd.prog.stoodInHeld 27 = false := by kernel_rfl
  obtain ⟨f1, f2, hf, n1, n2, t1, t2, o1, o2⟩ : ∃ f1 f2, (Tryd.prog.fieldsOf 27).toList = [f1, f2] ∧ f1.name ≠ "_" ∧ f2.name ≠ "_" ∧ f1.type = 24 ∧ f2.type = 25 ∧ f1.offset = 0 ∧ f2.offset = 17 := by
    simp only [Program.fieldsOf, Tryd.underlying27]
    exact ⟨_, _, rfl, by decide, by decide, rfl, rfl, rfl, rfl⟩
  have ea := eq_addr_d d u v xs ys h1 h2 w
  have ei : (Op.equalIn (d + 3) 25 (.int .u16 (p : Int)) (.int .u16 (q : Int))).run Tryd.prog w = .ok ((p : Int) == (q : Int)) w := run_equalIn_int (P := Tryd.prog) w (d + 2) 25 .u16 .u16 (p : Int) (q : Int) Tryd.underlying25
  rw [run_equalIn_agg w (d + 3) 27 _ _ hS hp, hf]
  simp only [Op.eqFields, n1, n2, t1, t2, o1, o2, ne_eq, not_false_eq_true, if_true, Sem.run_bind, part_a u xs p h1, part_a v ys q h2, Result.andThen_ok, ea]
  by_cases e : u = v ∧ xs = ys
  · obtain ⟨rfl, rfl⟩ := e
    by_cases e2 : p = q
    · subst e2; simp [part_p u xs p h1, ei]
    · have e3 : ((p : Int) == (q : Int)) = false := by rw [beq_eq_false_iff_ne]; omega
      simp [part_p u xs p h1, part_p u xs q h1, ei, e2, e3]
  · have e4 : ¬ ((u, xs, p) = (v, ys, q)) := fun h => e (by injection h with h3 h4; injection h4 with h4 _; exact ⟨h3, h4⟩)
    rw [decide_eq_false e, decide_eq_false e4]
    simp

theorem part_1 (a b : En) (ha : a.2.1.length = 16) (w : World) : (part 27 (flC a b) 0).run Tryd.prog w = .ok (.agg (enC a.1 a.2.1 a.2.2)) w := by
  have e : (flC a b).extract 0 18 = enC a.1 a.2.1 a.2.2 := by
    apply Array.toList_inj.1
    have h1 := flC_client a b
    rw [Array.length_toList, enC_size _ _ _ ha] at h1
    rw [Array.toList_extract]
    exact h1
  have hg : (isAgg 27).run Tryd.prog w = .ok true w := Tryd.isAgg27 w
  have hs : (sizeOf 27).run Tryd.prog w = .ok 18 w := Tryd.sizeOf27 w
  simp only [part, Sem.run_bind, hg, hs, Result.andThen_ok, if_true, Nat.zero_add, e]
  exact Sem.run_pure ..
theorem part_2 (a b : En) (ha : a.2.1.length = 16) (hb : b.2.1.length = 16) (w : World) : (part 27 (flC a b) 18).run Tryd.prog w = .ok (.agg (enC b.1 b.2.1 b.2.2)) w := by
  have e : (flC a b).extract 18 36 = enC b.1 b.2.1 b.2.2 := by
    apply Array.toList_inj.1
    have h1 := flC_server a b ha
    rw [Array.length_toList, enC_size _ _ _ hb] at h1
    rw [Array.toList_extract]
    exact h1
  have hg : (isAgg 27).run Tryd.prog w = .ok true w := Tryd.isAgg27 w
  have hs : (sizeOf 27).run Tryd.prog w = .ok 18 w := Tryd.sizeOf27 w
  simp only [part, Sem.run_bind, hg, hs, Result.andThen_ok, if_true, Nat.reduceAdd, e]
  exact Sem.run_pure ..
theorem eq_flow_d (d : Nat) (a b a' b' : En) (ha : a.2.1.length = 16) (hb : b.2.1.length = 16) (ha' : a'.2.1.length = 16) (hb' : b'.2.1.length = 16) (w : World) :
    (Op.equalIn (d + 5) 29 (.agg (flC a b)) (.agg (flC a' b'))).run Tryd.prog w = .ok (decide ((a, b) = (a', b'))) w := by
  have hS : Tryd.prog.underlying 29 = some (.struct (Tryd.prog.fieldsOf 29)) := by kernel_rfl
  have hp : Tryd.prog.stoodInHeld 29 = false := by kernel_rfl
  obtain ⟨f1, f2, hf, n1, n2, t1, t2, o1, o2⟩ : ∃ f1 f2, (Tryd.prog.fieldsOf 29).toList = [f1, f2] ∧ f1.name ≠ "_" ∧ f2.name ≠ "_" ∧ f1.type = 27 ∧ f2.type = 27 ∧ f1.offset = 0 ∧ f2.offset = 18 := by
    simp only [Program.fieldsOf, Tryd.underlying29]
    exact ⟨_, _, rfl, by decide, by decide, rfl, rfl, rfl, rfl⟩
  have e1 := eq_ends_d d a a' ha ha' w
  have e2 := eq_ends_d d b b' hb hb' w
  rw [run_equalIn_agg w (d + 4) 29 _ _ hS hp, hf]
  simp only [Op.eqFields, n1, n2, t1, t2, o1, o2, ne_eq, not_false_eq_true, if_true, Sem.run_bind, part_1 a b ha, part_1 a' b' ha', Result.andThen_ok, e1]
  by_cases h1 : a = a'
  · subst h1
    by_cases h2 : b = b'
    · subst h2; simp [part_2 a b ha hb, e2]
    · simp [part_2 a b ha hb, part_2 a b' ha hb', e2, h2]
  · simp [h1]
theorem eq_flow (f g : En × En) (hf : f.1.2.1.length = 16) (hf' : f.2.2.1.length = 16) (hg : g.1.2.1.length = 16) (hg' : g.2.2.1.length = 16) (w : World) :
    (Op.equalIn 10000 29 (.agg (flC f.1 f.2)) (.agg (flC g.1 g.2))).run Tryd.prog w = .ok (decide (f = g)) w :=
  eq_flow_d 9995 f.1 f.2 g.1 g.2 hf hf' hg hg' w
theorem part_f (k : Ky) (h : KyOk k) (w : World) : (part 29 (kyC k) 0).run Tryd.prog w = .ok (.agg (flC k.1.1 k.1.2)) w := by
  have e : (kyC k).extract 0 36 = flC k.1.1 k.1.2 := by
    apply Array.toList_inj.1
    have h1 := keC_flow k.1.1 k.1.2 k.2
    rw [Array.length_toList, flC_size _ _ h.la h.lb] at h1
    rw [Array.toList_extract]
    exact h1
  have hg : (isAgg 29).run Tryd.prog w = .ok true w := Tryd.isAgg29 w
  have hs : (sizeOf 29).run Tryd.prog w = .ok 36 w := Tryd.sizeOf29 w
  simp only [part, Sem.run_bind, hg, hs, Result.andThen_ok, if_true, Nat.zero_add, e]
  exact Sem.run_pure ..
theorem part_x (k : Ky) (h : KyOk k) (w : World) : (part 30 (kyC k) 36).run Tryd.prog w = .ok (.int .u64 (k.2 : Int)) w :=
  run_part_plain (P := Tryd.prog) w (by kernel_rfl) (keC_xmit k.1.1 k.1.2 k.2 h.la h.lb)
theorem eq_key_d (d : Nat) (k j : Ky) (hk : KyOk k) (hj : KyOk j) (w : World) :
    (Op.equalIn (d + 6) 32 (.agg (kyC k)) (.agg (kyC j))).run Tryd.prog w = .ok (decide (k = j)) w := by
  have hS : Tryd.prog.underlying 32 = some (.struct (Tryd.prog.fieldsOf 32)) := by kernel_rfl
  have hp : Tryd.prog.stoodInHeld 32 = false := by kernel_rfl
  obtain ⟨f1, f2, hf, n1, n2, t1, t2, o1, o2⟩ : ∃ f1 f2, (Tryd.prog.fieldsOf 32).toList = [f1, f2] ∧ f1.name ≠ "_" ∧ f2.name ≠ "_" ∧ f1.type = 29 ∧ f2.type = 30 ∧ f1.offset = 0 ∧ f2.offset = 36 := by
    simp only [Program.fieldsOf, Tryd.underlying32]
    exact ⟨_, _, rfl, by decide, by decide, rfl, rfl, rfl, rfl⟩
  have e1 := eq_flow_d d k.1.1 k.1.2 j.1.1 j.1.2 hk.la hk.lb hj.la hj.lb w
  have ei : (Op.equalIn (d + 5) 30 (.int .u64 (k.2 : Int)) (.int .u64 (j.2 : Int))).run Tryd.prog w = .ok ((k.2 : Int) == (j.2 : Int)) w := run_equalIn_int (P := Tryd.prog) w (d + 4) 30 .u64 .u64 (k.2 : Int) (j.2 : Int) Tryd.underlying30
  rw [run_equalIn_agg w (d + 5) 32 _ _ hS hp, hf]
  simp only [Op.eqFields, n1, n2, t1, t2, o1, o2, ne_eq, not_false_eq_true, if_true, Sem.run_bind, part_f k hk, part_f j hj, Result.andThen_ok, e1]
  obtain ⟨f, x⟩ := k
  obtain ⟨g, y⟩ := j
  by_cases h1 : f = g
  · subst h1
    have p1 := part_x _ hk w
    have p2 := part_x _ hj w
    by_cases h2 : x = y
    · subst h2; simp [p1, ei]
    · have e3 : ((x : Int) == (y : Int)) = false := by rw [beq_eq_false_iff_ne]; omega
      simp [p1, p2, ei, h2, e3]
  · simp [h1]
theorem eq_key (k j : Ky) (hk : KyOk k) (hj : KyOk j) (w : World) :
    (Op.equalIn 10000 32 (.agg (kyC k)) (.agg (kyC j))).run Tryd.prog w = .ok (decide (k = j)) w := eq_key_d 9994 k j hk hj w
end Go.Proofs.YtonafonhadocgaaDoor
