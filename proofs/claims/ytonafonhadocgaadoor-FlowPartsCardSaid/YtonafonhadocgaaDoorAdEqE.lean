/- Equality of ends. -/
import Derived.Test.YtonafonhadocgaaDoorQG
import Derived.Test.YtonafonhadocgaaDoorQI
namespace Go.Proofs.YtonafonhadocgaaDoor
open Go.RowKit Go.Shelf

theorem part_a (u : Bool) (l : List UInt8) (p : Nat) (h : l.length = 16) (w : World) : (part 24 (enC u l p) 0).run Tryd.prog w = .ok (.agg (adC u l)) w := by
  have e : (enC u l p).extract 0 17 = adC u l := by
    apply Array.toList_inj.1
    have h1 := enC_ad u l p h
    rw [Array.length_toList, adC_size _ _ h] at h1
    rw [Array.toList_extract]
    exact h1
  have hg : (isAgg 24).run Tryd.prog w = .ok true w := Tryd.isAgg24 w
  have hs : (sizeOf 24).run Tryd.prog w = .ok 17 w := Tryd.sizeOf24 w
  simp only [part, Sem.run_bind, hg, hs, Result.andThen_ok, if_true, Nat.zero_add, e]
  exact Sem.run_pure ..
theorem part_p (u : Bool) (l : List UInt8) (p : Nat) (h : l.length = 16) (w : World) : (part 25 (enC u l p) 17).run Tryd.prog w = .ok (.int .u16 (p : Int)) w :=
  run_part_plain (P := Tryd.prog) w (by kernel_rfl) (enC_port u l p h)

theorem eq_ends (u v : Bool) (xs ys : List UInt8) (p q : Nat) (h1 : xs.length = 16) (h2 : ys.length = 16) (w : World) :
    (Op.equalIn 10000 27 (.agg (enC u xs p)) (.agg (enC v ys q))).run Tryd.prog w = .ok (decide (u = v ∧ xs = ys ∧ p = q)) w := by
  have hS : Tryd.prog.underlying 27 = some (.struct (Tryd.prog.fieldsOf 27)) := by kernel_rfl
  have hp : Tryd.prog.stoodInHeld 27 = false := by kernel_rfl
  obtain ⟨f1, f2, hf, n1, n2, t1, t2, o1, o2⟩ : ∃ f1 f2, (Tryd.prog.fieldsOf 27).toList = [f1, f2] ∧ f1.name ≠ "_" ∧ f2.name ≠ "_" ∧ f1.type = 24 ∧ f2.type = 25 ∧ f1.offset = 0 ∧ f2.offset = 17 := by
    simp only [Program.fieldsOf, Tryd.underlying27]
    exact ⟨_, _, rfl, by decide, by decide, rfl, rfl, rfl, rfl⟩
  have ea := eq_addr_d 9996 u v xs ys h1 h2 w
  have ei : (Op.equalIn 9999 25 (.int .u16 (p : Int)) (.int .u16 (q : Int))).run Tryd.prog w = .ok ((p : Int) == (q : Int)) w := run_equalIn_int (P := Tryd.prog) w 9998 25 .u16 .u16 (p : Int) (q : Int) Tryd.underlying25
  rw [run_equalIn_agg w 9999 27 _ _ hS hp, hf]
  simp only [Op.eqFields, n1, n2, t1, t2, o1, o2, ne_eq, not_false_eq_true, if_true, Sem.run_bind, part_a u xs p h1, part_a v ys q h2, Result.andThen_ok, ea]
  by_cases e : u = v ∧ xs = ys
  · obtain ⟨rfl, rfl⟩ := e
    by_cases e2 : p = q
    · subst e2; simp [part_p u xs p h1, ei]
    · have e3 : ((p : Int) == (q : Int)) = false := by rw [beq_eq_false_iff_ne]; omega
      simp [part_p u xs p h1, part_p u xs q h1, ei, e2, e3]
  · have e4 : ¬ (u = v ∧ xs = ys ∧ p = q) := fun h => e ⟨h.1, h.2.1⟩
    simp [e, e4]
end Go.Proofs.YtonafonhadocgaaDoor
