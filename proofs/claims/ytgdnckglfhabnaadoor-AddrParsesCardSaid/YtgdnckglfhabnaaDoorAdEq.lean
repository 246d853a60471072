/- Equality of rows of bytes, and of addresses. -/
import Derived.Test.YtgdnckglfhabnaaDoorAdParse
import Derived.ChangeKeysEq
namespace Go.Proofs.YtgdnckglfhabnaaDoor
open Go.RowKit Go.Shelf

theorem bv_at (l : List UInt8) (k : Nat) (h : k < l.length) : (bv l).toArray[k]? = some (Value.int .u8 ((l[k]'h).toNat : Int)) := by
  rw [List.getElem?_toArray]; simp [bv, h]

theorem eq_items (d : Nat) (xs ys : List UInt8) (h : xs.length = ys.length) (w : World) : ∀ m k, k + m = xs.length →
    (Op.eqItems (d + 1) 5 1 (bv xs).toArray (bv ys).toArray (List.range' k m)).run Tryd.prog w = .ok (decide (xs.drop k = ys.drop k)) w
  | 0, k, hk => by
    rw [List.drop_eq_nil_of_le (by omega), List.drop_eq_nil_of_le (by omega)]
    simp [Op.eqItems]
  | m + 1, k, hk => by
    have h1 : k < xs.length := by omega
    have h2 : k < ys.length := by omega
    have hp : Tryd.prog.plainKey 5 = true := by kernel_rfl
    have p1 := run_part_plain (P := Tryd.prog) w hp (bv_at xs k h1)
    have p2 := run_part_plain (P := Tryd.prog) w hp (bv_at ys k h2)
    have ih := eq_items d xs ys h w m (k + 1) (by omega)
    rw [List.range'_succ]
    simp only [Op.eqItems, Nat.mul_one, Sem.run_bind, p1, p2, Result.andThen_ok, run_equalIn_int (P := Tryd.prog) w d 5 .u8 .u8 _ _ Tryd.underlying5]
    rw [List.drop_eq_getElem_cons h1, List.drop_eq_getElem_cons h2]
    by_cases e : xs[k] = ys[k]
    · rw [e, beq_self_eq_true, Bool.not_true, if_neg (by decide), ih]
      exact congrArg (Result.ok · w) (decide_eq_decide.2 ⟨fun h => by rw [h], fun h => (List.cons.inj h).2⟩)
    · have : ¬ ((xs[k].toNat : Int) = (ys[k].toNat : Int)) := fun q => e (UInt8.toNat_inj.1 (by exact_mod_cast q))
      rw [beq_eq_false_iff_ne.2 this, Bool.not_false, if_pos rfl]
      exact congrArg (Result.ok · w) (decide_eq_false fun h => e (List.cons.inj h).1).symm

theorem bytes_eq (t : TypeId) (n : Nat) (hu : Tryd.prog.underlying t = some (.array n 5)) (d : Nat) (xs ys : List UInt8) (h1 : xs.length = n) (h2 : ys.length = n) (w : World) :
    (Op.equalIn (d + 2) t (.agg (bv xs).toArray) (.agg (bv ys).toArray)).run Tryd.prog w = .ok (decide (xs = ys)) w := by
  obtain ⟨i, hi⟩ := info_of_underlying (P := Tryd.prog) Tryd.underlying5
  have hc : Tryd.prog.cellsOf 5 = 1 := by kernel_rfl
  rw [run_equalIn_array (P := Tryd.prog) w (d + 1) _ _ hu hi, hc, List.range_eq_range', eq_items d xs ys (h1.trans h2.symm) w n 0 (by rw [h1]; exact Nat.zero_add n)]
  rfl

@[go_sem] theorem eq_twelve (xs ys : List UInt8) (h1 : xs.length = 12) (h2 : ys.length = 12) (w : World) :
    (Op.equalIn 10000 62 (.agg (bv xs).toArray) (.agg (bv ys).toArray)).run Tryd.prog w = .ok (decide (xs = ys)) w :=
  bytes_eq 62 12 Tryd.underlying62 9998 xs ys h1 h2 w

theorem part_v (u : Bool) (xs : List UInt8) (w : World) : (part 4 (adC u xs) 0).run Tryd.prog w = .ok (.bool u) w := run_part_plain (P := Tryd.prog) w (by kernel_rfl) (by rfl)

theorem part_b (u : Bool) (xs : List UInt8) (h : xs.length = 16) (w : World) : (part 22 (adC u xs) 1).run Tryd.prog w = .ok (.agg (bv xs).toArray) w := by
  have e : (adC u xs).extract 1 17 = (bv xs).toArray := by
    apply Array.toList_inj.1
    rw [Array.toList_extract]
    show ((bv xs).drop 0).take 16 = bv xs
    exact List.take_of_length_le (by rw [List.drop_zero, bv_length, h]; exact Nat.le_refl _)
  have hg : (isAgg 22).run Tryd.prog w = .ok true w := Tryd.isAgg22 w
  have hs : (sizeOf 22).run Tryd.prog w = .ok 16 w := Tryd.sizeOf22 w
  simp only [part, Sem.run_bind, hg, hs, Result.andThen_ok, if_true, e]
  exact Sem.run_pure ..

theorem eq_addr_d (d : Nat) (u v : Bool) (xs ys : List UInt8) (h1 : xs.length = 16) (h2 : ys.length = 16) (w : World) :
    (Op.equalIn (d + 3) 24 (.agg (adC u xs)) (.agg (adC v ys))).run Tryd.prog w = .ok (decide (u = v ∧ xs = ys)) w := by
  have hS : Tryd.prog.underlying 24 = some (.struct (Tryd.prog.fieldsOf 24)) := by kernel_rfl
  have hp : Tryd.prog.stoodInHeld 24 = false := by kernel_rfl
  obtain ⟨f1, f2, hf, n1, n2, t1, t2, o1, o2⟩ : ∃ f1 f2, (Tryd.prog.fieldsOf 24).toList = [f1, f2] ∧ f1.name ≠ "_" ∧ f2.name ≠ "_" ∧ f1.type = 4 ∧ f2.type = 22 ∧ f1.offset = 0 ∧ f2.offset = 1 := by
    simp only [Program.fieldsOf, Tryd.underlying24]
    exact ⟨_, _, rfl, by decide, by decide, rfl, rfl, rfl, rfl⟩
  rw [run_equalIn_agg w (d + 2) 24 _ _ hS hp, hf]
  simp only [Op.eqFields, n1, n2, t1, t2, o1, o2, ne_eq, not_false_eq_true, if_true, Sem.run_bind, part_v, Result.andThen_ok, run_equalIn_bool (P := Tryd.prog) w (d + 1) 4 _ _ Tryd.underlying4]
  cases u <;> cases v
  all_goals simp [part_b _ xs h1, part_b _ ys h2, bytes_eq 22 16 Tryd.underlying22 d xs ys h1 h2 w]
  all_goals by_cases e : xs = ys <;> simp [e]

theorem eq_addr (u v : Bool) (xs ys : List UInt8) (h1 : xs.length = 16) (h2 : ys.length = 16) (w : World) :
    (Op.equalIn 10000 24 (.agg (adC u xs)) (.agg (adC v ys))).run Tryd.prog w = .ok (decide (u = v ∧ xs = ys)) w :=
  eq_addr_d 9997 u v xs ys h1 h2 w
end Go.Proofs.YtgdnckglfhabnaaDoor
