/- Plain arithmetic: numbers of bytes, bytes of numbers. No program. -/
import Derived.Test.YtdlpeljdpnohlaaDoorBase
import Derived.Laws.BitsAllLaws
namespace Go.Proofs.YtdlpeljdpnohlaaDoor
open Go.RowKit

/-- The number of bytes, the last one lowest. -/
def be (l : List UInt8) : Nat := l.foldl (fun a u => a * 256 + u.toNat) 0
/-- The number of bytes, the first one lowest. -/
def le : List UInt8 → Nat
  | [] => 0
  | u :: r => u.toNat + 256 * le r
def num (L : Bool) (l : List UInt8) : Nat := if L then le l else be l

theorem be_snoc (l : List UInt8) (u : UInt8) : be (l ++ [u]) = be l * 256 + u.toNat := by simp [be]
theorem le_snoc (l : List UInt8) (u : UInt8) : le (l ++ [u]) = le l + 256 ^ l.length * u.toNat := by
  induction l with
  | nil => simp [le]
  | cons a r ih => simp only [List.cons_append, le, ih, List.length_cons, Nat.pow_succ, Nat.mul_add]; rw [Nat.mul_comm (256 ^ r.length) 256, Nat.mul_assoc]; omega
theorem be_rev (l : List UInt8) : be l.reverse = le l := by
  induction l with
  | nil => rfl
  | cons a r ih => rw [List.reverse_cons, be_snoc, ih, le]; omega
theorem be_eq (l : List UInt8) : be l = le l.reverse := by rw [← be_rev, List.reverse_reverse]
theorem be_cons (u : UInt8) (l : List UInt8) : be (u :: l) = be l + 256 ^ l.length * u.toNat := by
  rw [be_eq, List.reverse_cons, le_snoc, ← be_eq]; simp
theorem byte_lt (u : UInt8) : u.toNat < 256 := u.toNat_lt
theorem le_lt (l : List UInt8) : le l < 256 ^ l.length := by
  induction l with
  | nil => simp [le]
  | cons a r ih => have := byte_lt a; simp only [le, List.length_cons, Nat.pow_succ]; omega
theorem be_lt (l : List UInt8) : be l < 256 ^ l.length := by rw [be_eq]; simpa using le_lt l.reverse
theorem num_lt (L : Bool) (l : List UInt8) : num L l < 256 ^ l.length := by
  unfold num; split
  · exact le_lt l
  · exact be_lt l
theorem pow_le8 {k : Nat} (h : k ≤ 8) : 256 ^ k ≤ 18446744073709551616 := by
  calc 256 ^ k ≤ 256 ^ 8 := Nat.pow_le_pow_right (by omega) h
    _ = 18446744073709551616 := by decide
theorem num_lt8 (L : Bool) (l : List UInt8) (h : l.length ≤ 8) : num L l < 18446744073709551616 :=
  Nat.lt_of_lt_of_le (num_lt L l) (pow_le8 h)
theorem take_snoc (l : List UInt8) (k : Nat) (h : k < l.length) : l.take (k + 1) = l.take k ++ [l[k]?.getD 0] := by
  rw [List.take_succ_eq_append_getElem h]; simp [h]
theorem drop_cons (l : List UInt8) (k : Nat) (h : k < l.length) : l.drop k = l[k]?.getD 0 :: l.drop (k + 1) := by
  rw [List.drop_eq_getElem_cons h]; simp [h]
theorem pow_lt7 {k : Nat} (h : k < 8) : 256 ^ (k + 1) ≤ 18446744073709551616 := pow_le8 (by omega)

/-- A round of the real Get, the last byte lowest. -/
theorem be_round (l : List UInt8) (k : Nat) (h : k < l.length) (h8 : l.length ≤ 8) :
    bits .or .u64 (IntKind.u64.wrap ((be (l.take k) : Int) * 256)) (IntKind.u64.wrap ((l[k]?.getD 0).toNat : Int)) = (be (l.take (k + 1)) : Int) := by
  have hb := be_lt (l.take k)
  have hk : (l.take k).length = k := by simp; omega
  rw [hk] at hb
  have hp := pow_lt7 (k := k) (by omega)
  rw [Nat.pow_succ] at hp
  have hu := byte_lt (l[k]?.getD 0)
  have e1 : IntKind.u64.wrap ((be (l.take k) : Int) * 256) = ((be (l.take k) * 256 : Nat) : Int) := by rw [IntKind.wrap_u64]; omega
  have e2 : IntKind.u64.wrap ((l[k]?.getD 0).toNat : Int) = (((l[k]?.getD 0).toNat : Nat) : Int) := by rw [IntKind.wrap_u64]; omega
  rw [e1, e2, u64_or_nat _ _ (by omega) (by omega), nat_join 8 _ _ (by omega) (by omega), take_snoc l k h, be_snoc]

theorem le_round (l : List UInt8) (k : Nat) (h : k < l.length) (h8 : l.length ≤ 8) :
    bits .or .u64 (le (l.take k) : Int) ((256 ^ k * (l[k]?.getD 0).toNat : Nat) : Int) = (le (l.take (k + 1)) : Int) := by
  have hb := le_lt (l.take k)
  have hk : (l.take k).length = k := by simp; omega
  rw [hk] at hb
  have hp := pow_lt7 (k := k) (by omega)
  rw [Nat.pow_succ] at hp
  have hu := byte_lt (l[k]?.getD 0)
  have h1 : 256 ^ k * (l[k]?.getD 0).toNat ≤ 256 ^ k * 255 := Nat.mul_le_mul_left _ (by omega)
  rw [take_snoc l k h, le_snoc, hk, u64_or_nat _ _ (by omega) (by omega), Nat.or_comm]
  have e : (256 : Nat) ^ k = 2 ^ (8 * k) := by rw [Nat.pow_mul]
  rw [nat_join (8 * k) _ _ (by rw [← e]; exact Nat.mul_mod_right _ _) (by rw [← e]; exact hb)]
  omega

theorem le_shift (u : UInt8) (k : Nat) (h : k < 8) : IntKind.u64.wrap (IntKind.u64.wrap ((u.toNat : Nat) : Int) * 2 ^ (8 * k)) = ((256 ^ k * u.toNat : Nat) : Int) := by
  have hu := byte_lt u
  have hp := pow_lt7 h
  rw [Nat.pow_succ] at hp
  have e2 : IntKind.u64.wrap ((u.toNat : Nat) : Int) = ((u.toNat : Nat) : Int) := by rw [IntKind.wrap_u64]; omega
  have e3 : ((u.toNat : Nat) : Int) * 2 ^ (8 * k) = ((256 ^ k * u.toNat : Nat) : Int) := by
    rw [show (2 : Int) ^ (8 * k) = ((256 ^ k : Nat) : Int) by rw [Int.pow_mul]; norm_cast, Int.mul_comm]; norm_cast
  have h1 : 256 ^ k * u.toNat ≤ 256 ^ k * 255 := Nat.mul_le_mul_left _ (by omega)
  rw [e2, e3, IntKind.wrap_u64]
  omega

/-- The bytes of a number, the lowest first. -/
def leb : Nat → Nat → List UInt8
  | 0, _ => []
  | m + 1, n => UInt8.ofNat n :: leb m (n / 256)
def bytesOf (L : Bool) (m n : Nat) : List UInt8 := if L then leb m n else (leb m n).reverse

theorem leb_length (m n : Nat) : (leb m n).length = m := by
  induction m generalizing n with
  | zero => rfl
  | succ m ih => simp [leb, ih]
theorem bytesOf_length (L : Bool) (m n : Nat) : (bytesOf L m n).length = m := by unfold bytesOf; split <;> simp [leb_length]
theorem le_leb (m n : Nat) : le (leb m n) = n % 256 ^ m := by
  induction m generalizing n with
  | zero => simp [leb, le, Nat.mod_one]
  | succ m ih => simp only [leb, le, ih, UInt8.toNat_ofNat', Nat.pow_succ]; rw [Nat.mul_comm (256 ^ m) 256, Nat.mod_mul (x := n) (a := 256)]
theorem num_bytesOf (L : Bool) (m n : Nat) : num L (bytesOf L m n) = n % 256 ^ m := by
  cases L
  · simp [num, bytesOf, be_rev, le_leb]
  · simp [num, bytesOf, le_leb]
theorem leb_le (l : List UInt8) : leb l.length (le l) = l := by
  induction l with
  | nil => rfl
  | cons u r ih =>
    have hu := byte_lt u
    simp only [List.length_cons, leb, le]
    rw [show (u.toNat + 256 * le r) / 256 = le r by omega, ih]
    congr 1
    apply UInt8.toNat_inj.1
    rw [UInt8.toNat_ofNat']
    omega
theorem bytesOf_num (L : Bool) (l : List UInt8) : bytesOf L l.length (num L l) = l := by
  cases L
  · have h := leb_le l.reverse
    simp only [List.length_reverse] at h
    simp [bytesOf, num, be_eq, h]
  · simp [bytesOf, num, leb_le]
theorem leb_get (m n k : Nat) (h : k < m) : (leb m n)[k]? = some (UInt8.ofNat (n / 256 ^ k)) := by
  induction m generalizing n k with
  | zero => omega
  | succ m ih =>
    cases k with
    | zero => simp [leb]
    | succ k => simp only [leb, List.getElem?_cons_succ]; rw [ih _ _ (by omega), Nat.div_div_eq_div_mul, Nat.pow_succ, Nat.mul_comm]
theorem leb_snoc (m n : Nat) : leb (m + 1) n = leb m n ++ [UInt8.ofNat (n / 256 ^ m)] := by
  induction m generalizing n with
  | zero => simp [leb]
  | succ m ih => rw [leb, ih, leb, Nat.div_div_eq_div_mul, Nat.pow_succ, Nat.mul_comm (256 ^ m)]; rfl
/-- What is put in round k of the real Put. -/
theorem bytesOf_take (L : Bool) (m n k : Nat) (h : k < m) :
    (bytesOf L m n).take (k + 1) = (bytesOf L m n).take k ++ [UInt8.ofNat (n / 256 ^ (if L then k else m - 1 - k))] := by
  have hl := bytesOf_length L m n
  rw [take_snoc _ k (by omega)]
  congr 2
  cases L
  · simp only [bytesOf, Bool.false_eq_true, if_false]
    rw [List.getElem?_reverse (by rw [leb_length]; exact h), leb_length, leb_get _ _ _ (by omega)]; rfl
  · simp only [bytesOf, if_true]
    rw [leb_get _ _ _ h]; rfl
theorem bytesOf_all (L : Bool) (m n : Nat) : (bytesOf L m n).take m = bytesOf L m n := List.take_of_length_le (by rw [bytesOf_length]; omega)
theorem bytesOf_inj (L : Bool) (m a b : Nat) (h : bytesOf L m a = bytesOf L m b) : a % 256 ^ m = b % 256 ^ m := by
  rw [← num_bytesOf L m a, ← num_bytesOf L m b, h]
theorem num_inj (L : Bool) (a b : List UInt8) (hl : a.length = b.length) (h : num L a = num L b) : a = b := by
  rw [← bytesOf_num L a, ← bytesOf_num L b, h, hl]
theorem num_eq_iff (L : Bool) (a : List UInt8) (m x : Nat) (hl : a.length = m) (hx : x < 256 ^ m) : num L a = x ↔ a = bytesOf L m x := by
  constructor
  · intro h; rw [← bytesOf_num L a, h, hl]
  · intro h; rw [h, num_bytesOf, Nat.mod_eq_of_lt hx]
theorem u8_wrap (n : Nat) : IntKind.u8.wrap (n : Int) = ((UInt8.ofNat n).toNat : Int) := by
  rw [IntKind.wrap_u8', UInt8.toNat_ofNat']; simp
/-- What the reference's Get has summed after i rounds. -/
def acc (L : Bool) (l : List UInt8) (i : Nat) : Nat := if L then le (l.take i) else be (l.drop (l.length - i))
theorem acc_zero (L : Bool) (l : List UInt8) : acc L l 0 = 0 := by cases L <;> simp [acc, le, be]
theorem acc_all (L : Bool) (l : List UInt8) : acc L l l.length = num L l := by cases L <;> simp [acc, num]
theorem acc_step (L : Bool) (l : List UInt8) (i : Nat) (h : i < l.length) : acc L l (i + 1) = acc L l i + 256 ^ i * (l[if L then i else l.length - 1 - i]?.getD 0).toNat := by
  cases L
  · simp only [acc, Bool.false_eq_true, if_false]
    have e : l.length - (i + 1) = l.length - 1 - i := by omega
    rw [e, drop_cons l (l.length - 1 - i) (by omega), be_cons, show l.length - 1 - i + 1 = l.length - i by omega]
    simp only [List.length_drop]
    rw [show l.length - (l.length - i) = i by omega]
  · simp only [acc, if_true]
    rw [take_snoc l i h, le_snoc]
    simp only [List.length_take]
    rw [show min i l.length = i by omega]
theorem acc_lt (L : Bool) (l : List UInt8) (i : Nat) (h : i ≤ l.length) : acc L l i < 256 ^ i := by
  cases L
  · have := be_lt (l.drop (l.length - i))
    simp only [List.length_drop] at this
    rw [show l.length - (l.length - i) = i by omega] at this
    exact this
  · have := le_lt (l.take i)
    simp only [List.length_take] at this
    rw [show min i l.length = i by omega] at this
    exact this
/-- A round of the reference's Get. -/
theorem acc_round (L : Bool) (l : List UInt8) (i : Nat) (h : i < l.length) (h8 : l.length ≤ 8) (u : UInt8) (hu : u = l[if L then i else l.length - 1 - i]?.getD 0) :
    IntKind.u64.wrap ((acc L l i : Int) + IntKind.u64.wrap (IntKind.u64.wrap ((u.toNat : Nat) : Int) * ((256 ^ i : Nat) : Int))) = (acc L l (i + 1) : Int) := by
  have hb := byte_lt u
  have hp := pow_lt7 (k := i) (by omega)
  rw [Nat.pow_succ] at hp
  have ha := acc_lt L l i (by omega)
  rw [acc_step L l i h, ← hu]
  have e2 : IntKind.u64.wrap ((u.toNat : Nat) : Int) = ((u.toNat : Nat) : Int) := by rw [IntKind.wrap_u64]; omega
  have e3 : ((u.toNat : Nat) : Int) * ((256 ^ i : Nat) : Int) = ((256 ^ i * u.toNat : Nat) : Int) := by rw [Int.mul_comm]; norm_cast
  have h1 : 256 ^ i * u.toNat ≤ 256 ^ i * 255 := Nat.mul_le_mul_left _ (by omega)
  rw [e2, e3, IntKind.wrap_u64, IntKind.wrap_u64]
  omega
/-- The row of the reference's Put behind i rounds. -/
def putRow (L : Bool) (m x i : Nat) : List UInt8 := if L then leb i x ++ List.replicate (m - i) 0 else List.replicate (m - i) 0 ++ (leb i x).reverse
theorem putRow_zero (L : Bool) (m x : Nat) : putRow L m x 0 = List.replicate m 0 := by cases L <;> simp [putRow, leb]
theorem putRow_all (L : Bool) (m x : Nat) : putRow L m x m = bytesOf L m x := by cases L <;> simp [putRow, bytesOf]
theorem putRow_step (L : Bool) (m x i : Nat) (h : i < m) : (putRow L m x i).set (if L then i else m - 1 - i) (UInt8.ofNat (x / 256 ^ i)) = putRow L m x (i + 1) := by
  have e : m - i = (m - (i + 1)) + 1 := by omega
  cases L
  · simp only [putRow, Bool.false_eq_true, if_false]
    rw [leb_snoc, List.reverse_append, e, List.replicate_succ', List.append_assoc, List.set_append_right _ _ (by simp; omega)]
    simp only [List.length_replicate]
    rw [show m - 1 - i - (m - (i + 1)) = 0 by omega]
    simp
  · simp only [putRow, if_true]
    rw [leb_snoc, List.set_append_right _ _ (by rw [leb_length]; exact Nat.le_refl _), leb_length, Nat.sub_self, e, List.replicate_succ, List.set_cons_zero, List.append_assoc]
    rfl
theorem u8_mod (n : Nat) : IntKind.u8.wrap ((n : Int) % 256) = ((UInt8.ofNat n).toNat : Int) := by
  rw [← u8_wrap, IntKind.wrap_u8', IntKind.wrap_u8']; omega
end Go.Proofs.YtdlpeljdpnohlaaDoor
