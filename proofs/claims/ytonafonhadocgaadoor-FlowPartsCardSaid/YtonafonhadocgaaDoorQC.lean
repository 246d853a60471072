/- Laws and walks that the claim's last text leans on, joined: each part says above itself what it proves. -/
import Derived.Test.YtonafonhadocgaaDoorQA
import Derived.Lib.ParseIntBMem
import Derived.Lib.AtoiErrMem
import Derived.Laws.Strings3
import Derived.Laws.Closers25
import Derived.Laws.Closers25b
import Derived.BigCall
import Derived.BigGuard
import Derived.Shelf.Pu.ToErrorRange
import Derived.Shelf.Pu.Lower
import Derived.Shelf.Pu.ParseUintEmpty

/- strconv.ParseUint at base 16 and 16 bits, of a text whose bytes are all digits to that base. -/
namespace Go.Proofs.YtonafonhadocgaaDoor
open Go.RowKit Go.Shelf

/-- Is a byte a digit to the base 16, and which. -/
def isHx (c : UInt8) : Bool := decide (48 ≤ c.toNat ∧ c.toNat ≤ 57) || decide (97 ≤ c.toNat ∧ c.toNat ≤ 102) || decide (65 ≤ c.toNat ∧ c.toNat ≤ 70)
def hxn (c : UInt8) : Nat := if c.toNat ≤ 57 then c.toNat - 48 else if 97 ≤ c.toNat then c.toNat - 87 else c.toNat - 55
/-- What a row of digits is; none: more than 65535. -/
def phex (acc : Nat) : List UInt8 → Option Nat
  | [] => some acc
  | c :: r => if 65535 < acc * 16 + hxn c then none else phex (acc * 16 + hxn c) r
def phexV : Option Nat → Value
  | some n => .tuple #[.int .u64 n, .nilIface]
  | none => .tuple #[.int .u64 65535, .iface (lays14_ren.t 34) (.int .i64 1)]

theorem or32_lo : ∀ n : Nat, n < 256 → 97 ≤ n → n ≤ 102 → bits BinOp.or IntKind.u8 (n : Int) 32 = (n : Int) := by decide +kernel
theorem or32_up : ∀ n : Nat, n < 256 → 65 ≤ n → n ≤ 70 → bits BinOp.or IntKind.u8 (n : Int) 32 = ((n + 32 : Nat) : Int) := by decide +kernel

set_option maxRecDepth 100000 in
set_option maxHeartbeats 16000000 in
theorem ihex_any (t : ByteArray) (hne : t.size ≠ 0) (hmax : t.size ≤ 9223372036854775806) (hall : ∀ c ∈ t.data.toList, isHx c = true) (w : World) :
    Calls Tryd.prog 72 #[.string t, .int .i64 16, .int .i64 16] w fun e w' => e = .returned (phexV (phex 0 t.data.toList)) ∧ w' = Lib.bytesWorld w 5 t := by
  have hemp : t.toList.isEmpty = false := by
    rw [← decide_eq_emptyBytes]
    exact decide_eq_false (fun h => hne (by rw [h]; rfl))
  have hcv := Lib.run_convert_string_bytes (P := Tryd.prog) w 9 57 5 t (u := .string) Tryd.underlying9 Tryd.underlying57 Tryd.underlying5
  have hB : ∀ j, j < t.size → (Lib.bytesWorld w 5 t).cell? ⟨w.heap.size, j, none⟩ = some (.int .u8 (t.data.toList.getD j 0).toNat) := fun j hj => Lib.bytesWorld_cell w 5 t j hj
  obtain ⟨W1, hW1⟩ : ∃ W1, W1 = Lib.bytesWorld w 5 t := ⟨_, rfl⟩
  rw [← hW1] at hcv hB ⊢
  clear hW1
  obtain ⟨bs, hL⟩ : ∃ bs, bs = t.data.toList := ⟨_, rfl⟩
  have hLn : bs.length = t.size := by rw [hL, Lib.size_eq]
  rw [← hL] at hB hall ⊢
  clear hL
  have hmv : IntKind.u64.wrap (IntKind.u64.wrap 65536 - 1) = 65535 := by
    rw [IntKind.wrap_u64, IntKind.wrap_u64]
    decide
  have HALL := Lib.hid hall
  have HBB := Lib.hid hB
  clear hall hB
  go_enter Tryd.func72, Tryd.ntmps72
  go_wp2
  go_loop [12, 13, 101] (fun vu vn vi => ∃ (k acc : Nat) (a : Int), vu = .bool false ∧ vn = .int .u64 a ∧ vi = .int .i64 k ∧ k ≤ t.size ∧ Hid (a = (acc : Int) ∧ acc ≤ 65535 ∧ phex 0 bs = phex acc (bs.drop k)))
    (fun _ _ vi => t.size - (intOf vi).toNat)
  case atStart => exact ⟨0, 0, 0, rfl, rfl, rfl, by omega, rfl, by omega, rfl⟩
  case round =>
    obtain ⟨k, acc, a, rfl, rfl, rfl, hk, hh⟩ := hrel
    obtain ⟨ha, hacc, hdec⟩ := hh.out
    clear hh
    have a0 : 0 ≤ a := by omega
    have a1 : a ≤ 65535 := by omega
    by_cases hkn : k < t.size
    · have hc := HBB.out k hkn
      have hdrop : bs.drop k = bs[k]'(by omega) :: bs.drop (k + 1) := List.drop_eq_getElem_cons (by omega)
      have hget : bs.getD k 0 = bs[k]'(by omega) := by simp [List.getD, List.getElem?_eq_getElem (show k < bs.length by omega)]
      have hx := HALL.out (bs[k]'(by omega)) (List.getElem_mem _)
      rw [hdrop] at hdec
      rw [hget] at hc
      generalize bs[k]'(by omega) = c at hc hdec hx
      have hc256 : c.toNat < 256 := c.toNat_lt
      clear hdrop hget HBB HALL
      have hD : (48 ≤ c.toNat ∧ c.toNat ≤ 57) ∨ (97 ≤ c.toNat ∧ c.toNat ≤ 102) ∨ (65 ≤ c.toNat ∧ c.toNat ≤ 70) := by
        simp only [isHx, Bool.or_eq_true, decide_eq_true_eq] at hx
        rcases hx with (h | h) | h
        · exact .inl h
        · exact .inr (.inl h)
        · exact .inr (.inr h)
      clear hx
      obtain ⟨hd0, hd1⟩ | ⟨hd0, hd1⟩ | ⟨hd0, hd1⟩ := hD
      · have hv : hxn c = c.toNat - 48 := by unfold hxn; rw [if_pos hd1]
        
        by_cases hov : 65535 < acc * 16 + (c.toNat - 48)
        · have hF : phex acc (c :: bs.drop (k + 1)) = none := by rw [phex, hv, if_pos hov]
          rw [hF] at hdec
          have iov : 65535 < a * 16 + ((c.toNat : Int) - 48) := by omega
          have HD := Lib.hid hdec
          clear hacc hF hov ha hv hdec
          go_wp2_with fail
          go_ret2
          exact ⟨by rw [HD.out]; rfl, rfl⟩
        · have hF : phex acc (c :: bs.drop (k + 1)) = phex (acc * 16 + (c.toNat - 48)) (bs.drop (k + 1)) := by rw [phex, hv, if_neg hov]
          have HN : Hid (a * 16 + ((c.toNat : Int) - 48) = ((acc * 16 + (c.toNat - 48) : Nat) : Int) ∧ acc * 16 + (c.toNat - 48) ≤ 65535 ∧ phex 0 bs = phex (acc * 16 + (c.toNat - 48)) (bs.drop (k + 1))) := ⟨by omega, by omega, hdec.trans hF⟩
          have iov : a * 16 + ((c.toNat : Int) - 48) ≤ 65535 := by omega
          clear hacc hF hov hdec ha hv
          go_wp2_with fail
          refine ⟨⟨k + 1, acc * 16 + (c.toNat - 48), a * 16 + ((c.toNat : Int) - 48), rfl, (by first | rfl | (congr 1; omega)), (by first | rfl | (congr 1; omega)), by omega, HN⟩, by simp [intOf]; omega⟩
      · have hv : hxn c = c.toNat - 87 := by unfold hxn; rw [if_neg (by omega), if_pos hd0]
        have ho := or32_lo c.toNat hc256 hd0 hd1
        by_cases hov : 65535 < acc * 16 + (c.toNat - 87)
        · have hF : phex acc (c :: bs.drop (k + 1)) = none := by rw [phex, hv, if_pos hov]
          rw [hF] at hdec
          have iov : 65535 < a * 16 + ((c.toNat : Int) - 97 + 10) := by omega
          have HD := Lib.hid hdec
          clear hacc hF hov ha hv hdec
          go_wp2_with (go_at_call 83; refine (AnyPu.internal_strconv_lower { lays14 with } _ _).mono ?_; rintro e w' ⟨rfl, rfl⟩)
          go_ret2
          exact ⟨by rw [HD.out]; rfl, rfl⟩
        · have hF : phex acc (c :: bs.drop (k + 1)) = phex (acc * 16 + (c.toNat - 87)) (bs.drop (k + 1)) := by rw [phex, hv, if_neg hov]
          have HN : Hid (a * 16 + ((c.toNat : Int) - 97 + 10) = ((acc * 16 + (c.toNat - 87) : Nat) : Int) ∧ acc * 16 + (c.toNat - 87) ≤ 65535 ∧ phex 0 bs = phex (acc * 16 + (c.toNat - 87)) (bs.drop (k + 1))) := ⟨by omega, by omega, hdec.trans hF⟩
          have iov : a * 16 + ((c.toNat : Int) - 97 + 10) ≤ 65535 := by omega
          clear hacc hF hov hdec ha hv
          go_wp2_with (go_at_call 83; refine (AnyPu.internal_strconv_lower { lays14 with } _ _).mono ?_; rintro e w' ⟨rfl, rfl⟩)
          refine ⟨⟨k + 1, acc * 16 + (c.toNat - 87), a * 16 + ((c.toNat : Int) - 97 + 10), rfl, (by first | rfl | (congr 1; omega)), (by first | rfl | (congr 1; omega)), by omega, HN⟩, by simp [intOf]; omega⟩
      · have hv : hxn c = c.toNat - 55 := by unfold hxn; rw [if_neg (by omega), if_neg (by omega)]
        have ho : bits BinOp.or IntKind.u8 (c.toNat : Int) 32 = (c.toNat : Int) + 32 := by rw [or32_up c.toNat hc256 hd0 hd1]; omega
        by_cases hov : 65535 < acc * 16 + (c.toNat - 55)
        · have hF : phex acc (c :: bs.drop (k + 1)) = none := by rw [phex, hv, if_pos hov]
          rw [hF] at hdec
          have iov : 65535 < a * 16 + ((c.toNat : Int) + 32 - 97 + 10) := by omega
          have HD := Lib.hid hdec
          clear hacc hF hov ha hv hdec
          go_wp2_with (go_at_call 83; refine (AnyPu.internal_strconv_lower { lays14 with } _ _).mono ?_; rintro e w' ⟨rfl, rfl⟩)
          go_ret2
          exact ⟨by rw [HD.out]; rfl, rfl⟩
        · have hF : phex acc (c :: bs.drop (k + 1)) = phex (acc * 16 + (c.toNat - 55)) (bs.drop (k + 1)) := by rw [phex, hv, if_neg hov]
          have HN : Hid (a * 16 + ((c.toNat : Int) + 32 - 97 + 10) = ((acc * 16 + (c.toNat - 55) : Nat) : Int) ∧ acc * 16 + (c.toNat - 55) ≤ 65535 ∧ phex 0 bs = phex (acc * 16 + (c.toNat - 55)) (bs.drop (k + 1))) := ⟨by omega, by omega, hdec.trans hF⟩
          have iov : a * 16 + ((c.toNat : Int) + 32 - 97 + 10) ≤ 65535 := by omega
          clear hacc hF hov hdec ha hv
          go_wp2_with (go_at_call 83; refine (AnyPu.internal_strconv_lower { lays14 with } _ _).mono ?_; rintro e w' ⟨rfl, rfl⟩)
          refine ⟨⟨k + 1, acc * 16 + (c.toNat - 55), a * 16 + ((c.toNat : Int) + 32 - 97 + 10), rfl, (by first | rfl | (congr 1; omega)), (by first | rfl | (congr 1; omega)), by omega, HN⟩, by simp [intOf]; omega⟩
    · have hkk : k = t.size := by omega
      subst hkk
      have hF : phex acc (bs.drop t.size) = some acc := by rw [List.drop_eq_nil_of_le (by omega)]; rfl
      rw [hF] at hdec
      subst ha
      clear hacc hF a0 a1
      have HD := Lib.hid hdec
      clear hdec
      go_wp2
      go_ret2
      exact ⟨by rw [HD.out]; rfl, rfl⟩
end Go.Proofs.YtonafonhadocgaaDoor
