/- KissOne, the plain law: what a sound header with one thing changed fails. -/
import Derived.Test.YtajgnbhcgfgjjaaDoorKsHead
import Derived.Test.YtajgnbhcgfgjjaaDoorKsFails
namespace Go.Proofs.YtajgnbhcgfgjjaaDoor
open Go.RowKit Go.Shelf

/-- What all is, out of each reason. -/
theorem bits_all (x0 x1 x2 x3 x4 x5 x6 x7 b0 b1 b2 b3 b4 b5 b6 b7 : Bool) (e0 : x0 = b0) (e1 : x1 = b1) (e2 : x2 = b2) (e3 : x3 = b3) (e4 : x4 = b4) (e5 : x5 = b5) (e6 : x6 = b6) (e7 : x7 = b7) :
    bitsN [x0, x1, x2, x3, x4, x5, x6, x7] 1 = bitsN [b0, b1, b2, b3, b4, b5, b6, b7] 1 := by
  subst e0 e1 e2 e3 e4 e5 e6 e7
  rfl
theorem far_is (delay disp : Int) : (if 2097152 ≤ delay + 2 * disp then (16 : Int) else 0) = bitsN [false, false, false, false, rootB delay disp, false, false, false] 1 := by
  unfold rootB
  by_cases h : 2097152 ≤ delay + 2 * disp
  · rw [if_pos h, decide_eq_true h]; rfl
  · rw [if_neg h, decide_eq_false h]; rfl
theorem far_or0 : ∀ r : Bool, bitsN [true, false, false, false, r, false, false, false] 1 = bits BinOp.or IntKind.u8 (bitsN [false, false, false, false, r, false, false, false] 1) 1 := by decide +kernel
theorem far_or1 : ∀ r : Bool, bitsN [false, true, false, false, r, false, false, false] 1 = bits BinOp.or IntKind.u8 (bitsN [false, false, false, false, r, false, false, false] 1) 2 := by decide +kernel
theorem far_or2 : ∀ r : Bool, bitsN [false, false, true, false, r, false, false, false] 1 = bits BinOp.or IntKind.u8 (bitsN [false, false, false, false, r, false, false, false] 1) 4 := by decide +kernel
theorem far_or3 : ∀ r : Bool, bitsN [false, false, false, true, r, false, false, false] 1 = bits BinOp.or IntKind.u8 (bitsN [false, false, false, false, r, false, false, false] 1) 8 := by decide +kernel
theorem far_or6 : ∀ r : Bool, bitsN [false, false, false, false, r, false, true, false] 1 = bits BinOp.or IntKind.u8 (bitsN [false, false, false, false, r, false, false, false] 1) 64 := by decide +kernel
theorem far_or7 : ∀ r : Bool, bitsN [false, false, false, false, r, false, false, true] 1 = bits BinOp.or IntKind.u8 (bitsN [false, false, false, false, r, false, false, false] 1) 128 := by decide +kernel

theorem u64_wrap (x : Int) : IntKind.u64.wrap x = x % 18446744073709551616 := IntKind.wrap_u64 x
theorem ahead_no {a b d : Int} (h : (a - b) % 18446744073709551616 = d) (hd : d < 9223372036854775808) : aheadB a b = false := by
  unfold aheadB
  exact decide_eq_false (by omega)
theorem ahead_yes {a b d : Int} (h : (a - b) % 18446744073709551616 = d) (hd : 9223372036854775808 ≤ d) : aheadB a b = true := by
  unfold aheadB
  exact decide_eq_true (by omega)
theorem zero_no {a b : Int} (ha : a ≠ 0) (hb : b ≠ 0) : f5B a b = false := by
  simp [f5B, ha, hb]

/-- The times of the statement. -/
structure Times (recv way since turn X F : Int) : Prop where
  r0 : 0 ≤ recv
  r1 : recv ≤ 18446744073709551615
  w0 : 0 ≤ way
  w1 : way ≤ 18446744073709551615
  s0 : 0 ≤ since
  s1 : since ≤ 18446744073709551615
  x : X = (recv + way / 2) % 18446744073709551616
  f : F = (X - since / 2) % 18446744073709551616
  nr : recv ≠ 0
  nx : X ≠ 0
  mr : recv ≠ (-turn) % 18446744073709551616
  mx : X ≠ (-turn) % 18446744073709551616
  nf : F ≠ 0
  mf : F ≠ (-turn) % 18446744073709551616

section
variable {recv way since turn X F : Int}
theorem Times.ar (h : Times recv way since turn X F) : aheadB X recv = false := ahead_no (d := way / 2) (by have := h.x; have := h.r0; have := h.r1; have := h.w0; have := h.w1; omega) (by have := h.w0; have := h.w1; omega)
theorem Times.af (h : Times recv way since turn X F) : aheadB X F = false := ahead_no (d := since / 2) (by have := h.f; have := h.s0; have := h.s1; omega) (by have := h.s0; have := h.s1; omega)
theorem Times.same (h : Times recv way since turn X F) (rd rp : Int) : bitsN [f0B 4, (4 : Int) != 4, (0 : Int) == 3, f3B 1, rootB rd rp, f5B recv X, aheadB X recv, f7B F X] 1 = bitsN [false, false, false, false, rootB rd rp, false, false, false] 1 :=
  bits_all _ _ _ _ _ _ _ _ _ _ _ _ _ _ _ _ (by decide) (by decide) (by decide) (by decide) rfl (zero_no h.nr h.nx) h.ar (by rw [f7B, h.af, Bool.and_false])
theorem Times.at0 (h : Times recv way since turn X F) (rd rp : Int) : bitsN [f0B 5, (4 : Int) != 4, (0 : Int) == 3, f3B 1, rootB rd rp, f5B recv X, aheadB X recv, f7B F X] 1 = bitsN [true, false, false, false, rootB rd rp, false, false, false] 1 :=
  bits_all _ _ _ _ _ _ _ _ _ _ _ _ _ _ _ _ (by decide) (by decide) (by decide) (by decide) rfl (zero_no h.nr h.nx) h.ar (by rw [f7B, h.af, Bool.and_false])
theorem Times.at1 (h : Times recv way since turn X F) (rd rp : Int) : bitsN [f0B 4, (3 : Int) != 4, (0 : Int) == 3, f3B 1, rootB rd rp, f5B recv X, aheadB X recv, f7B F X] 1 = bitsN [false, true, false, false, rootB rd rp, false, false, false] 1 :=
  bits_all _ _ _ _ _ _ _ _ _ _ _ _ _ _ _ _ (by decide) (by decide) (by decide) (by decide) rfl (zero_no h.nr h.nx) h.ar (by rw [f7B, h.af, Bool.and_false])
theorem Times.at2 (h : Times recv way since turn X F) (rd rp : Int) : bitsN [f0B 4, (4 : Int) != 4, (3 : Int) == 3, f3B 1, rootB rd rp, f5B recv X, aheadB X recv, f7B F X] 1 = bitsN [false, false, true, false, rootB rd rp, false, false, false] 1 :=
  bits_all _ _ _ _ _ _ _ _ _ _ _ _ _ _ _ _ (by decide) (by decide) (by decide) (by decide) rfl (zero_no h.nr h.nx) h.ar (by rw [f7B, h.af, Bool.and_false])
theorem Times.at3 (h : Times recv way since turn X F) (rd rp : Int) : bitsN [f0B 4, (4 : Int) != 4, (0 : Int) == 3, f3B 16, rootB rd rp, f5B recv X, aheadB X recv, f7B F X] 1 = bitsN [false, false, false, true, rootB rd rp, false, false, false] 1 :=
  bits_all _ _ _ _ _ _ _ _ _ _ _ _ _ _ _ _ (by decide) (by decide) (by decide) (by decide) rfl (zero_no h.nr h.nx) h.ar (by rw [f7B, h.af, Bool.and_false])
theorem Times.moved (h : Times recv way since turn X F) (rd rp R' X' F' : Int) (hR : R' = (recv + turn) % 18446744073709551616) (hX : X' = (X + turn) % 18446744073709551616) (hF : F' = (F + turn) % 18446744073709551616) :
    bitsN [f0B 4, (4 : Int) != 4, (0 : Int) == 3, f3B 1, rootB rd rp, f5B R' X', aheadB X' R', f7B F' X'] 1 = bitsN [false, false, false, false, rootB rd rp, false, false, false] 1 := by
  have a1 := h.r0; have a2 := h.r1; have a3 := h.w0; have a4 := h.w1; have a5 := h.s0; have a6 := h.s1; have a7 := h.x; have a8 := h.f
  have n1 : R' ≠ 0 := by have := h.mr; omega
  have n2 : X' ≠ 0 := by have := h.mx; omega
  have e1 : aheadB X' R' = false := ahead_no (d := way / 2) (by omega) (by omega)
  have e2 : aheadB X' F' = false := ahead_no (d := since / 2) (by omega) (by omega)
  exact bits_all _ _ _ _ _ _ _ _ _ _ _ _ _ _ _ _ (by decide) (by decide) (by decide) (by decide) rfl (zero_no n1 n2) e1 (by rw [f7B, e2, Bool.and_false])
theorem Times.at6 (h : Times recv way since turn X F) (rd rp P : Int) (hP : P = (recv - 1) % 18446744073709551616) (hn : P ≠ 0) :
    bitsN [f0B 4, (4 : Int) != 4, (0 : Int) == 3, f3B 1, rootB rd rp, f5B recv P, aheadB P recv, f7B 0 P] 1 = bitsN [false, false, false, false, rootB rd rp, false, true, false] 1 := by
  have e1 : aheadB P recv = true := ahead_yes (d := 18446744073709551615) (by omega) (by omega)
  exact bits_all _ _ _ _ _ _ _ _ _ _ _ _ _ _ _ _ (by decide) (by decide) (by decide) (by decide) rfl (zero_no h.nr hn) e1 rfl
theorem Times.at7 (h : Times recv way since turn X F) (rd rp G : Int) (hG : G = (X + 1) % 18446744073709551616) (hn : G ≠ 0) :
    bitsN [f0B 4, (4 : Int) != 4, (0 : Int) == 3, f3B 1, rootB rd rp, f5B recv X, aheadB X recv, f7B G X] 1 = bitsN [false, false, false, false, rootB rd rp, false, false, true] 1 := by
  have e1 : aheadB X G = true := ahead_yes (d := 18446744073709551615) (by omega) (by omega)
  exact bits_all _ _ _ _ _ _ _ _ _ _ _ _ _ _ _ _ (by decide) (by decide) (by decide) (by decide) rfl (zero_no h.nr h.nx) h.ar (by rw [f7B, e1, Bool.and_true]; simpa using hn)
end
end Go.Proofs.YtajgnbhcgfgjjaaDoor
