/- The code of a header. -/
import Derived.Test.YtajgnbhcgfgjjaaDoorKsHead
import Derived.Test.YtajgnbhcgfgjjaaDoorApp
namespace Go.Proofs.YtajgnbhcgfgjjaaDoor
open Go.RowKit Go.Shelf

def bigB (x : UInt8) : Bool := decide (65 ≤ x.toNat ∧ x.toNat ≤ 90)
def codeB (m s : Int) (a b c d : UInt8) : Bool := m == 4 && s == 0 && bigB a && bigB b && bigB c && bigB d
def codeS (m s : Int) (a b c d : UInt8) : ByteArray := if codeB m s a b c d then ⟨#[a, b, c, d]⟩ else ⟨#[]⟩

set_option maxRecDepth 100000 in
set_option maxHeartbeats 4000000 in
theorem code_any (l v m s p q rd rp : Int) (a b c d : UInt8) (rf og rc xm : Int) (w : World) :
    Calls Tryd.prog 20 #[.agg (hdC l v m s p q rd rp a.toNat b.toNat c.toNat d.toNat rf og rc xm)] w fun e w' => e = .returned (.tuple #[.string (codeS m s a b c d), .bool (codeB m s a b c d)]) ∧ Below w.heap.size w w' := by
  unfold hdC
  go_enter Tryd.func20, Tryd.ntmps20
  by_cases hm : m = 4
  case neg =>
    have hmb : (m != 4) = true := by simpa using hm
    have HD := Lib.hid (show codeB m s a b c d = false by simp [codeB, hm])
    go_wp2_with fail
    go_ret2
    exact ⟨by rw [codeS, HD.out]; rfl, (Below.refl _ w).alloc (Nat.le_refl _) _⟩
  by_cases hs : s = 0
  case neg =>
    have HD := Lib.hid (show codeB m s a b c d = false by simp [codeB, hs])
    subst hm
    have hsb : (s != 0) = true := by simpa using hs
    go_wp2_with fail
    go_ret2
    exact ⟨by rw [codeS, HD.out]; rfl, (Below.refl _ w).alloc (Nat.le_refl _) _⟩
  subst hm
  subst hs

  have i0 : ∀ w, (Instr.index 24 (.agg #[.int .u8 a.toNat, .int .u8 b.toNat, .int .u8 c.toNat, .int .u8 d.toNat]) (.int .i64 0)).run Tryd.prog w = .ok (.int .u8 a.toNat) w := fun _ => by kernel_rfl
  have i1 : ∀ w, (Instr.index 24 (.agg #[.int .u8 a.toNat, .int .u8 b.toNat, .int .u8 c.toNat, .int .u8 d.toNat]) (.int .i64 1)).run Tryd.prog w = .ok (.int .u8 b.toNat) w := fun _ => by kernel_rfl
  have i2 : ∀ w, (Instr.index 24 (.agg #[.int .u8 a.toNat, .int .u8 b.toNat, .int .u8 c.toNat, .int .u8 d.toNat]) (.int .i64 2)).run Tryd.prog w = .ok (.int .u8 c.toNat) w := fun _ => by kernel_rfl
  have i3 : ∀ w, (Instr.index 24 (.agg #[.int .u8 a.toNat, .int .u8 b.toNat, .int .u8 c.toNat, .int .u8 d.toNat]) (.int .i64 3)).run Tryd.prog w = .ok (.int .u8 d.toNat) w := fun _ => by kernel_rfl
  go_wp2_with fail
  refine wp_loop_rounds 5 ?_

  rw [rounds_succ]
  by_cases la : (a.toNat : Int) < 65
  · have HD := Lib.hid (show codeB 4 0 a b c d = false by
      have h : bigB a = false := decide_eq_false (by omega)
      simp [codeB, h])
    go_wp2_with fail
    go_ret2
    exact ⟨by rw [codeS, HD.out]; rfl, (Below.refl _ w).alloc (Nat.le_refl _) _⟩
  by_cases ua : (90 : Int) < (a.toNat : Int)
  · have HD := Lib.hid (show codeB 4 0 a b c d = false by
      have h : bigB a = false := decide_eq_false (by omega)
      simp [codeB, h])
    go_wp2_with fail
    go_ret2
    exact ⟨by rw [codeS, HD.out]; rfl, (Below.refl _ w).alloc (Nat.le_refl _) _⟩
  go_wp2_with fail
  have Ba := Lib.hid (show bigB a = true from decide_eq_true (by omega))
  clear la ua i0
  rw [rounds_succ]
  by_cases lb : (b.toNat : Int) < 65
  · have HD := Lib.hid (show codeB 4 0 a b c d = false by
      have h : bigB b = false := decide_eq_false (by omega)
      simp [codeB, h])
    go_wp2_with fail
    go_ret2
    exact ⟨by rw [codeS, HD.out]; rfl, (Below.refl _ w).alloc (Nat.le_refl _) _⟩
  by_cases ub : (90 : Int) < (b.toNat : Int)
  · have HD := Lib.hid (show codeB 4 0 a b c d = false by
      have h : bigB b = false := decide_eq_false (by omega)
      simp [codeB, h])
    go_wp2_with fail
    go_ret2
    exact ⟨by rw [codeS, HD.out]; rfl, (Below.refl _ w).alloc (Nat.le_refl _) _⟩
  go_wp2_with fail
  have Bb := Lib.hid (show bigB b = true from decide_eq_true (by omega))
  clear lb ub i1
  rw [rounds_succ]
  by_cases lc : (c.toNat : Int) < 65
  · have HD := Lib.hid (show codeB 4 0 a b c d = false by
      have h : bigB c = false := decide_eq_false (by omega)
      simp [codeB, h])
    go_wp2_with fail
    go_ret2
    exact ⟨by rw [codeS, HD.out]; rfl, (Below.refl _ w).alloc (Nat.le_refl _) _⟩
  by_cases uc : (90 : Int) < (c.toNat : Int)
  · have HD := Lib.hid (show codeB 4 0 a b c d = false by
      have h : bigB c = false := decide_eq_false (by omega)
      simp [codeB, h])
    go_wp2_with fail
    go_ret2
    exact ⟨by rw [codeS, HD.out]; rfl, (Below.refl _ w).alloc (Nat.le_refl _) _⟩
  go_wp2_with fail
  have Bc := Lib.hid (show bigB c = true from decide_eq_true (by omega))
  clear lc uc i2
  rw [rounds_succ]
  by_cases ld : (d.toNat : Int) < 65
  · have HD := Lib.hid (show codeB 4 0 a b c d = false by
      have h : bigB d = false := decide_eq_false (by omega)
      simp [codeB, h])
    go_wp2_with fail
    go_ret2
    exact ⟨by rw [codeS, HD.out]; rfl, (Below.refl _ w).alloc (Nat.le_refl _) _⟩
  by_cases ud : (90 : Int) < (d.toNat : Int)
  · have HD := Lib.hid (show codeB 4 0 a b c d = false by
      have h : bigB d = false := decide_eq_false (by omega)
      simp [codeB, h])
    go_wp2_with fail
    go_ret2
    exact ⟨by rw [codeS, HD.out]; rfl, (Below.refl _ w).alloc (Nat.le_refl _) _⟩
  go_wp2_with fail
  have Bd := Lib.hid (show bigB d = true from decide_eq_true (by omega))
  clear ld ud i3
  rw [rounds_succ]
  have HD := Lib.hid (show codeB 4 0 a b c d = true by simp [codeB, Ba.out, Bb.out, Bc.out, Bd.out])
  have k := Blk.new w 27 #[.int .u8 l, .int .u8 v, .int .u8 4, .int .u8 0, .int .i8 p, .int .i8 q, .int .u32 rd, .int .u32 rp, .int .u8 a.toNat, .int .u8 b.toNat, .int .u8 c.toNat, .int .u8 d.toNat, .int .u64 rf, .int .u64 og, .int .u64 rc, .int .u64 xm]
  have hr : Rd (w.alloc (.cells #[.int .u8 l, .int .u8 v, .int .u8 4, .int .u8 0, .int .i8 p, .int .i8 q, .int .u32 rd, .int .u32 rp, .int .u8 a.toNat, .int .u8 b.toNat, .int .u8 c.toNat, .int .u8 d.toNat, .int .u64 rf, .int .u64 og, .int .u64 rc, .int .u64 xm] 27)) (some ⟨w.heap.size, 8, none⟩) 4 4 [a, b, c, d] := by
    refine ⟨rfl, Nat.le_refl _, by decide, fun _ => ⟨_, _, rfl, fun j hj => ?_⟩⟩
    rw [k.cell]
    have : j = 0 ∨ j = 1 ∨ j = 2 ∨ j = 3 := by omega
    rcases this with rfl | rfl | rfl | rfl <;> rfl
  have hv := conv_str (P := Tryd.prog) hr 51 9 Tryd.underlying51 Tryd.underlying5 Tryd.underlying9
  have HB := Lib.hid ((Below.refl _ w).alloc (Nat.le_refl w.heap.size) (.cells #[.int .u8 l, .int .u8 v, .int .u8 4, .int .u8 0, .int .i8 p, .int .i8 q, .int .u32 rd, .int .u32 rp, .int .u8 a.toNat, .int .u8 b.toNat, .int .u8 c.toNat, .int .u8 d.toNat, .int .u64 rf, .int .u64 og, .int .u64 rc, .int .u64 xm] 27))
  clear k hr
  go_wp2
  go_ret2
  exact ⟨by rw [codeS, HD.out]; rfl, HB.out⟩
end Go.Proofs.YtajgnbhcgfgjjaaDoor
