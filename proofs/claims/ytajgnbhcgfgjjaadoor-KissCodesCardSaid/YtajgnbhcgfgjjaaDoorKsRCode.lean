/- The reference's code of a header. -/
import Derived.Test.YtajgnbhcgfgjjaaDoorKsCode
namespace Go.Proofs.YtajgnbhcgfgjjaaDoor
open Go.RowKit Go.Shelf

set_option maxRecDepth 100000 in
set_option maxHeartbeats 8000000 in
theorem rcode_any (l v m s p q rd rp : Int) (a b c d : UInt8) (rf og rc xm : Int) (w : World) (h0 : 0 ≤ s) :
    Calls Tryd.prog 21 #[.agg (hdC l v m s p q rd rp a.toNat b.toNat c.toNat d.toNat rf og rc xm)] w fun e w' => e = .returned (.string (codeS m s a b c d)) ∧ Below w.heap.size w w' := by
  obtain ⟨i0, hi0, hz0, hz1, hz2⟩ := info_parts info_u8
  have Hi0 := Lib.hid hi0
  have Hz0 := Lib.hid hz0
  have Hz1 := Lib.hid hz1
  have Hz2 := Lib.hid hz2
  clear hi0 hz0 hz1 hz2
  unfold hdC
  go_enter Tryd.func21, Tryd.ntmps21
  by_cases hm : m = 4
  case neg =>
    have hmb : (m != 4) = true := by simpa using hm
    have HD := Lib.hid (show codeB m s a b c d = false by simp [codeB, hm])
    go_wp2_with fail
    go_ret
    exact ⟨by rw [codeS, HD.out]; rfl, (Below.refl _ w).alloc (Nat.le_refl _) _⟩
  by_cases hs : s = 0
  case neg =>
    have HD := Lib.hid (show codeB m s a b c d = false by simp [codeB, hs])
    subst hm
    have hsb : (0 : Int) < s := by omega
    go_wp2_with fail
    go_ret
    exact ⟨by rw [codeS, HD.out]; rfl, (Below.refl _ w).alloc (Nat.le_refl _) _⟩
  subst hm
  subst hs
  go_wp2_with fail
  have k := Blk.new w 27 #[.int .u8 l, .int .u8 v, .int .u8 4, .int .u8 0, .int .i8 p, .int .i8 q, .int .u32 rd, .int .u32 rp, .int .u8 a.toNat, .int .u8 b.toNat, .int .u8 c.toNat, .int .u8 d.toNat, .int .u64 rf, .int .u64 og, .int .u64 rc, .int .u64 xm]
  have HB0 := Lib.hid ((Below.refl _ w).alloc (Nat.le_refl _) (.cells #[.int .u8 l, .int .u8 v, .int .u8 4, .int .u8 0, .int .i8 p, .int .i8 q, .int .u32 rd, .int .u32 rp, .int .u8 a.toNat, .int .u8 b.toNat, .int .u8 c.toNat, .int .u8 d.toNat, .int .u64 rf, .int .u64 og, .int .u64 rc, .int .u64 xm] 27))
  have hsz : (w.alloc (.cells #[.int .u8 l, .int .u8 v, .int .u8 4, .int .u8 0, .int .i8 p, .int .i8 q, .int .u32 rd, .int .u32 rp, .int .u8 a.toNat, .int .u8 b.toNat, .int .u8 c.toNat, .int .u8 d.toNat, .int .u64 rf, .int .u64 og, .int .u64 rc, .int .u64 xm] 27)).heap.size = w.heap.size + 1 := by simp
  have OW0 := Lib.hid (Own.nil (w.alloc (.cells #[.int .u8 l, .int .u8 v, .int .u8 4, .int .u8 0, .int .i8 p, .int .i8 q, .int .u32 rd, .int .u32 rp, .int .u8 a.toNat, .int .u8 b.toNat, .int .u8 c.toNat, .int .u8 d.toNat, .int .u64 rf, .int .u64 og, .int .u64 rc, .int .u64 xm] 27)) (w.heap.size + 1))
  generalize w.alloc (.cells #[.int .u8 l, .int .u8 v, .int .u8 4, .int .u8 0, .int .i8 p, .int .i8 q, .int .u32 rd, .int .u32 rp, .int .u8 a.toNat, .int .u8 b.toNat, .int .u8 c.toNat, .int .u8 d.toNat, .int .u64 rf, .int .u64 og, .int .u64 rc, .int .u64 xm] 27) = w0 at *
  have HS0 : w.heap.size + 1 ≤ w0.heap.size := by omega
  have K0 := Lib.hid k
  clear k hsz
  refine wp_loop_rounds 5 ?_

  rw [rounds_succ]
  have q := K0.out.cell 8
  simp at q
  by_cases la : (a.toNat : Int) < 65
  · have HD := Lib.hid (show codeB 4 0 a b c d = false by
      have h : bigB a = false := decide_eq_false (by omega)
      simp [codeB, h])
    go_wp2_with fail
    go_ret
    exact ⟨by rw [codeS, HD.out]; rfl, HB0.out⟩
  by_cases ua : (90 : Int) < (a.toNat : Int)
  · have HD := Lib.hid (show codeB 4 0 a b c d = false by
      have h : bigB a = false := decide_eq_false (by omega)
      simp [codeB, h])
    go_wp2_with fail
    go_ret
    exact ⟨by rw [codeS, HD.out]; rfl, HB0.out⟩
  have Ba := Lib.hid (show bigB a = true from decide_eq_true (by omega))
  go_wp2_with (at_builtin; refine wpList_append_rd _ rfl (.tmp 29) (.tmp 34) 51 rfl (w.heap.size + 1) i0 _ Tryd.underlying51 Hi0.out Hz0.out Hz1.out Hz2.out rfl _ [] rfl (OW0.out.alloc _) _ _ _ [a] rfl (lit_rd _ [a] _ 1 (by simp [bv]) rfl (by omega)) (by simp) (by rw [World.size_alloc]; omega) 1 rfl ?_; intro A1 c1 w1 ho hb hg hat; have hst := hb.size; simp only [World.size_alloc] at hst; have HS1 : w.heap.size + 1 ≤ w1.heap.size := (by omega); have HX1 := Lib.hid (And.intro ho (((Below.refl (w.heap.size + 1) w0).alloc (by omega) (.cells #[.int .u8 a.toNat] 5)).trans hb)); clear ho hb hg hat hst)
  have OW1 := Lib.hid HX1.out.1
  have K1 := Lib.hid (K0.out.below HX1.out.2 (by omega))
  have HB1 := Lib.hid (HB0.out.trans (HX1.out.2.mono (by omega)))
  clear la ua q K0 HB0 OW0 HX1

  rw [rounds_succ]
  have q := K1.out.cell 9
  simp at q
  by_cases lb : (b.toNat : Int) < 65
  · have HD := Lib.hid (show codeB 4 0 a b c d = false by
      have h : bigB b = false := decide_eq_false (by omega)
      simp [codeB, h])
    go_wp2_with fail
    go_ret
    exact ⟨by rw [codeS, HD.out]; rfl, HB1.out⟩
  by_cases ub : (90 : Int) < (b.toNat : Int)
  · have HD := Lib.hid (show codeB 4 0 a b c d = false by
      have h : bigB b = false := decide_eq_false (by omega)
      simp [codeB, h])
    go_wp2_with fail
    go_ret
    exact ⟨by rw [codeS, HD.out]; rfl, HB1.out⟩
  have Bb := Lib.hid (show bigB b = true from decide_eq_true (by omega))
  go_wp2_with (at_builtin; refine wpList_append_rd _ rfl (.tmp 29) (.tmp 34) 51 rfl (w.heap.size + 1) i0 _ Tryd.underlying51 Hi0.out Hz0.out Hz1.out Hz2.out rfl _ [a] rfl (OW1.out.alloc _) _ _ _ [b] rfl (lit_rd _ [b] _ 1 (by simp [bv]) rfl (by omega)) (by simp) (by rw [World.size_alloc]; omega) 2 rfl ?_; intro A2 c2 w2 ho hb hg hat; have hst := hb.size; simp only [World.size_alloc] at hst; have HS2 : w.heap.size + 1 ≤ w2.heap.size := (by omega); have HX2 := Lib.hid (And.intro ho (((Below.refl (w.heap.size + 1) w1).alloc (by omega) (.cells #[.int .u8 b.toNat] 5)).trans hb)); clear ho hb hg hat hst)
  have OW2 := Lib.hid HX2.out.1
  have K2 := Lib.hid (K1.out.below HX2.out.2 (by omega))
  have HB2 := Lib.hid (HB1.out.trans (HX2.out.2.mono (by omega)))
  clear lb ub q K1 HB1 OW1 HX2

  rw [rounds_succ]
  have q := K2.out.cell 10
  simp at q
  by_cases lc : (c.toNat : Int) < 65
  · have HD := Lib.hid (show codeB 4 0 a b c d = false by
      have h : bigB c = false := decide_eq_false (by omega)
      simp [codeB, h])
    go_wp2_with fail
    go_ret
    exact ⟨by rw [codeS, HD.out]; rfl, HB2.out⟩
  by_cases uc : (90 : Int) < (c.toNat : Int)
  · have HD := Lib.hid (show codeB 4 0 a b c d = false by
      have h : bigB c = false := decide_eq_false (by omega)
      simp [codeB, h])
    go_wp2_with fail
    go_ret
    exact ⟨by rw [codeS, HD.out]; rfl, HB2.out⟩
  have Bc := Lib.hid (show bigB c = true from decide_eq_true (by omega))
  go_wp2_with (at_builtin; refine wpList_append_rd _ rfl (.tmp 29) (.tmp 34) 51 rfl (w.heap.size + 1) i0 _ Tryd.underlying51 Hi0.out Hz0.out Hz1.out Hz2.out rfl _ [a, b] rfl (OW2.out.alloc _) _ _ _ [c] rfl (lit_rd _ [c] _ 1 (by simp [bv]) rfl (by omega)) (by simp) (by rw [World.size_alloc]; omega) 3 rfl ?_; intro A3 c3 w3 ho hb hg hat; have hst := hb.size; simp only [World.size_alloc] at hst; have HS3 : w.heap.size + 1 ≤ w3.heap.size := (by omega); have HX3 := Lib.hid (And.intro ho (((Below.refl (w.heap.size + 1) w2).alloc (by omega) (.cells #[.int .u8 c.toNat] 5)).trans hb)); clear ho hb hg hat hst)
  have OW3 := Lib.hid HX3.out.1
  have K3 := Lib.hid (K2.out.below HX3.out.2 (by omega))
  have HB3 := Lib.hid (HB2.out.trans (HX3.out.2.mono (by omega)))
  clear lc uc q K2 HB2 OW2 HX3

  rw [rounds_succ]
  have q := K3.out.cell 11
  simp at q
  by_cases ld : (d.toNat : Int) < 65
  · have HD := Lib.hid (show codeB 4 0 a b c d = false by
      have h : bigB d = false := decide_eq_false (by omega)
      simp [codeB, h])
    go_wp2_with fail
    go_ret
    exact ⟨by rw [codeS, HD.out]; rfl, HB3.out⟩
  by_cases ud : (90 : Int) < (d.toNat : Int)
  · have HD := Lib.hid (show codeB 4 0 a b c d = false by
      have h : bigB d = false := decide_eq_false (by omega)
      simp [codeB, h])
    go_wp2_with fail
    go_ret
    exact ⟨by rw [codeS, HD.out]; rfl, HB3.out⟩
  have Bd := Lib.hid (show bigB d = true from decide_eq_true (by omega))
  go_wp2_with (at_builtin; refine wpList_append_rd _ rfl (.tmp 29) (.tmp 34) 51 rfl (w.heap.size + 1) i0 _ Tryd.underlying51 Hi0.out Hz0.out Hz1.out Hz2.out rfl _ [a, b, c] rfl (OW3.out.alloc _) _ _ _ [d] rfl (lit_rd _ [d] _ 1 (by simp [bv]) rfl (by omega)) (by simp) (by rw [World.size_alloc]; omega) 4 rfl ?_; intro A4 c4 w4 ho hb hg hat; have hst := hb.size; simp only [World.size_alloc] at hst; have HS4 : w.heap.size + 1 ≤ w4.heap.size := (by omega); have HX4 := Lib.hid (And.intro ho (((Below.refl (w.heap.size + 1) w3).alloc (by omega) (.cells #[.int .u8 d.toNat] 5)).trans hb)); clear ho hb hg hat hst)
  have OW4 := Lib.hid HX4.out.1
  have K4 := Lib.hid (K3.out.below HX4.out.2 (by omega))
  have HB4 := Lib.hid (HB3.out.trans (HX4.out.2.mono (by omega)))
  clear ld ud q K3 HB3 OW3 HX4

  rw [rounds_succ]
  have hv := conv_str (P := Tryd.prog) OW4.out.rd 51 9 Tryd.underlying51 Tryd.underlying5 Tryd.underlying9
  go_wp2_with fail
  go_ret
  have HD := Lib.hid (show codeB 4 0 a b c d = true by simp [codeB, Ba.out, Bb.out, Bc.out, Bd.out])
  exact ⟨by rw [codeS, HD.out]; rfl, HB4.out⟩
end Go.Proofs.YtajgnbhcgfgjjaaDoor
