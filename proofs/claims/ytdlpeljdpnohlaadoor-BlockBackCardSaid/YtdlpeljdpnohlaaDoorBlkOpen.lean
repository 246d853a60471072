/- The walk of block.Open. -/
import Derived.Test.YtdlpeljdpnohlaaDoorBlkSize
import Derived.Test.YtdlpeljdpnohlaaDoorBlkBytes
import Derived.Test.YtdlpeljdpnohlaaDoorFltKind
import Derived.Test.YtdlpeljdpnohlaaDoorFltWrap
import Derived.Outline
namespace Go.Proofs.YtdlpeljdpnohlaaDoor
open Go.RowKit

/-- An error whose blocks lie from lo on. -/
def ErrFrom (lo : Nat) (w : World) (v : Value) (k at_ : Int) : Prop :=
  ∃ nb fb, lo ≤ nb ∧ lo ≤ fb ∧ v = .iface 67 (.pointer (some ⟨nb, 0, none⟩)) ∧ w.cell? ⟨nb, 1, none⟩ = some (.iface 60 (.pointer (some ⟨fb, 0, none⟩))) ∧
    w.cell? ⟨fb, 0, none⟩ = some (.int .i64 k) ∧ w.cell? ⟨fb, 1, none⟩ = some (.int .i64 at_)
theorem ErrFrom.is {lo : Nat} {w : World} {v : Value} {k at_ : Int} (h : ErrFrom lo w v k at_) : IsErr w v k at_ := by
  obtain ⟨nb, fb, _, _, h⟩ := h
  exact ⟨nb, fb, h⟩
theorem ErrFrom.mono {lo lo' : Nat} {w : World} {v : Value} {k at_ : Int} (h : ErrFrom lo w v k at_) (hl : lo' ≤ lo) : ErrFrom lo' w v k at_ := by
  obtain ⟨nb, fb, h1, h2, h⟩ := h
  exact ⟨nb, fb, by omega, by omega, h⟩
theorem ErrFrom.set {lo : Nat} {w : World} {v : Value} {k at_ : Int} (h : ErrFrom lo w v k at_) {g i : Nat} (hg : g < lo) (u : Value) : ErrFrom lo (w.setCell ⟨g, i, none⟩ u) v k at_ := by
  obtain ⟨nb, fb, h1, h2, h3, h4, h5, h6⟩ := h
  exact ⟨nb, fb, h1, h2, h3, (cell_far (by simp; omega) u).trans h4, (cell_far (by simp; omega) u).trans h5, (cell_far (by simp; omega) u).trans h6⟩

/-- What an error's answer is. -/
def BadEnd (B : World) (k at_ : Int) (e : Ending) (w' : World) : Prop :=
  ∃ v, e = .returned (.tuple #[.agg #[.int .u32 0, .slice none 0 0], .int .i64 0, v]) ∧ ErrFrom B.heap.size w' v k at_ ∧ Below B.heap.size B w'

set_option maxRecDepth 100000 in
set_option maxHeartbeats 1000000 in
theorem failed_any (k at_ : Int) (w : World) (hk : (k == 0) = false) :
    Calls Tryd.prog 11 #[.int .i64 k, .int .i64 at_] w (BadEnd w k at_) := by
  go_enter Tryd.func11, Tryd.ntmps11
  go_wp2_with fail
  refine (new_any k at_ _ hk).mono ?_
  rintro e w1 ⟨rfl, rfl⟩
  have k0 := (Blk.new w 25 #[.int .u32 0, .slice none 0 0]).alloc (.cells #[.int .i64 k, .int .i64 at_] 63)
  have kf := Blk.new (w.alloc (.cells #[.int .u32 0, .slice none 0 0] 25)) 63 #[.int .i64 k, .int .i64 at_]
  have b0 := ((Below.refl w.heap.size w).alloc (Nat.le_refl _) (.cells #[.int .u32 0, .slice none 0 0] 25)).alloc (by simp) (.cells #[.int .i64 k, .int .i64 at_] 63)
  simp only [World.size_alloc] at kf
  generalize (w.alloc (.cells #[.int .u32 0, .slice none 0 0] 25)).alloc (.cells #[.int .i64 k, .int .i64 at_] 63) = w1 at *
  have K0 := Lib.hid k0
  have KF := Lib.hid kf
  have B0 := Lib.hid b0
  clear k0 kf b0
  go_wp2_with fail
  refine (wrap_block (w.heap.size + 1) k _ (KF.out.cell 0)).mono ?_
  rintro e w2 ⟨nb, hnb, rfl, hb2, hn⟩
  have HNB := Lib.hid (show w.heap.size < nb by have := KF.out.lt; omega)
  clear hnb
  have k0 := K0.out.keep hb2
  have q0 := k0.cell 0
  have q1 := k0.cell 1
  have f0 := k0.frozen 0
  have f1 := k0.frozen 1
  have hlt := k0.lt
  simp at q0 q1
  have kf := KF.out.keep hb2
  have E := fun (u0 u1 : Value) => show ErrFrom w.heap.size ((w2.setCell ⟨w.heap.size, 0, none⟩ u0).setCell ⟨w.heap.size, 1, none⟩ u1) (.iface 67 (.pointer (some ⟨nb, 0, none⟩))) k at_ from
    ⟨nb, w.heap.size + 1, by have := HNB.out; omega, by omega, rfl, ((hn.far (by have := HNB.out; simp; omega) _).far (by have := HNB.out; simp; omega) _).cell 1, ((kf.far (by simp) _).far (by simp) _).cell 0, ((kf.far (by simp) _).far (by simp) _).cell 1⟩
  have E := Lib.hid E
  have B2 := Lib.hid (B0.out.trans (hb2.mono B0.out.size))
  clear k0 kf hn hb2 B0 KF K0
  go_wp2
  refine bodyPost_ret (v := .tuple #[.agg #[.int .u32 0, .slice none 0 0], .int .i64 0, .iface 67 (.pointer (some ⟨nb, 0, none⟩))]) (by simp [results, Tryd.results11, go_sem, q0, q1]) rfl ?_
  exact ⟨_, rfl, E.out _ _, (B2.out.setCell (by exact Nat.le_refl _) _).setCell (by exact Nat.le_refl _) _⟩

set_option maxRecDepth 100000 in
set_option maxHeartbeats 1000000 in
theorem open_short (A : Option Addr) (n c : Nat) (L : Bool) (most off : Int) (l : List UInt8) (w : World) (hr : Rd w A n c l) (h0 : 0 ≤ off) (h1 : off ≤ 4611686018427387904) (hn : n ≤ 1000000) (hs : sizeOfs l L most = (0, 121)) :
    Calls Tryd.prog 6 #[.slice A n c, .bool L, .int .i64 most, .int .i64 off] w (BadEnd w 121 (off + n)) := by
  have hnc := hr.2.1
  have hcm := hr.2.2.1
  have C := Lib.hid (size_any A n c L most l _ (hr.alloc (.cells #[.int .u32 0, .slice none 0 0] 25)))
  rw [hs] at C
  clear hr hs
  go_enter Tryd.func6, Tryd.ntmps6
  go_wp2_with fail
  refine C.out.mono ?_
  rintro e w1 ⟨rfl, hb1⟩
  have k0 := (Blk.new w 25 #[.int .u32 0, .slice none 0 0]).keep hb1
  have K0 := Lib.hid k0
  have B1 := Lib.hid (below_box hb1)
  clear k0 hb1
  go_wp2_with fail
  refine (failed_any 121 (off + n) _ rfl).mono ?_
  rintro e w2 ⟨v, rfl, hv, hb2⟩
  have k0 := K0.out.keep hb2
  have q0 := k0.cell 0
  have q1 := k0.cell 1
  have f0 := k0.frozen 0
  have f1 := k0.frozen 1
  have hlt := k0.lt
  simp at q0 q1
  have E := Lib.hid (fun (u0 u1 : Value) => ((hv.set (g := w.heap.size) (i := 0) K0.out.lt u0).set (g := w.heap.size) (i := 1) K0.out.lt u1).mono B1.out.size)
  have B2 := Lib.hid (B1.out.trans (hb2.mono B1.out.size))
  clear k0 hv hb2 B1 K0
  go_wp2
  refine bodyPost_ret (v := .tuple #[.agg #[.int .u32 0, .slice none 0 0], .int .i64 0, v]) (by simp [results, Tryd.results6, go_sem, q0, q1]) rfl ?_
  exact ⟨_, rfl, E.out _ _, (B2.out.setCell (by exact Nat.le_refl _) _).setCell (by exact Nat.le_refl _) _⟩

set_option maxRecDepth 100000 in
set_option maxHeartbeats 1000000 in
theorem open_cut (A : Option Addr) (n c m : Nat) (L : Bool) (most off : Int) (l : List UInt8) (w : World) (hr : Rd w A n c l) (h0 : 0 ≤ off) (h1 : off ≤ 4611686018427387904) (hn : n ≤ 1000000) (hm : n < m) (hs : sizeOfs l L most = ((m : Int), 0)) :
    Calls Tryd.prog 6 #[.slice A n c, .bool L, .int .i64 most, .int .i64 off] w (BadEnd w 121 (off + n)) := by
  have hnc := hr.2.1
  have hcm := hr.2.2.1
  have C := Lib.hid (size_any A n c L most l _ (hr.alloc (.cells #[.int .u32 0, .slice none 0 0] 25)))
  rw [hs] at C
  clear hr hs
  have hmi : (n : Int) < (m : Int) := by omega
  go_enter Tryd.func6, Tryd.ntmps6
  go_wp2_with fail
  refine C.out.mono ?_
  rintro e w1 ⟨rfl, hb1⟩
  have k0 := (Blk.new w 25 #[.int .u32 0, .slice none 0 0]).keep hb1
  have K0 := Lib.hid k0
  have B1 := Lib.hid (below_box hb1)
  clear k0 hb1
  go_wp2_with fail
  refine (failed_any 121 (off + n) _ rfl).mono ?_
  rintro e w2 ⟨v, rfl, hv, hb2⟩
  have k0 := K0.out.keep hb2
  have q0 := k0.cell 0
  have q1 := k0.cell 1
  have f0 := k0.frozen 0
  have f1 := k0.frozen 1
  have hlt := k0.lt
  simp at q0 q1
  have E := Lib.hid (fun (u0 u1 : Value) => ((hv.set (g := w.heap.size) (i := 0) K0.out.lt u0).set (g := w.heap.size) (i := 1) K0.out.lt u1).mono B1.out.size)
  have B2 := Lib.hid (B1.out.trans (hb2.mono B1.out.size))
  clear k0 hv hb2 B1 K0
  go_wp2
  refine bodyPost_ret (v := .tuple #[.agg #[.int .u32 0, .slice none 0 0], .int .i64 0, v]) (by simp [results, Tryd.results6, go_sem, q0, q1]) rfl ?_
  exact ⟨_, rfl, E.out _ _, (B2.out.setCell (by exact Nat.le_refl _) _).setCell (by exact Nat.le_refl _) _⟩

set_option maxRecDepth 100000 in
set_option maxHeartbeats 1000000 in
theorem open_snap (A : Option Addr) (n c : Nat) (L : Bool) (most off : Int) (l : List UInt8) (w : World) (hr : Rd w A n c l) (h0 : 0 ≤ off) (h1 : off ≤ 4611686018427387904) (hs : sizeOfs l L most = (0, 122)) :
    Calls Tryd.prog 6 #[.slice A n c, .bool L, .int .i64 most, .int .i64 off] w (BadEnd w 122 (off + 4)) := by
  have hnc := hr.2.1
  have hcm := hr.2.2.1
  have C := Lib.hid (size_any A n c L most l _ (hr.alloc (.cells #[.int .u32 0, .slice none 0 0] 25)))
  rw [hs] at C
  clear hr hs
  go_enter Tryd.func6, Tryd.ntmps6
  go_wp2_with fail
  refine C.out.mono ?_
  rintro e w1 ⟨rfl, hb1⟩
  have k0 := (Blk.new w 25 #[.int .u32 0, .slice none 0 0]).keep hb1
  have K0 := Lib.hid k0
  have B1 := Lib.hid (below_box hb1)
  clear k0 hb1
  go_wp2_with fail
  refine (failed_any 122 (off + 4) _ rfl).mono ?_
  rintro e w2 ⟨v, rfl, hv, hb2⟩
  have k0 := K0.out.keep hb2
  have q0 := k0.cell 0
  have q1 := k0.cell 1
  have f0 := k0.frozen 0
  have f1 := k0.frozen 1
  have hlt := k0.lt
  simp at q0 q1
  have E := Lib.hid (fun (u0 u1 : Value) => ((hv.set (g := w.heap.size) (i := 0) K0.out.lt u0).set (g := w.heap.size) (i := 1) K0.out.lt u1).mono B1.out.size)
  have B2 := Lib.hid (B1.out.trans (hb2.mono B1.out.size))
  clear k0 hv hb2 B1 K0
  go_wp2
  refine bodyPost_ret (v := .tuple #[.agg #[.int .u32 0, .slice none 0 0], .int .i64 0, v]) (by simp [results, Tryd.results6, go_sem, q0, q1]) rfl ?_
  exact ⟨_, rfl, E.out _ _, (B2.out.setCell (by exact Nat.le_refl _) _).setCell (by exact Nat.le_refl _) _⟩

set_option maxRecDepth 100000 in
set_option maxHeartbeats 1600000 in
theorem open_harm (A : Option Addr) (n c m x : Nat) (L : Bool) (most off : Int) (l : List UInt8) (w : World) (hr : Rd w A n c l) (h0 : 0 ≤ off) (h1 : off ≤ 4611686018427387904) (hm12 : 12 ≤ m) (hm : m ≤ n) (hn : n ≤ 1000000) (hs : sizeOfs l L most = ((m : Int), 0))
    (hx : numAt L l (m - 4) 4 = x) (hxm : x ≠ m) :
    Calls Tryd.prog 6 #[.slice A n c, .bool L, .int .i64 most, .int .i64 off] w (BadEnd w 123 (off + m - 4)) := by
  have hnc := hr.2.1
  have hcm := hr.2.2.1
  have C := Lib.hid (size_any A n c L most l _ (hr.alloc (.cells #[.int .u32 0, .slice none 0 0] 25)))
  rw [hs] at C
  have HR := Lib.hid hr
  have HX := Lib.hid hx
  have hmi : (m : Int) ≤ (n : Int) := by omega
  have hxb : ((x : Int) != (m : Int)) = true := by rw [bne_iff_ne]; omega
  have hxb2 : ((x : Int) == (m : Int)) = false := by rw [beq_eq_false_iff_ne]; omega
  have hmw : IntKind.u32.wrap (m : Int) = (m : Int) := by rw [IntKind.wrap_u32]; omega
  clear hr hs hx hxm
  go_enter Tryd.func6, Tryd.ntmps6
  go_wp2_with fail
  refine C.out.mono ?_
  rintro e w1 ⟨rfl, hb1⟩
  have k0 := (Blk.new w 25 #[.int .u32 0, .slice none 0 0]).keep hb1
  have K0 := Lib.hid k0
  have B1 := Lib.hid (below_box hb1)
  have HR1 := Lib.hid ((HR.out.below B1.out).alloc (.cells #[.slice A n c, .bool L] 43))
  clear k0 hb1
  go_wp2_with fail
  refine (u32_any A n c L _ l _ HR1.out (by omega)).mono ?_
  rintro e w2 ⟨rfl, hb2⟩
  rw [show ((m : Int) - 4).toNat = m - 4 by omega, HX.out]
  replace K0 := Lib.hid ((K0.out.alloc (.cells #[.slice A n c, .bool L] 43)).keep hb2)
  replace B1 := Lib.hid ((B1.out.alloc B1.out.size (.cells #[.slice A n c, .bool L] 43)).trans (hb2.mono (by have := B1.out.size; simp; omega)))
  clear hb2 HR1
  go_wp2_with fail
  refine (failed_any 123 (off + m - 4) _ rfl).mono ?_
  rintro e w3 ⟨v, rfl, hv, hb2⟩
  have k0 := K0.out.keep hb2
  have q0 := k0.cell 0
  have q1 := k0.cell 1
  have f0 := k0.frozen 0
  have f1 := k0.frozen 1
  have hlt := k0.lt
  simp at q0 q1
  have E := Lib.hid (fun (u0 u1 : Value) => ((hv.set (g := w.heap.size) (i := 0) K0.out.lt u0).set (g := w.heap.size) (i := 1) K0.out.lt u1).mono B1.out.size)
  have B2 := Lib.hid (B1.out.trans (hb2.mono B1.out.size))
  clear k0 hv hb2 B1 K0
  go_wp2
  refine bodyPost_ret (v := .tuple #[.agg #[.int .u32 0, .slice none 0 0], .int .i64 0, v]) (by simp [results, Tryd.results6, go_sem, q0, q1]) rfl ?_
  exact ⟨_, rfl, E.out _ _, (B2.out.setCell (by exact Nat.le_refl _) _).setCell (by exact Nat.le_refl _) _⟩
end Go.Proofs.YtdlpeljdpnohlaaDoor
