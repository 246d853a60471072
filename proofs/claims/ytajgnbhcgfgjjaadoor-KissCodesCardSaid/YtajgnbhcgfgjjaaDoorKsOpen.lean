/- A header as an argument: its cells. -/
import Derived.Test.YtajgnbhcgfgjjaaDoorOpen
import Derived.Test.YtajgnbhcgfgjjaaDoorKsHead
import Derived.Laws.IdiomArrays
namespace Go.Proofs.YtajgnbhcgfgjjaaDoor
open Go.ChangeShapes Go.WideShapes Go.ChangeAt Go.RowKit

section
variable {H : Type} {enc : TypeId × Value → H} {W : World} {base : Nat} {held : Bool}
theorem byte_of_trod {fuel : Nat} {v : Value} {x : DataW H × List MemPlace} (h : DataW.trod enc Tryd.prog W base (fun _ => true) held fuel 5 [v] = some x) :
    ∃ z : UInt8, v = .int .u8 z.toNat := by
  obtain ⟨z, rfl, hw⟩ := int_of_trod Tryd.underlying5 h
  have := bounds_u8 hw
  refine ⟨UInt8.ofNat z.toNat, ?_⟩
  congr 1
  simp only [UInt8.toNat_ofNat']
  omega
theorem open_head {r : Reach} {b0 : Nat} {v : Value} {d : DataW H} {pl : List MemPlace} (hv : Value.okWide Tryd.prog W r b0 27 v) (h : DataW.Trod enc Tryd.prog W base (fun _ => true) held 27 v d pl) :
    ∃ (l v' m s p q rd rp : Int) (a b c d : UInt8) (rf og rc xm : Int), v = .agg (hdC l v' m s p q rd rp a.toNat b.toNat c.toNat d.toNat rf og rc xm) ∧
      (0 ≤ l ∧ l ≤ 255) ∧ (0 ≤ v' ∧ v' ≤ 255) ∧ (0 ≤ m ∧ m ≤ 255) ∧ (0 ≤ s ∧ s ≤ 255) ∧ (0 ≤ rd ∧ rd ≤ 4294967295) ∧ (0 ≤ rp ∧ rp ≤ 4294967295) ∧ (0 ≤ rf ∧ rf ≤ 18446744073709551615) ∧ (0 ≤ rc ∧ rc ≤ 18446744073709551615) ∧ (0 ≤ xm ∧ xm ≤ 18446744073709551615) := by
  obtain ⟨cs, rfl, hsz⟩ := okWide_struct Tryd.underlying27 hv
  have hC : Tryd.prog.cellsOf 27 = 16 := by kernel_rfl
  have C8 : Tryd.prog.cellsOf 5 = 1 := by kernel_rfl
  have Ci : Tryd.prog.cellsOf 22 = 1 := by kernel_rfl
  have C32 : Tryd.prog.cellsOf 23 = 1 := by kernel_rfl
  have C64 : Tryd.prog.cellsOf 25 = 1 := by kernel_rfl
  have CA : Tryd.prog.cellsOf 24 = 4 := by kernel_rfl
  obtain ⟨L⟩ := cs
  match L, hsz.trans hC with
  | [c0, c1, c2, c3, c4, c5, c6, c7, c8, c9, c10, c11, c12, c13, c14, c15], _ =>
    obtain ⟨fuel, hf⟩ := h
    obtain ⟨xs, n, _, _, _, hlen, hg⟩ := DataW.trod_struct Tryd.underlying27 hf
    clear hv hf
    have hxs : xs.length = 13 := hlen
    match xs, hxs with
    | [y0, y1, y2, y3, y4, y5, y6, y7, y8, y9, y10, y11, y12], _ =>
      have h0 := hg 0 _ rfl
      simp [Value.cells, C8] at h0
      have h1 := hg 1 _ rfl
      simp [Value.cells, C8] at h1
      have h2 := hg 2 _ rfl
      simp [Value.cells, C8] at h2
      have h3 := hg 3 _ rfl
      simp [Value.cells, C8] at h3
      have h4 := hg 4 _ rfl
      simp [Value.cells, Ci] at h4
      have h5 := hg 5 _ rfl
      simp [Value.cells, Ci] at h5
      have h6 := hg 6 _ rfl
      simp [Value.cells, C32] at h6
      have h7 := hg 7 _ rfl
      simp [Value.cells, C32] at h7
      have h8 := hg 8 _ rfl
      simp [Value.cells, CA] at h8
      have h9 := hg 9 _ rfl
      simp [Value.cells, C64] at h9
      have h10 := hg 10 _ rfl
      simp [Value.cells, C64] at h10
      have h11 := hg 11 _ rfl
      simp [Value.cells, C64] at h11
      have h12 := hg 12 _ rfl
      simp [Value.cells, C64] at h12
      obtain ⟨xl, rfl, wl⟩ := int_of_trod Tryd.underlying5 h0
      obtain ⟨xv, rfl, wv⟩ := int_of_trod Tryd.underlying5 h1
      obtain ⟨xm, rfl, wm⟩ := int_of_trod Tryd.underlying5 h2
      obtain ⟨xs, rfl, ws⟩ := int_of_trod Tryd.underlying5 h3
      obtain ⟨xp, rfl, wp⟩ := int_of_trod Tryd.underlying22 h4
      obtain ⟨xq, rfl, wq⟩ := int_of_trod Tryd.underlying22 h5
      obtain ⟨xrd, rfl, wrd⟩ := int_of_trod Tryd.underlying23 h6
      obtain ⟨xrp, rfl, wrp⟩ := int_of_trod Tryd.underlying23 h7
      obtain ⟨z0, z1, z2, z3, n4, _, k0, k1, k2, k3⟩ := trod_array4 Tryd.underlying24 C8 h8
      obtain ⟨xa, rfl⟩ := byte_of_trod k0
      obtain ⟨xb, rfl⟩ := byte_of_trod k1
      obtain ⟨xc, rfl⟩ := byte_of_trod k2
      obtain ⟨xd, rfl⟩ := byte_of_trod k3
      obtain ⟨xrf, rfl, wrf⟩ := int_of_trod Tryd.underlying25 h9
      obtain ⟨xog, rfl, wog⟩ := int_of_trod Tryd.underlying25 h10
      obtain ⟨xrc, rfl, wrc⟩ := int_of_trod Tryd.underlying25 h11
      obtain ⟨xxm, rfl, wxm⟩ := int_of_trod Tryd.underlying25 h12
      exact ⟨xl, xv, xm, xs, xp, xq, xrd, xrp, xa, xb, xc, xd, xrf, xog, xrc, xxm, rfl, bounds_u8 wl, bounds_u8 wv, bounds_u8 wm, bounds_u8 ws, bounds_u32 wrd, bounds_u32 wrp, bounds_u64 wrf, bounds_u64 wrc, bounds_u64 wxm⟩
end
end Go.Proofs.YtajgnbhcgfgjjaaDoor
