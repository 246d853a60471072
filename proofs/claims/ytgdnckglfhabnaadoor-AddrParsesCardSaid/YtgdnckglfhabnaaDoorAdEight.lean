/- addr.eight: the groups of an address. -/
import Derived.Test.YtgdnckglfhabnaaDoorAdRun
import Derived.Test.YtgdnckglfhabnaaDoorLoad
namespace Go.Proofs.YtgdnckglfhabnaaDoor
open Go.RowKit Go.Shelf

/-- The groups of bytes. -/
def unflat : List UInt8 → List Nat
  | a :: b :: r => (a.toNat * 256 + b.toNat) :: unflat r
  | _ => []

def z8 : List Value := [.int .u16 0, .int .u16 0, .int .u16 0, .int .u16 0, .int .u16 0, .int .u16 0, .int .u16 0, .int .u16 0]
structure EInv (u : Bool) (l : List UInt8) (w : World) (g k : Nat) (wr : World) : Prop where
  arg : Blk wr g 24 (adC u l)
  res : Blk wr (g + 1) 53 z8.toArray
  row : Blk wr (g + 1 + 1) 53 (uv ((unflat l).take k ++ List.replicate (8 - k) 0)).toArray
  bel : Below g w wr

theorem unflat_at : ∀ (l : List UInt8) (k : Nat) (h : 2 * k + 1 < l.length), (unflat l)[k]? = some ((l[2 * k]'(by omega)).toNat * 256 + (l[2 * k + 1]'h).toNat)
  | a :: b :: r, 0, _ => rfl
  | a :: b :: r, k + 1, h => by
    have := unflat_at r k (by simp at h; omega)
    rw [unflat, List.getElem?_cons_succ, this]
    rfl
  | [a], k, h => by simp at h
  | [], k, h => by simp at h
theorem results_row8 {fn : Func} {p : Tmp} (h : fn.results = #[.cell p 53]) (tmps : Array Value) (w : World) (g : Nat) (cs : Array Value)
    (hp : tmps.getD p undef = .pointer (some ⟨g, 0, none⟩)) (hg : Blk w g 53 cs) (hi : (Tryd.prog.info? 53).map (·.size) = some cs.size) :
    (results fn tmps).run Tryd.prog w = .ok (.agg cs) w := by
  have hp' : tmps[p]?.getD undef = .pointer (some ⟨g, 0, none⟩) := by simpa using hp
  have hl := run_loadVar_row (P := Tryd.prog) w g 53 53 cs (0, 0) _ hg Tryd.underlying53 rfl hi
  simp [results, h, hp', asAddr, hl]
theorem unflat_len : ∀ (l : List UInt8) (k : Nat) (_ : l.length = 2 * k), (unflat l).length = k
  | a :: b :: r, k, h => by
    have := unflat_len r (k - 1) (by simp at h; omega)
    simp at h
    rw [unflat, List.length_cons, this]
    omega
  | [a], k, h => by simp at h; omega
  | [], k, h => by simp at h; simp [unflat]; omega
theorem row_set (U : List Nat) (k v : Nat) (hU : U[k]? = some v) (hk : k < 8) :
    (uv (U.take k ++ List.replicate (8 - k) 0)).toArray.setIfInBounds k (.int .u16 (v : Int)) = (uv (U.take (k + 1) ++ List.replicate (8 - (k + 1)) 0)).toArray := by
  have hl := (List.getElem?_eq_some_iff.1 hU).1
  obtain ⟨m, hm⟩ : ∃ m, 8 - k = m + 1 := ⟨8 - k - 1, by omega⟩
  have e1 : (U.take k ++ List.replicate (8 - k) 0).set k v = U.take (k + 1) ++ List.replicate (8 - (k + 1)) 0 := by
    rw [List.set_append_right _ _ (by simp; omega), hm, show k - (U.take k).length = 0 by simp; omega, List.replicate_succ, List.set_cons_zero, List.take_add_one, hU, show 8 - (k + 1) = m by omega]
    simp
  rw [← e1, List.setIfInBounds_toArray, uv, uv, List.map_set]

set_option maxRecDepth 100000 in
set_option maxHeartbeats 4000000 in
theorem eight_any (u : Bool) (l : List UInt8) (hl : l.length = 16) (w : World) :
    Calls Tryd.prog 21 #[.agg (adC u l)] w fun e w' => e = .returned (.agg (uv (unflat l)).toArray) ∧ Below w.heap.size w w' := by
  have HA := Lib.hid (Blk.new w 24 (adC u l))
  have HB := Lib.hid ((Below.refl _ w).alloc (Nat.le_refl _) (.cells (adC u l) 24))
  go_enter Tryd.func21, Tryd.ntmps21
  go_upto_region 2 with fail
  generalize hg : w.heap.size = g at *
  have I0 : Hid (EInv u l w g 0 (((w.alloc (.cells (adC u l) 24)).alloc (.cells z8.toArray 53)).alloc (.cells z8.toArray 53))) := by
    subst hg
    have e1 : (w.alloc (.cells (adC u l) 24)).heap.size = w.heap.size + 1 := by simp
    have e2 : ((w.alloc (.cells (adC u l) 24)).alloc (.cells z8.toArray 53)).heap.size = w.heap.size + 1 + 1 := by simp
    have b1 := (Blk.new (w.alloc (.cells (adC u l) 24)) 53 z8.toArray).alloc (.cells z8.toArray 53)
    have b2 := Blk.new ((w.alloc (.cells (adC u l) 24)).alloc (.cells z8.toArray 53)) 53 z8.toArray
    rw [e1] at b1
    rw [e2] at b2
    exact Lib.hid ⟨(HA.out.alloc _).alloc _, b1, b2, (HB.out.alloc (by simp) _).alloc (by simp; omega) _⟩
  go_wp2_with fail
  go_loopw [5] (fun i wr => ∃ k : Nat, k ≤ 8 ∧ i = .int .i64 k ∧ Hid (EInv u l w g k wr)) (fun i _ => 8 - (intOf i).toNat)
  case atStart => exact ⟨0, by omega, rfl, I0⟩
  case round =>
    clear I0 HA HB
    obtain ⟨k, hk, rfl, I⟩ := hrel
    by_cases hlt : k < 8
    · have A := I.out.arg
      have C := I.out.row
      have q1 : wr.cell? ⟨g, 1 + 2 * k, none⟩ = some (.int .u8 ((l[2 * k]'(by omega)).toNat : Int)) := by
        rw [A.cell, Nat.add_comm 1, adC_tail, bv, List.getElem?_map, List.getElem?_eq_getElem (show 2 * k < l.length by omega)]; rfl
      have q2 : wr.cell? ⟨g, 1 + (2 * k + 1), none⟩ = some (.int .u8 ((l[2 * k + 1]'(by omega)).toNat : Int)) := by
        rw [A.cell, Nat.add_comm 1, adC_tail, bv, List.getElem?_map, List.getElem?_eq_getElem (show 2 * k + 1 < l.length by omega)]; rfl
      have hU := unflat_at l k (by omega)
      have f3 := C.frozen k
      have q3 : wr.cell? ⟨g + 1 + 1, k, none⟩ = some (.int .u16 0) := by
        have hUl := (List.getElem?_eq_some_iff.1 hU).1
        rw [C.cell k, uv, List.getElem?_toArray, List.getElem?_map, List.getElem?_append_right (by simp; omega)]
        rw [List.getElem?_replicate, if_pos (by simp; omega)]
        rfl
      generalize l[2 * k]'(by omega) = x at *
      generalize l[2 * k + 1]'(by omega) = y at *
      have o1 := hi_lo x.toNat y.toNat x.toNat_lt y.toNat_lt
      have c0 := u16_byte x
      have c1 := u16_byte y
      have t1 : (2 * (k : Int)).toNat = 2 * k := by omega
      have t2 : (2 * (k : Int) + 1).toNat = 2 * k + 1 := by omega
      have HU := Lib.hid (row_set (unflat l) k (x.toNat * 256 + y.toNat) hU hlt)
      clear A C hU
      go_upto_region 5 with fail
      go_region
      go_wp2_with fail
      go_roundw
      case rel => exact ⟨k + 1, by omega, by go_num, Lib.hid ⟨(I.out.arg.far (show g ≠ g + 1 + 1 by omega) _).drew, (I.out.res.far (show g + 1 ≠ g + 1 + 1 by omega) _).drew, by rw [← HU.out]; exact (I.out.row.set_ k _).drew, below_drew (I.out.bel.setCell (show g ≤ g + 1 + 1 by omega) _)⟩⟩
      case measure => simp [intOf]; omega
    · obtain rfl : k = 8 := by omega
      have hul := unflat_len l 8 hl
      have K := Lib.hid (show Blk wr (g + 1 + 1) 53 (uv (unflat l)).toArray by
        have := I.out.row
        rw [List.take_of_length_le (by omega)] at this
        simpa using this)
      have R := Lib.hid I.out.res
      have B := Lib.hid I.out.bel
      have h8 : (Tryd.prog.info? 53).map (·.size) = some (uv (unflat l)).toArray.size := by
        rw [List.size_toArray, uv_len, hul]; kernel_rfl
      have hz : z8.toArray.size = (uv (unflat l)).toArray.size := by rw [List.size_toArray, List.size_toArray, uv_len, hul]; rfl
      have h1 : (uv (unflat l)).toArray.toList.all (·.oneCell') = true := List.all_eq_true.2 (uv_one _)
      have H8 := Lib.hid h8
      have HZ := Lib.hid hz
      have H1 := Lib.hid h1
      clear h8 hz h1 I hul
      go_wp2_with (first | (refine wpList_load_blk 53 (.tmp 3) (g + 1 + 1) 53 (uv (unflat l)).toArray _ K.out (by rfl) (by rfl) Tryd.underlying53 rfl H8.out (by rfl) ?_) | ((with_reducible refine at_store 53 (.tmp 2) (.tmp 26) ?_); refine wpList_store_blk 53 (.tmp 2) (.tmp 26) (g + 1) 53 z8.toArray (uv (unflat l)).toArray R.out (by rfl) (by rfl) (by rfl) (by rfl) H8.out HZ.out H1.out (by rfl) ?_; intro w5 hk5 hg5 hs5; have K5 := Lib.hid hk5; have G5 := Lib.hid hg5; clear hk5 hg5 hs5))
      exact bodyPost_ret (v := .agg (uv (unflat l)).toArray) (results_row8 Tryd.results21 _ _ (g + 1) _ rfl K5.out H8.out) rfl ⟨rfl, B.out.grown G5.out (by have := R.out.lt; omega) (fun k e => by cases e; omega)⟩
end Go.Proofs.YtgdnckglfhabnaaDoor
