/- Laws and walks that the claim's last text leans on, joined: each part says above itself what it proves. -/
import Derived.Test.YtonafonhadocgaaDoorQH
import Derived.Test.YtonafonhadocgaaDoorQA
import Derived.Shelf.Strings.CaseAny
import Derived.Deep.RegionHeld3

/- addr.run: the longest run of noughts. -/
namespace Go.Proofs.YtonafonhadocgaaDoor
open Go.RowKit Go.Shelf

theorem adC_tail (u : Bool) (xs : List UInt8) (k : Nat) : (adC u xs)[k + 1]? = (bv xs)[k]? := by
  rw [adC, List.getElem?_toArray]; rfl

/-- How many noughts a row begins with. -/
def zrun : List Nat → Nat
  | [] => 0
  | x :: r => if x = 0 then zrun r + 1 else 0

set_option maxRecDepth 100000 in
set_option maxHeartbeats 4000000 in
theorem run1_any (g i : Nat) (gs : List Nat) (hl : gs.length = 8) (hi : i ≤ 8) (w : World) (hg : Blk w g 95 (uv gs).toArray) :
    Calls Tryd.prog 61 #[.int .i64 i, .pointer (some ⟨g, 0, none⟩)] w fun e w' => e = .returned (.int .i64 (zrun (gs.drop i))) ∧ w' = w := by
  have HG := Lib.hid hg
  clear hg
  go_enter Tryd.func61, Tryd.ntmps61
  go_wp2_with fail
  go_loopw [4] (fun v wr => ∃ k : Nat, i + k ≤ 8 ∧ v = .int .i64 k ∧ Hid (zrun (gs.drop i) = k + zrun (gs.drop (i + k))) ∧ wr = w) (fun v _ => 8 - (intOf v).toNat)
  case atStart => exact ⟨0, by omega, rfl, Lib.hid (by simp), rfl⟩
  case round =>
    obtain ⟨k, hk, rfl, H, rfl⟩ := hrel
    by_cases hlt : i + k < 8
    · have q : wr.cell? ⟨g, i + k, none⟩ = some (.int .u16 ((gs[i + k]'(by omega) : Nat) : Int)) := by
        rw [HG.out.cell (i + k), List.getElem?_toArray]
        simp [uv, hl, hlt]
      have HD := Lib.hid (show zrun (gs.drop (i + k)) = if gs[i + k]'(by omega) = 0 then zrun (gs.drop (i + (k + 1))) + 1 else 0 by
        rw [List.drop_eq_getElem_cons (by omega : i + k < gs.length), zrun]
        rfl)
      generalize gs[i + k]'(by omega) = x at *
      by_cases hx : x = 0
      · subst hx
        have HN := Lib.hid (show zrun (gs.drop i) = (k + 1) + zrun (gs.drop (i + (k + 1))) by rw [H.out, HD.out, if_pos rfl]; omega)
        clear H HD
        go_wp2_with fail
        go_roundw
        case rel => exact ⟨k + 1, by omega, by go_num, HN, trivial⟩
        case measure => simp [intOf]; omega
      · have hxb : ((x : Int) == 0) = false := by rw [beq_eq_false_iff_ne]; omega
        have HN := Lib.hid (show zrun (gs.drop i) = k by rw [H.out, HD.out, if_neg hx]; rfl)
        clear H HD
        go_wp2_with fail
        go_ret
        exact ⟨by rw [HN.out]; rfl, rfl⟩
    · have hik : i + k = 8 := by omega
      have HN := Lib.hid (show zrun (gs.drop i) = k by rw [H.out, hik, List.drop_eq_nil_of_le (by omega)]; rfl)
      clear H
      go_wp2_with fail
      go_ret
      exact ⟨by rw [HN.out]; rfl, rfl⟩

/-- Where the longest run of noughts begins, and its length, among the first k beginnings. -/
def runF (gs : List Nat) : Nat → Nat × Nat
  | 0 => (0, 0)
  | k + 1 => if (runF gs k).2 < zrun (gs.drop k) then (k, zrun (gs.drop k)) else runF gs k
theorem zrun_le : ∀ l : List Nat, zrun l ≤ l.length
  | [] => Nat.le_refl _
  | x :: r => by
    have := zrun_le r
    rw [zrun, List.length_cons]
    split <;> omega

set_option maxRecDepth 100000 in
set_option maxHeartbeats 4000000 in
theorem run_any (gs : List Nat) (hl : gs.length = 8) (w : World) :
    Calls Tryd.prog 48 #[.agg (uv gs).toArray] w fun e w' => e = .returned (.tuple #[.int .i64 (runF gs 8).1, .int .i64 (runF gs 8).2]) ∧ Below w.heap.size w w' := by
  have HB := Lib.hid ((Below.refl _ w).alloc (Nat.le_refl _) (.cells (uv gs).toArray 95))
  have HC := Lib.hid (fun (i : Nat) (hi : i ≤ 8) => run1_any w.heap.size i gs hl hi (w.alloc (.cells (uv gs).toArray 95)) (Blk.new w 95 _))
  go_enter Tryd.func48, Tryd.ntmps48
  go_wp2_with fail
  generalize w.alloc (.cells (uv gs).toArray 95) = w1 at *
  go_loopw [2, 3, 8] (fun a n i wr => ∃ k : Nat, k ≤ 8 ∧ i = .int .i64 k ∧ Hid (a = .int .i64 (runF gs k).1 ∧ n = .int .i64 (runF gs k).2) ∧ wr = w1) (fun _ _ i _ => 8 - (intOf i).toNat)
  case atStart => exact ⟨0, by omega, rfl, Lib.hid ⟨rfl, rfl⟩, rfl⟩
  case round =>
    obtain ⟨k, hk, rfl, H, rfl⟩ := hrel
    obtain ⟨rfl, rfl⟩ := H.out
    clear H
    by_cases hlt : k < 8
    · have HN := Lib.hid (show runF gs (k + 1) = if (runF gs k).2 < zrun (gs.drop k) then (k, zrun (gs.drop k)) else runF gs k from rfl)
      have HK := Lib.hid (HC.out k hk)
      generalize runF gs k = r at *
      generalize zrun (gs.drop k) = z at *
      by_cases hz : r.2 < z
      · have hzi : (r.2 : Int) < z := by omega
        have HN' := Lib.hid (show runF gs (k + 1) = (k, z) by rw [HN.out, if_pos hz])
        clear HN
        go_wp2_with fail
        refine HK.out.mono ?_
        rintro e w2 ⟨rfl, rfl⟩
        go_wp2_with fail
        go_roundw
        case rel => exact ⟨k + 1, by omega, by go_num, Lib.hid (by rw [HN'.out]; exact ⟨rfl, rfl⟩), trivial⟩
        case measure => simp [intOf]; omega
      · have hzi : ¬ (r.2 : Int) < z := by omega
        have HN' := Lib.hid (show runF gs (k + 1) = r by rw [HN.out, if_neg hz])
        clear HN
        go_wp2_with fail
        refine HK.out.mono ?_
        rintro e w2 ⟨rfl, rfl⟩
        go_wp2_with fail
        go_roundw
        case rel => exact ⟨k + 1, by omega, by go_num, Lib.hid (by rw [HN'.out]; exact ⟨rfl, rfl⟩), trivial⟩
        case measure => simp [intOf]; omega
    · obtain rfl : k = 8 := by omega
      go_wp2_with fail
      go_ret2
      exact ⟨rfl, HB.out⟩
end Go.Proofs.YtonafonhadocgaaDoor

/- addr.eight: the groups of an address. -/
namespace Go.Proofs.YtonafonhadocgaaDoor
open Go.RowKit Go.Shelf

/-- The groups of bytes. -/
def unflat : List UInt8 → List Nat
  | a :: b :: r => (a.toNat * 256 + b.toNat) :: unflat r
  | _ => []

def z8 : List Value := [.int .u16 0, .int .u16 0, .int .u16 0, .int .u16 0, .int .u16 0, .int .u16 0, .int .u16 0, .int .u16 0]
structure EInv (u : Bool) (l : List UInt8) (w : World) (g k : Nat) (wr : World) : Prop where
  arg : Blk wr g 24 (adC u l)
  res : Blk wr (g + 1) 95 z8.toArray
  row : Blk wr (g + 1 + 1) 95 (uv ((unflat l).take k ++ List.replicate (8 - k) 0)).toArray
  bel : Below g w wr

theorem unflat_at : ∀ (l : List UInt8) (k : Nat) (h : 2 * k + 1 < l.length), (unflat l)[k]? = some ((l[2 * k]'(by omega)).toNat * 256 + (l[2 * k + 1]'h).toNat)
  | a :: b :: r, 0, _ => rfl
  | a :: b :: r, k + 1, h => by
    have := unflat_at r k (by simp at h; omega)
    rw [unflat, List.getElem?_cons_succ, this]
    rfl
  | [a], k, h => by simp at h
  | [], k, h => by simp at h
theorem results_row8 {fn : Func} {p : Tmp} (h : fn.results = #[.cell p 95]) (tmps : Array Value) (w : World) (g : Nat) (cs : Array Value)
    (hp : tmps.getD p undef = .pointer (some ⟨g, 0, none⟩)) (hg : Blk w g 95 cs) (hi : (Tryd.prog.info? 95).map (·.size) = some cs.size) :
    (results fn tmps).run Tryd.prog w = .ok (.agg cs) w := by
  have hp' : tmps[p]?.getD undef = .pointer (some ⟨g, 0, none⟩) := by simpa using hp
  have hl := run_loadVar_row (P := Tryd.prog) w g 95 95 cs (0, 0) _ hg Tryd.underlying95 rfl hi
  simp [results, h, hp', asAddr, hl]
theorem unflat_len : ∀ (l : List UInt8) (k : Nat) (_ : l.length = 2 * k), (unflat l).length = k
  | a :: b :: r, k, h => by
    have := unflat_len r (k - 1) (by simp at h; omega)
    simp at h
    rw [unflat, List.length_cons, this]
    omega
  | [a], k, h => by simp at h; omega
  | [], k, h => by simp at h; simp [unflat]; omega
theorem row_set (U : List Nat) (k v : Nat) (hU : U[k]? = some v) (hk : k < 8) :
    (uv (U.take k ++ List.replicate (8 - k) 0)).toArray.setIfInBounds k (.int .u16 (v : Int)) = (uv (U.take (k + 1) ++ List.replicate (8 - (k + 1)) 0)).toArray := by
  have hl := (List.getElem?_eq_some_iff.1 hU).1
  obtain ⟨m, hm⟩ : ∃ m, 8 - k = m + 1 := ⟨8 - k - 1, by omega⟩
  have e1 : (U.take k ++ List.replicate (8 - k) 0).set k v = U.take (k + 1) ++ List.replicate (8 - (k + 1)) 0 := by
    rw [List.set_append_right _ _ (by simp; omega), hm, show k - (U.take k).length = 0 by simp; omega, List.replicate_succ, List.set_cons_zero, List.take_add_one, hU, show 8 - (k + 1) = m by omega]
    simp
  rw [← e1, List.setIfInBounds_toArray, uv, uv, List.map_set]

set_option maxRecDepth 100000 in
set_option maxHeartbeats 4000000 in
theorem eight_any (u : Bool) (l : List UInt8) (hl : l.length = 16) (w : World) :
    Calls Tryd.prog 47 #[.agg (adC u l)] w fun e w' => e = .returned (.agg (uv (unflat l)).toArray) ∧ Below w.heap.size w w' := by
  have HA := Lib.hid (Blk.new w 24 (adC u l))
  have HB := Lib.hid ((Below.refl _ w).alloc (Nat.le_refl _) (.cells (adC u l) 24))
  go_enter Tryd.func47, Tryd.ntmps47
  go_upto_region 2 with fail
  generalize hg : w.heap.size = g at *
  have I0 : Hid (EInv u l w g 0 (((w.alloc (.cells (adC u l) 24)).alloc (.cells z8.toArray 95)).alloc (.cells z8.toArray 95))) := by
    subst hg
    have e1 : (w.alloc (.cells (adC u l) 24)).heap.size = w.heap.size + 1 := by simp
    have e2 : ((w.alloc (.cells (adC u l) 24)).alloc (.cells z8.toArray 95)).heap.size = w.heap.size + 1 + 1 := by simp
    have b1 := (Blk.new (w.alloc (.cells (adC u l) 24)) 95 z8.toArray).alloc (.cells z8.toArray 95)
    have b2 := Blk.new ((w.alloc (.cells (adC u l) 24)).alloc (.cells z8.toArray 95)) 95 z8.toArray
    rw [e1] at b1
    rw [e2] at b2
    exact Lib.hid ⟨(HA.out.alloc _).alloc _, b1, b2, (HB.out.alloc (by simp) _).alloc (by simp; omega) _⟩
  go_wp2_with fail
  go_loopw [5] (fun i wr => ∃ k : Nat, k ≤ 8 ∧ i = .int .i64 k ∧ Hid (EInv u l w g k wr)) (fun i _ => 8 - (intOf i).toNat)
  case atStart => exact ⟨0, by omega, rfl, I0⟩
  case round =>
    clear I0 HA HB
    obtain ⟨k, hk, rfl, I⟩ := hrel
    by_cases hlt : k < 8
    · have A := I.out.arg
      have C := I.out.row
      have q1 : wr.cell? ⟨g, 1 + 2 * k, none⟩ = some (.int .u8 ((l[2 * k]'(by omega)).toNat : Int)) := by
        rw [A.cell, Nat.add_comm 1, adC_tail, bv, List.getElem?_map, List.getElem?_eq_getElem (show 2 * k < l.length by omega)]; rfl
      have q2 : wr.cell? ⟨g, 1 + (2 * k + 1), none⟩ = some (.int .u8 ((l[2 * k + 1]'(by omega)).toNat : Int)) := by
        rw [A.cell, Nat.add_comm 1, adC_tail, bv, List.getElem?_map, List.getElem?_eq_getElem (show 2 * k + 1 < l.length by omega)]; rfl
      have hU := unflat_at l k (by omega)
      have f3 := C.frozen k
      have q3 : wr.cell? ⟨g + 1 + 1, k, none⟩ = some (.int .u16 0) := by
        have hUl := (List.getElem?_eq_some_iff.1 hU).1
        rw [C.cell k, uv, List.getElem?_toArray, List.getElem?_map, List.getElem?_append_right (by simp; omega)]
        rw [List.getElem?_replicate, if_pos (by simp; omega)]
        rfl
      generalize l[2 * k]'(by omega) = x at *
      generalize l[2 * k + 1]'(by omega) = y at *
      have o1 := hi_lo x.toNat y.toNat x.toNat_lt y.toNat_lt
      have c0 := u16_byte x
      have c1 := u16_byte y
      have t1 : (2 * (k : Int)).toNat = 2 * k := by omega
      have t2 : (2 * (k : Int) + 1).toNat = 2 * k + 1 := by omega
      have HU := Lib.hid (row_set (unflat l) k (x.toNat * 256 + y.toNat) hU hlt)
      clear A C hU
      go_upto_region 5 with fail
      go_region
      go_wp2_with fail
      go_roundw
      case rel => exact ⟨k + 1, by omega, by go_num, Lib.hid ⟨(I.out.arg.far (show g ≠ g + 1 + 1 by omega) _).drew, (I.out.res.far (show g + 1 ≠ g + 1 + 1 by omega) _).drew, by rw [← HU.out]; exact (I.out.row.set_ k _).drew, below_drew (I.out.bel.setCell (show g ≤ g + 1 + 1 by omega) _)⟩⟩
      case measure => simp [intOf]; omega
    · obtain rfl : k = 8 := by omega
      have hul := unflat_len l 8 hl
      have K := Lib.hid (show Blk wr (g + 1 + 1) 95 (uv (unflat l)).toArray by
        have := I.out.row
        rw [List.take_of_length_le (by omega)] at this
        simpa using this)
      have R := Lib.hid I.out.res
      have B := Lib.hid I.out.bel
      have h8 : (Tryd.prog.info? 95).map (·.size) = some (uv (unflat l)).toArray.size := by
        rw [List.size_toArray, uv_len, hul]; kernel_rfl
      have hz : z8.toArray.size = (uv (unflat l)).toArray.size := by rw [List.size_toArray, List.size_toArray, uv_len, hul]; rfl
      have h1 : (uv (unflat l)).toArray.toList.all (·.oneCell') = true := List.all_eq_true.2 (uv_one _)
      have H8 := Lib.hid h8
      have HZ := Lib.hid hz
      have H1 := Lib.hid h1
      clear h8 hz h1 I hul
      go_wp2_with (first | (refine wpList_load_blk 95 (.tmp 3) (g + 1 + 1) 95 (uv (unflat l)).toArray _ K.out (by rfl) (by rfl) Tryd.underlying95 rfl H8.out (by rfl) ?_) | ((with_reducible refine at_store 95 (.tmp 2) (.tmp 26) ?_); refine wpList_store_blk 95 (.tmp 2) (.tmp 26) (g + 1) 95 z8.toArray (uv (unflat l)).toArray R.out (by rfl) (by rfl) (by rfl) (by rfl) H8.out HZ.out H1.out (by rfl) ?_; intro w5 hk5 hg5 hs5; have K5 := Lib.hid hk5; have G5 := Lib.hid hg5; clear hk5 hg5 hs5))
      exact bodyPost_ret (v := .agg (uv (unflat l)).toArray) (results_row8 Tryd.results47 _ _ (g + 1) _ rfl K5.out H8.out) rfl ⟨rfl, B.out.grown G5.out (by have := R.out.lt; omega) (fun k e => by cases e; omega)⟩
end Go.Proofs.YtonafonhadocgaaDoor

/- addr.Print. -/
namespace Go.Proofs.YtonafonhadocgaaDoor
open Go.RowKit Go.Shelf

/-- The texts of an IPv4 address. -/
def print4 (l : List UInt8) : List UInt8 := Lib.join ((l.take 4).map fun b => dec b.toNat) [46]

set_option maxRecDepth 100000 in
set_option maxHeartbeats 4000000 in
theorem print_no (l : List UInt8) (hl : l.length = 16) (hm : mayB false l = false) (w : World) :
    Calls Tryd.prog 29 #[.agg (adC false l)] w fun e w' => e = .returned (.tuple #[.string ⟨#[]⟩, .int .i64 2]) ∧ Below w.heap.size w w' := by
  have K := Lib.hid (Blk.new w 24 (adC false l))
  have B := Lib.hid ((Below.refl _ w).alloc (Nat.le_refl _) (.cells (adC false l) 24))
  have HM := Lib.hid (fun W => may_any false l hl W)
  rw [hm] at HM
  have hs := Lib.hid (show (Tryd.prog.info? 24).map (·.size) = some (adC false l).size by rw [adC_size _ _ hl]; exact adSize)
  obtain ⟨cs, hcs⟩ : ∃ cs, cs = adC false l := ⟨_, rfl⟩
  rw [← hcs] at K B HM hs ⊢
  clear hm hcs
  go_enter Tryd.func29, Tryd.ntmps29
  go_wp2_with (refine wpList_load_blk 24 (.tmp 1) w.heap.size 24 cs _ K.out (by rfl) (by rfl) Tryd.underlying24 rfl hs.out (by rfl) ?_)
  refine (HM.out _).mono ?_
  rintro e w2 ⟨rfl, b⟩
  have B2 := Lib.hid (B.out.trans (b.mono B.out.size))
  clear b
  go_wp2_with fail
  go_ret2
  exact ⟨rfl, B2.out⟩

theorem dec_len (n : Nat) (h : n < 256) : (dec n).length ≤ 3 := by
  have : ∀ n : Fin 256, (dec n.val).length ≤ 3 := by decide +kernel
  exact this ⟨n, h⟩

set_option maxRecDepth 100000 in
set_option maxHeartbeats 4000000 in
theorem print_four (l : List UInt8) (hl : l.length = 16) (hm : mayB false l = true) (w : World) (env : Env w) :
    Calls Tryd.prog 29 #[.agg (adC false l)] w fun e w' => e = .returned (.tuple #[.string ⟨(print4 l).toArray⟩, .int .i64 0]) ∧ Below w.heap.size w w' := by
  have K := Lib.hid (Blk.new w 24 (adC false l))
  have B := Lib.hid ((Below.refl _ w).alloc (Nat.le_refl _) (.cells (adC false l) 24))
  have HM := Lib.hid (fun W => may_any false l hl W)
  rw [hm] at HM
  have E := Lib.hid env
  have hs := Lib.hid (show (Tryd.prog.info? 24).map (·.size) = some (adC false l).size by rw [adC_size _ _ hl]; exact adSize)
  have HF := Lib.hid (fun (W : World) (e : Env W) (g : Nat) (k : Blk W g 24 (adC false l)) => four_any (some ⟨g, 1, none⟩) 4 16 ((l.take 4).map fun b => b.toNat) W e
    (fun x hx => by obtain ⟨b, _, rfl⟩ := List.mem_map.1 hx; exact b.toNat_lt)
    ⟨by simp [hl], by omega, by omega, fun _ => ⟨g, 1, rfl, fun j hj => by
      rw [k.cell (1 + j), Nat.add_comm 1 j, adC_tail, bv, List.getElem?_map, List.getElem?_map, List.getElem?_map, List.getElem?_take, if_pos hj]
      cases l[j]? <;> rfl⟩⟩ (by omega)
    (by
      have := join_len 46 3 (((l.take 4).map fun b => b.toNat).map dec) (fun x hx => by
        obtain ⟨n, hn, rfl⟩ := List.mem_map.1 hx
        obtain ⟨b, _, rfl⟩ := List.mem_map.1 hn
        exact dec_len _ b.toNat_lt)
      have e : (((l.take 4).map fun b => b.toNat).map dec).length = 4 := by simp [hl]
      rw [e] at this
      omega))
  have q0 : (adC false l)[0]? = some (.bool false) := rfl
  have Q0 := Lib.hid q0
  have HP := Lib.hid (show Lib.join (((l.take 4).map fun b => b.toNat).map dec) [46] = print4 l by rw [print4, List.map_map]; rfl)
  obtain ⟨cs, hcs⟩ : ∃ cs, cs = adC false l := ⟨_, rfl⟩
  rw [← hcs] at K B HM hs HF Q0 ⊢
  clear hm hcs env q0
  go_enter Tryd.func29, Tryd.ntmps29
  go_wp2_with (refine wpList_load_blk 24 (.tmp 1) w.heap.size 24 cs _ K.out (by rfl) (by rfl) Tryd.underlying24 rfl hs.out (by rfl) ?_)
  refine (HM.out _).mono ?_
  rintro e w2 ⟨rfl, b⟩
  have B2 := Lib.hid (B.out.trans (b.mono B.out.size))
  have K2 := Lib.hid (K.out.keep b)
  have q : w2.cell? ⟨w.heap.size, 0, none⟩ = some (.bool false) := by rw [K2.out.cell 0]; exact Q0.out
  have HF2 := Lib.hid (HF.out w2 (E.out.below B2.out) w.heap.size K2.out)
  clear b K B HF
  go_wp2_with fail
  refine HF2.out.mono ?_
  rintro e w3 ⟨rfl, b⟩
  have B3 := Lib.hid (B2.out.trans (b.mono B2.out.size))
  rw [HP.out]
  clear b
  go_wp2_with fail
  go_ret2
  exact ⟨rfl, B3.out⟩
end Go.Proofs.YtonafonhadocgaaDoor

/- addr.Print at an IPv6 address without a long run of noughts. -/
namespace Go.Proofs.YtonafonhadocgaaDoor
open Go.RowKit Go.Shelf

theorem hex_len (n : Nat) : (hex n).length ≤ 4 := by
  unfold hex
  split
  · simp
  · split
    · simp
    · split <;> simp
theorem unflat_lt : ∀ (l : List UInt8), ∀ x ∈ unflat l, x < 65536
  | a :: b :: r, x, h => by
    have ha := a.toNat_lt
    have hb := b.toNat_lt
    rcases List.mem_cons.1 h with rfl | h
    · omega
    · exact unflat_lt r x h
  | [a], x, h => by cases h
  | [], x, h => by cases h
theorem row_len (gs : List Nat) (h : gs.length ≤ 16) : (Lib.join (gs.map hex) [58]).length ≤ 140737488355328 := by
  have := join_len 58 4 (gs.map hex) (fun x hx => by
    obtain ⟨n, _, rfl⟩ := List.mem_map.1 hx
    exact hex_len n)
  rw [List.length_map] at this
  omega
theorem print_world {w w2 w4 : World} {g : Nat} (B : Below g w w2) (hg : g ≤ w2.heap.size) {o : Obj} (G : (w2.alloc o).grownBy w4 (some w2.heap.size)) : Below g w w4 :=
  (B.alloc hg o).grown G (by simp; omega) (fun k e => by cases e; exact hg)

set_option maxRecDepth 100000 in
set_option maxHeartbeats 4000000 in
theorem print_all (l : List UInt8) (hl : l.length = 16) (hr : (runF (unflat l) 8).2 < 2) (w : World) (env : Env w) :
    Calls Tryd.prog 29 #[.agg (adC true l)] w fun e w' => e = .returned (.tuple #[.string ⟨(Lib.join ((unflat l).map hex) [58]).toArray⟩, .int .i64 0]) ∧ Below w.heap.size w w' := by
  have K := Lib.hid (Blk.new w 24 (adC true l))
  have B := Lib.hid ((Below.refl _ w).alloc (Nat.le_refl _) (.cells (adC true l) 24))
  have HM := Lib.hid (fun W => may_any true l hl W)
  rw [show mayB true l = true from rfl] at HM
  have E := Lib.hid env
  have hul := unflat_len l 8 hl
  have H8 := Lib.hid (fun W => eight_any true l hl W)
  have HRu := Lib.hid (fun W => run_any (unflat l) hul W)
  have hs := Lib.hid (show (Tryd.prog.info? 24).map (·.size) = some (adC true l).size by rw [adC_size _ _ hl]; exact adSize)
  have Q0 := Lib.hid (show (adC true l)[0]? = some (.bool true) from rfl)
  have HF := Lib.hid (fun (W : World) (e : Env W) (g : Nat) (k : Blk W g 95 (uv (unflat l)).toArray) => row_any (some ⟨g, 0, none⟩) 8 8 (unflat l) W e (unflat_lt l)
    ⟨by simp [hul], by omega, by omega, fun _ => ⟨g, 0, rfl, fun j hj => by rw [k.cell (0 + j), Nat.zero_add, List.getElem?_toArray]; rfl⟩⟩ (by omega) (row_len _ (by omega)))
  obtain ⟨cs, hcs⟩ : ∃ cs, cs = adC true l := ⟨_, rfl⟩
  rw [← hcs] at K B HM hs Q0 H8 ⊢
  generalize runF (unflat l) 8 = r at *
  have hz8 := Lib.hid (show (Tryd.prog.info? 95).map (·.size) = some (uv (unflat l)).toArray.size by rw [List.size_toArray, uv_len, hul]; kernel_rfl)
  have HZ := Lib.hid (show z8.toArray.size = (uv (unflat l)).toArray.size by rw [List.size_toArray, List.size_toArray, uv_len, hul]; rfl)
  have H1 := Lib.hid (show (uv (unflat l)).toArray.toList.all (·.oneCell') = true from List.all_eq_true.2 (uv_one _))
  generalize unflat l = gs at *
  have hri : (r.2 : Int) < 2 := by omega
  clear hcs env hl hr hul
  go_enter Tryd.func29, Tryd.ntmps29
  go_wp2_with (refine wpList_load_blk 24 (.tmp 1) w.heap.size 24 cs _ K.out (by rfl) (by rfl) Tryd.underlying24 rfl hs.out (by rfl) ?_)
  refine (HM.out _).mono ?_
  rintro e w2 ⟨rfl, b⟩
  have B2 := Lib.hid (B.out.trans (b.mono B.out.size))
  have K2 := Lib.hid (K.out.keep b)
  have q : w2.cell? ⟨w.heap.size, 0, none⟩ = some (.bool true) := by rw [K2.out.cell 0]; exact Q0.out
  clear b K B
  go_wp2_with (refine wpList_load_blk 24 (.tmp 1) w.heap.size 24 cs _ K2.out (by rfl) (by rfl) Tryd.underlying24 rfl hs.out (by rfl) ?_)
  refine (H8.out _).mono ?_
  rintro e w3 ⟨rfl, b⟩
  have B3 := Lib.hid (B2.out.trans (b.mono B2.out.size))
  clear b K2 B2 q
  go_upto_region 6 with ((with_reducible refine at_store 95 (.tmp 4) (.tmp 19) ?_); refine wpList_store_blk 95 (.tmp 4) (.tmp 19) w3.heap.size 95 z8.toArray (uv gs).toArray (Blk.new w3 95 z8.toArray) (by rfl) (by rfl) (by rfl) (by rfl) hz8.out HZ.out H1.out (by rfl) ?_; intro w4 hk4 hg4 hs4; have K4 := Lib.hid hk4; have B4 := Lib.hid (print_world B3.out B3.out.size hg4); clear hk4 hg4 hs4)
  go_wp2_with (refine wpList_load_blk 95 (.tmp 4) w3.heap.size 95 (uv gs).toArray _ K4.out (by rfl) (by rfl) Tryd.underlying95 rfl hz8.out (by rfl) ?_)
  refine (HRu.out _).mono ?_
  rintro e w5 ⟨rfl, b⟩
  have B5 := Lib.hid (B4.out.trans (b.mono B4.out.size))
  have K5 := Lib.hid (K4.out.keep b)
  have HF2 := Lib.hid (HF.out w5 (E.out.below B5.out) w3.heap.size K5.out)
  clear b K4 B4 HF
  go_wp2_with fail
  refine HF2.out.mono ?_
  rintro e w6 ⟨rfl, b⟩
  have B6 := Lib.hid (B5.out.trans (b.mono B5.out.size))
  clear b
  go_wp2_with fail
  go_ret2
  exact ⟨rfl, B6.out⟩
end Go.Proofs.YtonafonhadocgaaDoor

/- What is printed of an address is parsed as it was. Plain laws, no program. -/
namespace Go.Proofs.YtonafonhadocgaaDoor
open Go.RowKit Go.Shelf

/-! ### Decimal numbers -/
theorem parseM_dec (u : Nat) : u ≤ 18446744073709551615 → ∀ r, Lib.parseUintM 18446744073709551615 0 (Lib.decDigits u ++ r) = Lib.parseUintM 18446744073709551615 u r := by
  induction u using Nat.strongRecOn with
  | _ u ih =>
    intro hu r
    rw [Lib.decDigits]
    split
    · rename_i h
      have e : (UInt8.ofNat (48 + u)).toNat = 48 + u := by rw [UInt8.toNat_ofNat']; omega
      rw [List.cons_append, List.nil_append, Lib.parseUintM, e, if_pos (by omega), if_neg (by omega), if_neg (by omega)]
      congr 1
      omega
    · rename_i h
      have e : (UInt8.ofNat (48 + u % 10)).toNat = 48 + u % 10 := by rw [UInt8.toNat_ofNat']; omega
      rw [List.append_assoc, ih (u / 10) (by omega) (by omega), List.cons_append, List.nil_append, Lib.parseUintM, e, if_pos (by omega), if_neg (by omega), if_neg (by omega)]
      congr 1
      omega
theorem dec_ne (u : Nat) : dec u ≠ [] := by
  unfold dec
  rw [Lib.decDigits]
  split <;> simp
theorem dec_digit (u : Nat) : ∀ c ∈ dec u, 48 ≤ c.toNat ∧ c.toNat ≤ 57 := by
  unfold dec
  induction u using Nat.strongRecOn with
  | _ u ih =>
    rw [Lib.decDigits]
    split
    · intro c hc
      rw [List.mem_singleton] at hc
      rw [hc, UInt8.toNat_ofNat']
      omega
    · intro c hc
      rcases List.mem_append.1 hc with hc | hc
      · exact ih (u / 10) (by omega) c hc
      · rw [List.mem_singleton] at hc
        rw [hc, UInt8.toNat_ofNat']
        omega
theorem parseB_dec (u : Nat) (h : u < 18446744073709551616) : Lib.parseUintB 64 (dec u) = .ok u := by
  have e := parseM_dec u (by omega) []
  rw [List.append_nil] at e
  rw [Lib.parseUintB, if_neg (dec_ne u)]
  exact e
theorem unum_dec (u : Nat) (h : u < 18446744073709551616) : unum (mkB (dec u)) = some u := by
  rw [unum]
  show (match Lib.parseUintB 64 (dec u) with | .ok u' => if (⟨(dec u').toArray⟩ : ByteArray) = mkB (dec u) then some u' else none | _ => none) = some u
  rw [parseB_dec u h]
  exact if_pos rfl
theorem byteOf_dec (b : UInt8) : byteOf (mkB (dec b.toNat)) = some b := by
  have := b.toNat_lt
  rw [byteOf_yes (unum_dec b.toNat (by omega)) (by omega)]
  simp

/-! ### Parts -/
theorem spl_no (b : UInt8) (x : List UInt8) (h : b ∉ x) : spl b x = [x] := by
  induction x with
  | nil => rfl
  | cons c r ih =>
    rw [spl, if_neg (fun e => h (by rw [e]; exact List.mem_cons_self)), ih (fun e => h (List.mem_cons_of_mem _ e))]
theorem spl_at (b : UInt8) (x t : List UInt8) (h : b ∉ x) : spl b (x ++ b :: t) = x :: spl b t := by
  induction x with
  | nil => rw [List.nil_append, spl, if_pos rfl]
  | cons c r ih =>
    rw [List.cons_append, spl, if_neg (fun e => h (by rw [e]; exact List.mem_cons_self)), ih (fun e => h (List.mem_cons_of_mem _ e))]
theorem join_two (b : UInt8) (x y : List UInt8) (r : List (List UInt8)) : Lib.join (x :: y :: r) [b] = x ++ b :: Lib.join (y :: r) [b] := by
  rw [Lib.join_cons, Lib.join_cons]
  simp [Lib.joinTail]
theorem spl_join (b : UInt8) : ∀ (l : List (List UInt8)), l ≠ [] → (∀ x ∈ l, b ∉ x) → spl b (Lib.join l [b]) = l
  | [], h, _ => absurd rfl h
  | [x], _, h => by rw [Lib.join_one, spl_no b x (h x (by simp))]
  | x :: y :: r, _, h => by rw [join_two, spl_at b x _ (h x (by simp)), spl_join b (y :: r) (by simp) (fun z hz => h z (List.mem_cons_of_mem _ hz))]

theorem f4_none {t : List UInt8} (h : (46 : UInt8) ∉ t) : f4 (mkB t) = none := by
  rw [f4, partsB]
  show f4L ((spl 46 t).map mkB) = none
  rw [spl_no 46 t h]
  rfl
theorem f4_print4 (l : List UInt8) (hl : l.length = 16) : f4 (mkB (print4 l)) = some (l.take 4) := by
  obtain ⟨b0, b1, b2, b3, b4, b5, b6, b7, b8, b9, b10, b11, b12, b13, b14, b15, rfl⟩ := sixteen l hl
  rw [f4, partsB]
  show f4L ((spl 46 (Lib.join [dec b0.toNat, dec b1.toNat, dec b2.toNat, dec b3.toNat] [46])).map mkB) = _
  have hd : ∀ x ∈ [dec b0.toNat, dec b1.toNat, dec b2.toNat, dec b3.toNat], (46 : UInt8) ∉ x := by
    have : ∀ n, (46 : UInt8) ∉ dec n := fun n hm => by have := dec_digit n 46 hm; simp at this
    intro x hx
    simp only [List.mem_cons, List.not_mem_nil, or_false] at hx
    rcases hx with rfl | rfl | rfl | rfl <;> exact this _
  rw [spl_join 46 _ (by simp) hd]
  simp only [List.map_cons, List.map_nil, f4L, byteOf_dec]
  rfl

/-! ### Groups -/
theorem hxd_ok : ∀ k : Nat, k < 16 → isHx (hxd k) = true ∧ hxn (hxd k) = k ∧ hxd k ≠ 58 ∧ hxd k ≠ 46 := by decide +kernel
theorem hex_all (n : Nat) (h : n < 65536) : ∀ c ∈ hex n, isHx c = true ∧ c ≠ 58 ∧ c ≠ 46 := by
  have g : ∀ k, k < 16 → isHx (hxd k) = true ∧ hxd k ≠ 58 ∧ hxd k ≠ 46 := fun k hk => ⟨(hxd_ok k hk).1, (hxd_ok k hk).2.2⟩
  intro c hc
  unfold hex at hc
  split at hc
  · simp only [List.mem_cons, List.not_mem_nil, or_false] at hc
    rw [hc]; exact g _ (by omega)
  · split at hc
    · simp only [List.mem_cons, List.not_mem_nil, or_false] at hc
      rcases hc with rfl | rfl <;> exact g _ (by omega)
    · split at hc
      · simp only [List.mem_cons, List.not_mem_nil, or_false] at hc
        rcases hc with rfl | rfl | rfl <;> exact g _ (by omega)
      · simp only [List.mem_cons, List.not_mem_nil, or_false] at hc
        rcases hc with rfl | rfl | rfl | rfl <;> exact g _ (by omega)
theorem hex_ne (n : Nat) : hex n ≠ [] := by
  unfold hex
  split
  · simp
  · split
    · simp
    · split <;> simp
theorem phex_hex (n : Nat) (h : n < 65536) : phex 0 (hex n) = some n := by
  have g : ∀ k, k < 16 → hxn (hxd k) = k := fun k hk => (hxd_ok k hk).2.1
  unfold hex
  split
  · simp only [phex, g n (by omega)]
    rw [if_neg (by omega)]
    congr 1; omega
  · split
    · simp only [phex, g (n / 16) (by omega), g (n % 16) (by omega)]
      rw [if_neg (by omega), if_neg (by omega)]
      congr 1; omega
    · split
      · simp only [phex, g (n / 256) (by omega), g (n / 16 % 16) (by omega), g (n % 16) (by omega)]
        rw [if_neg (by omega), if_neg (by omega), if_neg (by omega)]
        congr 1; omega
      · simp only [phex, g (n / 4096) (by omega), g (n / 256 % 16) (by omega), g (n / 16 % 16) (by omega), g (n % 16) (by omega)]
        rw [if_neg (by omega), if_neg (by omega), if_neg (by omega), if_neg (by omega)]
        congr 1; omega
theorem grp_hex (n : Nat) (h : n < 65536) : grpB (mkB (hex n)) = true ∧ grpN (mkB (hex n)) = n := by
  constructor
  · have h1 := hex_len n
    have h2 := List.length_pos_iff.2 (hex_ne n)
    simp only [grpB, Bool.and_eq_true, decide_eq_true_eq, List.all_eq_true]
    have e : (mkB (hex n)).size = (hex n).length := rfl
    exact ⟨⟨fun c hc => (hex_all n h c hc).1, by omega⟩, by omega⟩
  · show (phex 0 (hex n)).getD 0 = n
    rw [phex_hex n h]
    rfl
theorem someA_hex (last : Bool) : ∀ (gs acc : List Nat), (∀ x ∈ gs, x < 65536) → someA last acc (gs.map fun n => mkB (hex n)) = some (acc ++ gs)
  | [], acc, _ => by simp [someA]
  | n :: r, acc, h => by
    have hn := h n (by simp)
    have hf : f4 (mkB (hex n)) = none := f4_none fun hm => (hex_all n hn 46 hm).2.2 rfl
    rw [List.map_cons, someA, hf, if_neg (by simp), if_pos (grp_hex n hn).1, (grp_hex n hn).2, someA_hex last r _ fun x hx => h x (List.mem_cons_of_mem _ hx)]
    simp
def hexes (gs : List Nat) : List UInt8 := Lib.join (gs.map hex) [58]
theorem hexes_two (x y : Nat) (r : List Nat) : hexes (x :: y :: r) = hex x ++ 58 :: hexes (y :: r) := join_two 58 (hex x) (hex y) (r.map hex)
theorem hexes_one (x : Nat) : hexes [x] = hex x := Lib.join_one _ _
theorem hexes_ne (x : Nat) (r : List Nat) : ∃ c t, hexes (x :: r) = c :: t ∧ c ∈ hex x := by
  obtain ⟨c, t, e⟩ := List.exists_cons_of_ne_nil (hex_ne x)
  cases r with
  | nil => exact ⟨c, t, by rw [hexes_one, e], by rw [e]; simp⟩
  | cons y r => exact ⟨c, t ++ 58 :: hexes (y :: r), by rw [hexes_two, e]; rfl, by rw [e]; simp⟩
theorem someG_hexes (last : Bool) (gs : List Nat) (h : ∀ x ∈ gs, x < 65536) : someG (mkB (hexes gs)) last = some gs := by
  cases gs with
  | nil => rw [someG, if_pos (show (mkB (hexes [])).data.toList = [] from rfl)]
  | cons x r =>
    obtain ⟨c, t, e, _⟩ := hexes_ne x r
    rw [someG, if_neg (by show hexes (x :: r) ≠ []; rw [e]; simp)]
    have hp : partsB 58 (mkB (hexes (x :: r))) = (x :: r).map fun n => mkB (hex n) := by
      show (spl 58 (hexes (x :: r))).map mkB = _
      rw [hexes, spl_join 58 _ (by simp) (fun y hy => by
        obtain ⟨n, hn, rfl⟩ := List.mem_map.1 hy
        exact fun hm => (hex_all n (h n hn) 58 hm).2.1 rfl), List.map_map]
      rfl
    rw [hp, someA_hex last _ _ h]
    rfl

/-! ### The two colons -/
theorem index_skip (x t : List UInt8) (h : (58 : UInt8) ∉ x) : Lib.index (x ++ t) [58, 58] = if Lib.index t [58, 58] = -1 then -1 else Lib.index t [58, 58] + x.length := by
  induction x with
  | nil =>
    rw [List.nil_append]
    split
    · assumption
    · simp
  | cons c r ih =>
    have hc : c ≠ 58 := fun e => h (by rw [e]; exact List.mem_cons_self)
    have ih' := ih fun e => h (List.mem_cons_of_mem _ e)
    have hp : ([58, 58] : List UInt8).isPrefixOf (c :: (r ++ t)) = false := by
      simp only [List.isPrefixOf, Bool.and_eq_false_iff, beq_eq_false_iff_ne]
      exact .inl fun e => hc e.symm
    rw [List.cons_append, Lib.index, hp, ih']
    have hge := Lib.index_ge t [58, 58]
    by_cases h1 : Lib.index t [58, 58] = -1
    · simp [h1]
    · rw [if_neg h1, if_neg h1]
      have h2 : (Lib.index t [58, 58] + (r.length : Int) == -1) = false := by rw [beq_eq_false_iff_ne]; omega
      simp only [Bool.false_eq_true, if_false, h2, List.length_cons]
      omega
theorem index_colon (c : UInt8) (t : List UInt8) (h : c ≠ 58) : Lib.index (58 :: c :: t) [58, 58] = if Lib.index (c :: t) [58, 58] = -1 then -1 else Lib.index (c :: t) [58, 58] + 1 := by
  have hp : ([58, 58] : List UInt8).isPrefixOf (58 :: c :: t) = false := by
    simp only [List.isPrefixOf, Bool.and_eq_false_iff, beq_eq_false_iff_ne]
    exact .inr (.inl fun e => h e.symm)
  rw [Lib.index, hp]
  by_cases h1 : Lib.index (c :: t) [58, 58] = -1
  · simp [h1]
  · have h2 : (Lib.index (c :: t) [58, 58] == -1) = false := by rw [beq_eq_false_iff_ne]; exact h1
    simp only [Bool.false_eq_true, if_false, h2, h1]
theorem index_hexes (t : List UInt8) : ∀ gs : List Nat, (∀ x ∈ gs, x < 65536) → gs ≠ [] → Lib.index (hexes gs ++ t) [58, 58] = if Lib.index t [58, 58] = -1 then -1 else Lib.index t [58, 58] + (hexes gs).length
  | [], _, h => absurd rfl h
  | [x], hx, _ => by
    rw [hexes_one]
    exact index_skip _ _ fun hm => (hex_all x (hx x (by simp)) 58 hm).2.1 rfl
  | x :: y :: r, hx, _ => by
    have ih := index_hexes t (y :: r) (fun z hz => hx z (List.mem_cons_of_mem _ hz)) (by simp)
    obtain ⟨c, s, e, hc⟩ := hexes_ne y r
    have hc58 := (hex_all y (hx y (by simp)) c hc).2.1
    have hge := Lib.index_ge t [58, 58]
    rw [hexes_two, List.append_assoc, index_skip _ _ fun hm => (hex_all x (hx x (by simp)) 58 hm).2.1 rfl, List.cons_append]
    rw [e] at ih ⊢
    rw [List.cons_append] at ih ⊢
    rw [index_colon c _ hc58, ih]
    by_cases h1 : Lib.index t [58, 58] = -1
    · simp [h1]
    · rw [if_neg h1, if_neg (by omega), if_neg (by omega), if_neg h1]
      simp only [List.length_cons, List.length_append]
      omega
theorem cut_no (gs : List Nat) (hx : ∀ x ∈ gs, x < 65536) : cutL (hexes gs) = (hexes gs, [], false) := by
  have h : Lib.index (hexes gs) [58, 58] = -1 := by
    cases gs with
    | nil => rfl
    | cons x r =>
      have := index_hexes [] (x :: r) hx (by simp)
      rw [List.append_nil] at this
      rw [this]
      rfl
  rw [cutL, Lib.cut, h]
  rfl
theorem cut_yes (gs : List Nat) (hx : ∀ x ∈ gs, x < 65536) (t : List UInt8) : cutL (hexes gs ++ [58, 58] ++ t) = (hexes gs, t, true) := by
  have h0 : Lib.index ([58, 58] ++ t) [58, 58] = 0 := by
    rw [List.cons_append, Lib.index]
    simp [List.isPrefixOf]
  have h : Lib.index (hexes gs ++ ([58, 58] ++ t)) [58, 58] = (hexes gs).length := by
    cases gs with
    | nil => exact h0
    | cons x r =>
      rw [index_hexes _ (x :: r) hx (by simp), h0]
      simp
  rw [List.append_assoc, cutL, Lib.cut, h, if_pos (by omega)]
  have e1 : (hexes gs ++ ([58, 58] ++ t)).take ((hexes gs).length : Int).toNat = hexes gs := by simp
  have e2 : (hexes gs ++ ([58, 58] ++ t)).drop (((hexes gs).length : Int).toNat + ([58, 58] : List UInt8).length) = t := by
    rw [show ((hexes gs).length : Int).toNat = (hexes gs).length by omega, List.drop_append]
    simp
  rw [e1, e2]

/-! ### The run of noughts -/
theorem zrun_take : ∀ l : List Nat, l.take (zrun l) = List.replicate (zrun l) 0
  | [] => rfl
  | x :: r => by
    rw [zrun]
    split
    · rename_i h
      rw [List.take_succ_cons, zrun_take r, h, List.replicate_succ]
    · rfl
theorem runF_room (gs : List Nat) (hl : gs.length = 8) : ∀ k, k ≤ 8 → (runF gs k).1 + (runF gs k).2 ≤ 8 ∧ (gs.drop (runF gs k).1).take (runF gs k).2 = List.replicate (runF gs k).2 0
  | 0, _ => ⟨by simp [runF], by simp [runF]⟩
  | k + 1, h => by
    have ih := runF_room gs hl k (by omega)
    rw [runF]
    split
    · have := zrun_le (gs.drop k)
      rw [List.length_drop, hl] at this
      exact ⟨by omega, zrun_take _⟩
    · exact ih
theorem run_parts (gs : List Nat) (hl : gs.length = 8) : gs.take (runF gs 8).1 ++ List.replicate (runF gs 8).2 0 ++ gs.drop ((runF gs 8).1 + (runF gs 8).2) = gs := by
  rw [← (runF_room gs hl 8 (by omega)).2, List.append_assoc, ← List.drop_drop, List.take_append_drop, List.take_append_drop]

theorem flat_unflat : ∀ (l : List UInt8) (k : Nat), l.length = 2 * k → flat (unflat l) = l
  | a :: b :: r, k, h => by
    have ha := a.toNat_lt
    have hb := b.toNat_lt
    rw [unflat, flat, flat_unflat r (k - 1) (by simp at h; omega), show (a.toNat * 256 + b.toNat) / 256 = a.toNat by omega, show (a.toNat * 256 + b.toNat) % 256 = b.toNat by omega]
    simp
  | [a], k, h => by simp at h; omega
  | [], _, _ => rfl

/-! ### Print, and Parse of it -/
/-- The text of an address that may be. -/
def printT (v6 : Bool) (l : List UInt8) : List UInt8 :=
  if v6 then
    if (runF (unflat l) 8).2 < 2 then hexes (unflat l)
    else hexes ((unflat l).take (runF (unflat l) 8).1) ++ [58, 58] ++ hexes ((unflat l).drop ((runF (unflat l) 8).1 + (runF (unflat l) 8).2))
  else print4 l
theorem hexes_dot (gs : List Nat) (hx : ∀ x ∈ gs, x < 65536) : (46 : UInt8) ∉ hexes gs := by
  match gs with
  | [] => simp [hexes, Lib.join_nil]
  | [x] =>
    rw [hexes_one]
    exact fun hm => (hex_all x (hx x (by simp)) 46 hm).2.2 rfl
  | x :: y :: r =>
    rw [hexes_two]
    intro hm
    rcases List.mem_append.1 hm with hm | hm
    · exact (hex_all x (hx x (by simp)) 46 hm).2.2 rfl
    · rcases List.mem_cons.1 hm with hm | hm
      · exact absurd hm (by decide)
      · exact hexes_dot (y :: r) (fun z hz => hx z (List.mem_cons_of_mem _ hz)) hm
theorem parse_print (v6 : Bool) (l : List UInt8) (hl : l.length = 16) (hm : mayB v6 l = true) : parseA (printT v6 l) = some (v6, l) := by
  cases v6
  · have hd : l.drop 4 = List.replicate 12 0 := by simpa [mayB] using hm
    rw [parseA, show printT false l = print4 l from rfl, f4_print4 l hl]
    show some (false, l.take 4 ++ List.replicate 12 0) = _
    rw [← hd, List.take_append_drop]
  · have hu := unflat_len l 8 hl
    have hlt := unflat_lt l
    have hf := flat_unflat l 8 hl
    have hp := run_parts _ hu
    have hr := runF_room _ hu 8 (by omega)
    rw [show printT true l = if (runF (unflat l) 8).2 < 2 then hexes (unflat l) else hexes ((unflat l).take (runF (unflat l) 8).1) ++ [58, 58] ++ hexes ((unflat l).drop ((runF (unflat l) 8).1 + (runF (unflat l) 8).2)) from rfl]
    generalize unflat l = gs at *
    generalize runF gs 8 = r at *
    by_cases h2 : r.2 < 2
    · rw [if_pos h2, parseA, f4_none (hexes_dot gs hlt), cut_no gs hlt]
      simp only [Bool.not_false, someG_hexes _ gs hlt, show someG (mkB []) true = some [] from rfl]
      rw [if_neg (by simp [hu])]
      simp [hu, hf]
    · have hA : ∀ x ∈ gs.take r.1, x < 65536 := fun x hx => hlt x (List.mem_of_mem_take hx)
      have hB : ∀ x ∈ gs.drop (r.1 + r.2), x < 65536 := fun x hx => hlt x (List.mem_of_mem_drop hx)
      have hdot : (46 : UInt8) ∉ hexes (gs.take r.1) ++ [58, 58] ++ hexes (gs.drop (r.1 + r.2)) := by
        intro hm
        rcases List.mem_append.1 hm with hm | hm
        · rcases List.mem_append.1 hm with hm | hm
          · exact hexes_dot _ hA hm
          · simp at hm
        · exact hexes_dot _ hB hm
      rw [if_neg h2, parseA, f4_none hdot, cut_yes _ hA]
      simp only [Bool.not_true, someG_hexes _ _ hA, someG_hexes _ _ hB]
      have e1 : (gs.take r.1).length + (gs.drop (r.1 + r.2)).length = 8 - r.2 := by rw [List.length_take, List.length_drop, hu]; omega
      rw [if_neg (by rw [e1]; simp; omega), e1, show 8 - (8 - r.2) = r.2 by omega, hp, hf]
end Go.Proofs.YtonafonhadocgaaDoor

/- Great letters make no difference to what is parsed. -/
namespace Go.Proofs.YtonafonhadocgaaDoor
open Go.RowKit Go.Shelf

/-- The bytes of a writing that is parsed. -/
def okc (c : UInt8) : Bool := isHx c || decide (c.toNat = 58) || decide (c.toNat = 46)
def isDgU (c : UInt8) : Bool := decide (48 ≤ c.toNat ∧ c.toNat ≤ 57)
theorem okc_dg {c : UInt8} (h : isDgU c = true) : okc c = true := by
  have h' : 48 ≤ c.toNat ∧ c.toNat ≤ 57 := of_decide_eq_true h
  simp [okc, isHx, h']
theorem okc_hx {c : UInt8} (h : isHx c = true) : okc c = true := by simp [okc, h]

theorem spl_ne (b : UInt8) (l : List UInt8) : spl b l ≠ [] := by
  cases l with
  | nil => simp [spl]
  | cons c r =>
    rw [spl]
    split
    · simp
    · split <;> simp
theorem spl_mem (b : UInt8) : ∀ (l : List UInt8) (c : UInt8), c ∈ l → c = b ∨ ∃ p ∈ spl b l, c ∈ p
  | [], c, h => by cases h
  | d :: r, c, h => by
    rw [spl]
    by_cases hd : d = b
    · rw [if_pos hd]
      rcases List.mem_cons.1 h with e | h
      · exact .inl (e.trans hd)
      · rcases spl_mem b r c h with e | ⟨p, hp, hc⟩
        · exact .inl e
        · exact .inr ⟨p, List.mem_cons_of_mem _ hp, hc⟩
    · rw [if_neg hd]
      cases hs : spl b r with
      | nil => exact absurd hs (spl_ne b r)
      | cons p0 t =>
        rcases List.mem_cons.1 h with e | h
        · exact .inr ⟨d :: p0, List.mem_cons_self, by rw [e]; exact List.mem_cons_self⟩
        · rcases spl_mem b r c h with e | ⟨p, hp, hc⟩
          · exact .inl e
          · rw [hs] at hp
            rcases List.mem_cons.1 hp with e | hp
            · exact .inr ⟨d :: p0, List.mem_cons_self, by rw [← e]; exact List.mem_cons_of_mem _ hc⟩
            · exact .inr ⟨p, List.mem_cons_of_mem _ hp, hc⟩

theorem unum_digits {s : ByteArray} {n : Nat} (h : unum s = some n) : ∀ c ∈ s.data.toList, isDgU c = true := by
  rw [unum] at h
  split at h
  · rename_i u hu
    split at h
    · rename_i e
      intro c hc
      rw [← e] at hc
      exact decide_eq_true (dec_digit u c hc)
    · cases h
  · cases h
theorem byteOf_digits {x : ByteArray} {b : UInt8} (h : byteOf x = some b) : ∀ c ∈ x.data.toList, isDgU c = true := by
  unfold byteOf at h
  split at h
  · rename_i n hn
    exact unum_digits hn
  · cases h
theorem f4_ok {s : ByteArray} {l : List UInt8} (h : f4 s = some l) : ∀ c ∈ s.data.toList, okc c = true := by
  intro c hc
  rcases spl_mem 46 _ c hc with rfl | ⟨p, hp, hcp⟩
  · rfl
  · have hm : mkB p ∈ partsB 46 s := List.mem_map.2 ⟨p, hp, rfl⟩
    have hall : ∀ x b, byteOf x = some b → mkB p = x → okc c = true := fun x b hx e => okc_dg (byteOf_digits hx c (by rw [← e]; exact hcp))
    unfold f4 at h
    generalize partsB 46 s = ps at *
    unfold f4L at h
    split at h
    · split at h
      · rename_i x0 x1 x2 x3 _ _ _ _ h0 h1 h2 h3
        simp only [List.mem_cons, List.not_mem_nil, or_false] at hm
        rcases hm with e | e | e | e
        · exact hall _ _ h0 e
        · exact hall _ _ h1 e
        · exact hall _ _ h2 e
        · exact hall _ _ h3 e
      · cases h
    · cases h
theorem grpB_ok {x : ByteArray} (h : grpB x = true) : ∀ c ∈ x.data.toList, okc c = true := by
  intro c hc
  unfold grpB at h
  simp only [Bool.and_eq_true] at h
  exact okc_hx (List.all_eq_true.1 h.1.1 c hc)
theorem someA_ok (last : Bool) : ∀ (ps : List ByteArray) (acc gs : List Nat), someA last acc ps = some gs → ∀ x ∈ ps, ∀ c ∈ x.data.toList, okc c = true
  | [], _, _, _ => fun x hx => by cases hx
  | y :: r, acc, gs, h => by
    rw [someA] at h
    split at h
    · rename_i hc
      simp only [Bool.and_eq_true, decide_eq_true_eq, Option.isSome_iff_exists] at hc
      obtain ⟨⟨_, rfl⟩, l, hl⟩ := hc
      intro x hx
      rw [List.mem_singleton] at hx
      rw [hx]
      exact f4_ok hl
    · split at h
      · rename_i hg
        intro x hx
        rcases List.mem_cons.1 hx with e | hx
        · rw [e]
          exact grpB_ok hg
        · exact someA_ok last r _ _ h x hx
      · cases h
theorem someG_ok {s : ByteArray} {last : Bool} {gs : List Nat} (h : someG s last = some gs) : ∀ c ∈ s.data.toList, okc c = true := by
  intro c hc
  unfold someG at h
  rw [if_neg (fun e => by rw [e] at hc; cases hc)] at h
  rcases spl_mem 58 _ c hc with rfl | ⟨p, hp, hcp⟩
  · rfl
  · exact someA_ok last _ _ _ h (mkB p) (List.mem_map.2 ⟨p, hp, rfl⟩) c hcp
theorem cut_mem {l : List UInt8} {c : UInt8} (h : c ∈ l) : c = 58 ∨ c ∈ (cutL l).1 ∨ c ∈ (cutL l).2.1 := by
  unfold cutL Lib.cut
  rcases Lib.index_spec l [58, 58] with ⟨e, _⟩ | ⟨i, e, hi, ho, _⟩
  · rw [e, if_neg (by decide)]
    exact .inr (.inl h)
  · rw [e, if_pos (by omega)]
    rw [Lib.occAt, List.isPrefixOf_iff_prefix] at ho
    obtain ⟨t, ht⟩ := ho
    have hl : l = l.take i ++ ([58, 58] ++ t) := by rw [ht, List.take_append_drop]
    have hd : l.drop (i + 2) = t := by
      rw [← List.drop_drop, ← ht]
      rfl
    show c = 58 ∨ c ∈ l.take i ∨ c ∈ l.drop (i + 2)
    rw [hd]
    rw [hl] at h
    rcases List.mem_append.1 h with h | h
    · exact .inr (.inl h)
    · rcases List.mem_append.1 h with h | h
      · left
        simpa using h
      · exact .inr (.inr h)
theorem parse_ok {l : List UInt8} {x : Bool × List UInt8} (h : parseA l = some x) : ∀ c ∈ l, okc c = true := by
  unfold parseA at h
  split at h
  · rename_i b hb
    exact f4_ok hb
  · split at h
    · rename_i g k hg hk
      intro c hc
      rcases cut_mem hc with rfl | hc | hc
      · rfl
      · exact someG_ok hg c hc
      · exact someG_ok hk c hc
    · cases h

/-! ### the letters from a to z -/
set_option maxRecDepth 100000 in
theorem up_byte : ∀ n : Fin 256, (isDgU (Lib.upperB (UInt8.ofNat n.val)) = isDgU (UInt8.ofNat n.val)) ∧ (isHx (Lib.upperB (UInt8.ofNat n.val)) = isHx (UInt8.ofNat n.val)) ∧ (isHx (UInt8.ofNat n.val) = true → hxn (Lib.upperB (UInt8.ofNat n.val)) = hxn (UInt8.ofNat n.val))
    ∧ (isDgU (UInt8.ofNat n.val) = true → Lib.upperB (UInt8.ofNat n.val) = UInt8.ofNat n.val) ∧ (Lib.upperB (UInt8.ofNat n.val) = 58 ↔ UInt8.ofNat n.val = 58) ∧ (Lib.upperB (UInt8.ofNat n.val) = 46 ↔ UInt8.ofNat n.val = 46) := by decide +kernel
theorem up_b (c : UInt8) : (isDgU (Lib.upperB c) = isDgU c) ∧ (isHx (Lib.upperB c) = isHx c) ∧ (isHx c = true → hxn (Lib.upperB c) = hxn c) ∧ (isDgU c = true → Lib.upperB c = c) ∧ (Lib.upperB c = 58 ↔ c = 58) ∧ (Lib.upperB c = 46 ↔ c = 46) := by
  have h := up_byte ⟨c.toNat, c.toNat_lt⟩
  simpa using h
abbrev ups (l : List UInt8) : List UInt8 := l.map Lib.upperB
theorem spl_map (b : UInt8) (f : UInt8 → UInt8) (hf : ∀ c, f c = b ↔ c = b) : ∀ l : List UInt8, spl b (l.map f) = (spl b l).map (List.map f)
  | [] => rfl
  | c :: r => by
    rw [List.map_cons, spl, spl]
    by_cases hc : c = b
    · rw [if_pos ((hf c).2 hc), if_pos hc, spl_map b f hf r]
      rfl
    · rw [if_neg (fun h => hc ((hf c).1 h)), if_neg hc, spl_map b f hf r]
      cases spl b r with
      | nil => rfl
      | cons p t => rfl
theorem unum_up (p : List UInt8) : unum (mkB (ups p)) = unum (mkB p) := by
  by_cases h : ∀ c ∈ p, isDgU c = true
  · have e : ups p = p := by
      conv => rhs; rw [← List.map_id p]
      exact List.map_congr_left fun c hc => (up_b c).2.2.2.1 (h c hc)
    rw [e]
  · have h1 : unum (mkB p) = none := by
      cases hn : unum (mkB p) with
      | none => rfl
      | some n => exact absurd (unum_digits hn) h
    have h2 : unum (mkB (ups p)) = none := by
      cases hn : unum (mkB (ups p)) with
      | none => rfl
      | some n =>
        exact absurd (fun c hc => by
          have := unum_digits hn (Lib.upperB c) (List.mem_map.2 ⟨c, hc, rfl⟩)
          rw [(up_b c).1] at this
          exact this) h
    rw [h1, h2]
theorem byteOf_up (p : List UInt8) : byteOf (mkB (ups p)) = byteOf (mkB p) := by rw [byteOf, unum_up, byteOf]
theorem f4L_up : ∀ ps : List (List UInt8), f4L ((ps.map ups).map mkB) = f4L (ps.map mkB)
  | [] => rfl
  | [_] => rfl
  | [_, _] => rfl
  | [_, _, _] => rfl
  | [a, b, c, d] => by
    simp only [List.map_cons, List.map_nil, f4L, byteOf_up]
  | _ :: _ :: _ :: _ :: _ :: _ => rfl
theorem f4_up (l : List UInt8) : f4 (mkB (ups l)) = f4 (mkB l) := by
  unfold f4 partsB
  show f4L ((spl 46 (ups l)).map mkB) = f4L ((spl 46 l).map mkB)
  rw [spl_map 46 Lib.upperB fun c => (up_b c).2.2.2.2.2]
  exact f4L_up _
theorem allHx_up : ∀ p : List UInt8, (ups p).all isHx = p.all isHx
  | [] => rfl
  | c :: r => by
    have h := allHx_up r
    simp only [List.map_cons, List.all_cons, (up_b c).2.1]
    rw [h]
theorem grpB_up (p : List UInt8) : grpB (mkB (ups p)) = grpB (mkB p) := by
  unfold grpB
  have h : (mkB (ups p)).size = (mkB p).size := by
    rw [Lib.size_eq, Lib.size_eq]
    show (ups p).length = p.length
    rw [List.length_map]
  rw [h]
  show ((ups p).all isHx && _ && _) = (p.all isHx && _ && _)
  rw [allHx_up]
theorem phex_up : ∀ (p : List UInt8) (acc : Nat), p.all isHx = true → phex acc (ups p) = phex acc p
  | [], _, _ => rfl
  | c :: r, acc, h => by
    rw [List.all_cons, Bool.and_eq_true] at h
    rw [show ups (c :: r) = Lib.upperB c :: ups r from rfl, phex, phex, (up_b c).2.2.1 h.1]
    split
    · rfl
    · exact phex_up r _ h.2
theorem grpN_up {p : List UInt8} (h : grpB (mkB p) = true) : grpN (mkB (ups p)) = grpN (mkB p) := by
  unfold grpB at h
  simp only [Bool.and_eq_true] at h
  unfold grpN
  show (phex 0 (ups p)).getD 0 = (phex 0 p).getD 0
  rw [phex_up p 0 h.1.1]
theorem someA_up (last : Bool) : ∀ (ps : List (List UInt8)) (acc : List Nat), someA last acc ((ps.map ups).map mkB) = someA last acc (ps.map mkB)
  | [], _ => rfl
  | p :: r, acc => by
    have hd : decide ((r.map ups).map mkB = []) = decide (r.map mkB = []) := by cases r <;> rfl
    simp only [List.map_cons]
    rw [someA, someA, f4_up, grpB_up, hd]
    split
    · rfl
    · split
      · rename_i hg
        rw [grpN_up hg]
        exact someA_up last r _
      · rfl
theorem someG_up (l : List UInt8) (last : Bool) : someG (mkB (ups l)) last = someG (mkB l) last := by
  unfold someG partsB
  show (if ups l = [] then some [] else someA last [] ((spl 58 (ups l)).map mkB)) = (if l = [] then some [] else someA last [] ((spl 58 l).map mkB))
  rw [spl_map 58 Lib.upperB fun c => (up_b c).2.2.2.2.1, someA_up]
  cases l <;> rfl
theorem colon_up (c : UInt8) : ((58 : UInt8) == Lib.upperB c) = ((58 : UInt8) == c) := by
  have h := (up_b c).2.2.2.2.1
  rw [Bool.eq_iff_iff, beq_iff_eq, beq_iff_eq]
  exact ⟨fun e => (h.1 e.symm).symm, fun e => (h.2 e.symm).symm⟩
theorem two_up : ∀ l : List UInt8, ([58, 58] : List UInt8).isPrefixOf (ups l) = ([58, 58] : List UInt8).isPrefixOf l
  | [] => rfl
  | [c] => by simp [List.isPrefixOf]
  | c :: d :: r => by simp only [List.map_cons, List.isPrefixOf, colon_up]
theorem index_up : ∀ l : List UInt8, Lib.index (ups l) [58, 58] = Lib.index l [58, 58]
  | [] => rfl
  | c :: r => by
    have h := two_up (c :: r)
    rw [show ups (c :: r) = Lib.upperB c :: ups r from rfl] at h ⊢
    rw [Lib.index, Lib.index, h, index_up r]
theorem cut_up (l : List UInt8) : cutL (ups l) = (ups (cutL l).1, ups (cutL l).2.1, (cutL l).2.2) := by
  unfold cutL Lib.cut
  rw [index_up]
  split
  · simp [List.map_take, List.map_drop]
  · rfl
theorem parse_up (l : List UInt8) : parseA (ups l) = parseA l := by
  unfold parseA
  rw [f4_up, cut_up]
  dsimp only
  rw [someG_up, someG_up]

/-! ### beyond ASCII -/
def okz (z : Int) : Bool := decide (48 ≤ z ∧ z ≤ 58) || decide (97 ≤ z ∧ z ≤ 102) || decide (65 ≤ z ∧ z ≤ 70) || decide (z = 46)
def rowUp (x : Lib.CaseRow) : Bool := decide (x.2.1 < 128) || (decide (1114111 < x.delta 0) && decide (128 ≤ x.1)) || decide (128 ≤ (x.1 : Int) + x.delta 0 ∧ x.delta 0 ≤ 1114111) || (decide (x.1 = x.2.1) && decide (x.delta 0 ≤ 1114111) && !okz ((x.1 : Int) + x.delta 0))
set_option maxRecDepth 1000000 in
theorem rowsUp : Lib.caseT.all rowUp = true := by decide +kernel
theorem caseA_up (i : Nat) (hi : i < Lib.caseA.size) : rowUp (Lib.caseA.getD i (0, 0, 0, 0, 0)) = true := by
  have hm : Lib.caseA.getD i (0, 0, 0, 0, 0) ∈ Lib.caseT := by
    unfold Lib.caseA at hi ⊢
    simp only [List.size_toArray] at hi
    simp [Array.getD, hi]
  exact List.all_eq_true.1 rowsUp _ hm
theorem okz_high {z : Int} (h : 128 ≤ z) : okz z = false := by
  simp only [okz, Bool.or_eq_false_iff, decide_eq_false_iff_not]
  omega
theorem upper_z (r : Nat) (h : 128 ≤ r) : okz (Lib.toUpperU (r : Int)) = false := by
  unfold Lib.toUpperU
  rw [if_neg (by omega)]
  unfold Lib.toR Lib.lookupGo
  cases hi : Lib.lookupIdx Lib.caseA r (Lib.caseA.size + 1) 0 Lib.caseA.size with
  | none =>
    show okz (r : Int) = false
    exact okz_high (by omega)
  | some i =>
    obtain ⟨hil, hlo, hhi⟩ := Lib.lookupIdx_some Lib.caseA r _ _ _ i hi
    have hr := caseA_up i hil
    show okz (Lib.convertR 0 r (Lib.caseA.getD i (0, 0, 0, 0, 0))) = false
    generalize Lib.caseA.getD i (0, 0, 0, 0, 0) = x at *
    unfold rowUp at hr
    simp only [Bool.or_eq_true, Bool.and_eq_true, decide_eq_true_eq, Bool.not_eq_true'] at hr
    unfold Lib.convertR
    rcases hr with ((hr | hr) | hr) | hr
    · omega
    · rw [if_pos (by omega)]
      exact okz_high (by omega)
    · rw [if_neg (by omega)]
      exact okz_high (by omega)
    · rw [if_neg (by omega), show (r : Int) = (x.1 : Int) by omega]
      exact hr.2
theorem byte_of_z (z : Int) (h0 : 0 ≤ z) (h1 : z < 256) : (z.toNat.toUInt8).toNat = z.toNat := by
  rw [Nat.toUInt8, UInt8.toNat_ofNat']
  omega
theorem high_bad {c : UInt8} (h : 128 ≤ c.toNat) : okc c = false := by
  simp only [okc, isHx, Bool.or_eq_false_iff, decide_eq_false_iff_not]
  omega
theorem enc_bad (z : Int) (h0 : 0 ≤ z) (hz : okz z = false) : ∃ c ∈ Lib.encodeRune z, okc c = false := by
  have hi : ∀ (y : Int) (t : List Int), Lib.encodeRuneZ z = y :: t → 128 ≤ y → y < 256 → ∃ c ∈ Lib.encodeRune z, okc c = false := fun y t e h1 h2 => ⟨y.toNat.toUInt8, by rw [Lib.encodeRune, e]; exact List.mem_cons_self, high_bad (by rw [byte_of_z y (by omega) h2]; omega)⟩
  unfold Lib.encodeRuneZ at hi
  by_cases c1 : 0 ≤ z ∧ z ≤ 127
  · refine ⟨z.toNat.toUInt8, by rw [Lib.encodeRune, Lib.encodeRuneZ_one c1.1 c1.2]; exact List.mem_cons_self, ?_⟩
    have e := byte_of_z z (by omega) (by omega)
    simp only [okz, Bool.or_eq_false_iff, decide_eq_false_iff_not] at hz
    simp only [okc, isHx, Bool.or_eq_false_iff, decide_eq_false_iff_not, e]
    omega
  · rw [if_neg c1] at hi
    by_cases c2 : 128 ≤ z ∧ z ≤ 2047
    · rw [if_pos c2] at hi
      exact hi _ _ rfl (by omega) (by omega)
    · rw [if_neg c2] at hi
      by_cases c3 : (2048 ≤ z ∧ z < 55296) ∨ (57343 < z ∧ z ≤ 65535)
      · rw [if_pos c3] at hi
        exact hi _ _ rfl (by omega) (by omega)
      · rw [if_neg c3] at hi
        by_cases c4 : 65536 ≤ z ∧ z ≤ 1114111
        · rw [if_pos c4] at hi
          exact hi _ _ rfl (by omega) (by omega)
        · rw [if_neg c4] at hi
          exact hi _ _ rfl (by omega) (by omega)
theorem decode_high (b : UInt8) (t : List UInt8) (h : 128 ≤ b.toNat) : 128 ≤ (Lib.decodeL (b :: t)).1 := by
  rw [Lib.decodeL_N]
  have e : (b :: t).getD 0 0 = b := rfl
  rw [e]
  rcases Lib.decodeN_shape (b :: t).length b.toNat ((b :: t).getD 1 0).toNat ((b :: t).getD 2 0).toNat ((b :: t).getD 3 0).toNat with ⟨c, _⟩ | ⟨_, _, _, c, e⟩ | ⟨_, _, _, _, c, _, e⟩ | ⟨_, _, _, _, _, c, _, e⟩ | e
  · omega
  · rw [e]; exact c
  · rw [e]; show 128 ≤ _; omega
  · rw [e]; show 128 ≤ _; omega
  · rw [e]; decide
theorem upper_bad : ∀ (n : Nat) (l : List UInt8), l.length ≤ n → (∃ c ∈ l, 128 ≤ c.toNat) → ∃ c ∈ Lib.toUpperD l, okc c = false
  | _, [], _, h => by obtain ⟨c, hc, _⟩ := h; cases hc
  | 0, _ :: _, hl, _ => by simp at hl
  | n + 1, b :: t, hl, h => by
    unfold Lib.toUpperD
    rw [Lib.mapD_step Lib.toUpperU (b :: t) (by simp)]
    by_cases hb : b.toNat < 128
    · rw [Lib.decodeL_ascii b t hb]
      obtain ⟨c, hc, h8⟩ := h
      rcases List.mem_cons.1 hc with e | hc
      · rw [e] at h8; omega
      · obtain ⟨d, hd, hk⟩ := upper_bad n t (by simp at hl; omega) ⟨c, hc, h8⟩
        exact ⟨d, List.mem_append_right _ hd, hk⟩
    · have h8 := decode_high b t (by omega)
      have hle := Lib.decodeL_rune (b :: t)
      have h0 := (Lib.toUpperU_range (Lib.decodeL (b :: t)).1 hle).1
      rw [if_pos h0]
      obtain ⟨d, hd, hk⟩ := enc_bad _ h0 (upper_z _ h8)
      exact ⟨d, List.mem_append_left _ hd, hk⟩
/-- GREAT LETTERS MAKE NO DIFFERENCE. -/
theorem parse_upper (l : List UInt8) : parseA (Lib.toUpperD l) = parseA l := by
  by_cases ha : ∀ b ∈ l, b.toNat < 128
  · rw [Lib.toUpperD_ascii l ha]
    exact parse_up l
  · have hh : ∃ c ∈ l, 128 ≤ c.toNat := Classical.byContradiction fun hn => ha fun b hb => Classical.byContradiction fun h => hn ⟨b, hb, by omega⟩
    have h1 : parseA l = none := by
      cases h : parseA l with
      | none => rfl
      | some x =>
        obtain ⟨c, hc, h8⟩ := hh
        have := parse_ok h c hc
        rw [high_bad h8] at this
        cases this
    have h2 : parseA (Lib.toUpperD l) = none := by
      cases h : parseA (Lib.toUpperD l) with
      | none => rfl
      | some x =>
        obtain ⟨c, hc, hk⟩ := upper_bad l.length l (Nat.le_refl _) hh
        have := parse_ok h c hc
        rw [hk] at this
        cases this
    rw [h1, h2]
end Go.Proofs.YtonafonhadocgaaDoor

/- addr.Print at an IPv6 address with a run of noughts. -/
namespace Go.Proofs.YtonafonhadocgaaDoor
open Go.RowKit Go.Shelf

theorem cut8_h (g n : Nat) (z : Int) (h : n ≤ 8) (hz : z = (n : Int)) (W : World) :
    (Instr.sliceAt 95 (.pointer (some ⟨g, 0, none⟩)) none (some (.int .i64 z)) none).run Tryd.prog W = .ok (.slice (some ⟨g, 0, none⟩) n 8) W := by
  have hl : Tryd.prog.arrayLen 95 = 8 := by kernel_rfl
  have he : Tryd.prog.elem 95 = 25 := by kernel_rfl
  have hu : Tryd.prog.underlying 95 = some (.array (Tryd.prog.arrayLen 95) (Tryd.prog.elem 95)) := by rw [hl, he]; exact Tryd.underlying95
  subst hz
  rw [run_sliceAt_array_h W _ _ hu .i64 (n : Int) (by omega) (by rw [hl]; omega), he, Tryd.sizeOf25, hl]
  simp [slicedAt, Result.andThen, Addr.add_lit]
theorem cut8_l (g n : Nat) (z : Int) (h : n ≤ 8) (hz : z = (n : Int)) (W : World) :
    (Instr.sliceAt 95 (.pointer (some ⟨g, 0, none⟩)) (some (.int .i64 z)) none none).run Tryd.prog W = .ok (.slice (some (if 8 = n then ⟨g, 0, none⟩ else ⟨g, n, none⟩)) (8 - n) (8 - n)) W := by
  have hl : Tryd.prog.arrayLen 95 = 8 := by kernel_rfl
  have he : Tryd.prog.elem 95 = 25 := by kernel_rfl
  have hu : Tryd.prog.underlying 95 = some (.array (Tryd.prog.arrayLen 95) (Tryd.prog.elem 95)) := by rw [hl, he]; exact Tryd.underlying95
  subst hz
  rw [run_sliceAt_array_l W _ _ hu .i64 (n : Int) (by omega) (by rw [hl]; omega), he, Tryd.sizeOf25, hl]
  simp [slicedAt, Result.andThen, Addr.add_lit]
theorem row_ahead (gs : List Nat) (hu : gs.length = 8) (hx : ∀ x ∈ gs, x < 65536) (n : Nat) (hn : n ≤ 8) (W : World) (e : Env W) (g : Nat) (k : Blk W g 95 (uv gs).toArray) :
    Calls Tryd.prog 49 #[.slice (some ⟨g, 0, none⟩) n 8] W fun e w' => e = .returned (.string ⟨(hexes (gs.take n)).toArray⟩) ∧ Below W.heap.size W w' :=
  row_any (some ⟨g, 0, none⟩) n 8 (gs.take n) W e (fun x h => hx x (List.mem_of_mem_take h))
    ⟨by simp [hu]; omega, hn, by omega, fun _ => ⟨g, 0, rfl, fun j hj => by
      rw [k.cell (0 + j), Nat.zero_add, List.getElem?_toArray, uv, List.getElem?_map, List.getElem?_map, List.getElem?_take, if_pos hj]⟩⟩ (by omega) (row_len _ (by rw [List.length_take]; omega))
theorem row_behind (gs : List Nat) (hu : gs.length = 8) (hx : ∀ x ∈ gs, x < 65536) (n : Nat) (hn : n ≤ 8) (W : World) (e : Env W) (g : Nat) (k : Blk W g 95 (uv gs).toArray) :
    Calls Tryd.prog 49 #[.slice (some (if 8 = n then ⟨g, 0, none⟩ else ⟨g, n, none⟩)) (8 - n) (8 - n)] W fun e w' => e = .returned (.string ⟨(hexes (gs.drop n)).toArray⟩) ∧ Below W.heap.size W w' :=
  row_any _ (8 - n) (8 - n) (gs.drop n) W e (fun x h => hx x (List.mem_of_mem_drop h))
    ⟨by simp [hu], Nat.le_refl _, by omega, fun h0 => ⟨g, n, by rw [if_neg (by omega)], fun j hj => by
      rw [k.cell (n + j), List.getElem?_toArray, uv, List.getElem?_map, List.getElem?_map, List.getElem?_drop]⟩⟩ (by omega) (row_len _ (by rw [List.length_drop]; omega))

set_option maxRecDepth 100000 in
set_option maxHeartbeats 4000000 in
theorem print_run (l : List UInt8) (hl : l.length = 16) (hr : 2 ≤ (runF (unflat l) 8).2) (w : World) (env : Env w) :
    Calls Tryd.prog 29 #[.agg (adC true l)] w fun e w' => e = .returned (.tuple #[.string ⟨(hexes ((unflat l).take (runF (unflat l) 8).1) ++ [58, 58] ++ hexes ((unflat l).drop ((runF (unflat l) 8).1 + (runF (unflat l) 8).2))).toArray⟩, .int .i64 0]) ∧ Below w.heap.size w w' := by
  have K := Lib.hid (Blk.new w 24 (adC true l))
  have B := Lib.hid ((Below.refl _ w).alloc (Nat.le_refl _) (.cells (adC true l) 24))
  have HM := Lib.hid (fun W => may_any true l hl W)
  rw [show mayB true l = true from rfl] at HM
  have E := Lib.hid env
  have hul := unflat_len l 8 hl
  have H8 := Lib.hid (fun W => eight_any true l hl W)
  have HRu := Lib.hid (fun W => run_any (unflat l) hul W)
  have hs := Lib.hid (show (Tryd.prog.info? 24).map (·.size) = some (adC true l).size by rw [adC_size _ _ hl]; exact adSize)
  have Q0 := Lib.hid (show (adC true l)[0]? = some (.bool true) from rfl)
  obtain ⟨cs, hcs⟩ : ∃ cs, cs = adC true l := ⟨_, rfl⟩
  rw [← hcs] at K B HM hs Q0 H8 ⊢
  have hroom := (runF_room _ hul 8 (by omega)).1
  have hult := unflat_lt l
  generalize runF (unflat l) 8 = r at *
  have hz8 := Lib.hid (show (Tryd.prog.info? 95).map (·.size) = some (uv (unflat l)).toArray.size by rw [List.size_toArray, uv_len, hul]; kernel_rfl)
  have HZ := Lib.hid (show z8.toArray.size = (uv (unflat l)).toArray.size by rw [List.size_toArray, List.size_toArray, uv_len, hul]; rfl)
  have H1 := Lib.hid (show (uv (unflat l)).toArray.toList.all (·.oneCell') = true from List.all_eq_true.2 (uv_one _))
  generalize unflat l = gs at *
  have hri : ¬ (r.2 : Int) < 2 := by omega
  have hw : IntKind.i64.wrap ((r.1 : Int) + (r.2 : Int)) = (r.1 : Int) + (r.2 : Int) := by rw [IntKind.wrap_i64]; omega
  have HA := Lib.hid (fun W (e : Env W) g k => row_ahead gs hul hult r.1 (by omega) W e g k)
  have HB := Lib.hid (fun W (e : Env W) g k => row_behind gs hul hult (r.1 + r.2) hroom W e g k)
  have hc1 := fun g W => cut8_h g r.1 r.1 (by omega) rfl W
  have hc2 := fun g W => cut8_l g (r.1 + r.2) ((r.1 : Int) + (r.2 : Int)) hroom (by omega) W
  have hla : (hexes (gs.take r.1)).length ≤ 140737488355328 := row_len _ (by rw [List.length_take]; omega)
  have hlb : (hexes (gs.drop (r.1 + r.2))).length ≤ 140737488355328 := row_len _ (by rw [List.length_drop]; omega)
  have hs1 : ¬ 9223372036854775807 < (hexes (gs.take r.1)).length + 2 := by omega
  have hs2 : ¬ 9223372036854775807 < (hexes (gs.take r.1)).length + 2 + (hexes (gs.drop (r.1 + r.2))).length := by omega
  have HS1 := Lib.hid hs1
  have HS2 := Lib.hid hs2
  have ha1 : (⟨(hexes (gs.take r.1)).toArray⟩ : ByteArray) ++ ⟨#[58, 58]⟩ = ⟨(hexes (gs.take r.1) ++ [58, 58]).toArray⟩ := ByteArray.mk_append_mk _ [58, 58]
  have ha2 : (⟨(hexes (gs.take r.1) ++ [58, 58]).toArray⟩ : ByteArray) ++ ⟨(hexes (gs.drop (r.1 + r.2))).toArray⟩ = ⟨(hexes (gs.take r.1) ++ [58, 58] ++ hexes (gs.drop (r.1 + r.2))).toArray⟩ := ByteArray.mk_append_mk _ _
  clear hult hroom hla hlb hs1 hs2
  clear hcs env hl hr hul
  go_enter Tryd.func29, Tryd.ntmps29
  go_wp2_with (refine wpList_load_blk 24 (.tmp 1) w.heap.size 24 cs _ K.out (by rfl) (by rfl) Tryd.underlying24 rfl hs.out (by rfl) ?_)
  refine (HM.out _).mono ?_
  rintro e w2 ⟨rfl, b⟩
  have B2 := Lib.hid (B.out.trans (b.mono B.out.size))
  have K2 := Lib.hid (K.out.keep b)
  have q : w2.cell? ⟨w.heap.size, 0, none⟩ = some (.bool true) := by rw [K2.out.cell 0]; exact Q0.out
  clear b K B
  go_wp2_with (refine wpList_load_blk 24 (.tmp 1) w.heap.size 24 cs _ K2.out (by rfl) (by rfl) Tryd.underlying24 rfl hs.out (by rfl) ?_)
  refine (H8.out _).mono ?_
  rintro e w3 ⟨rfl, b⟩
  have B3 := Lib.hid (B2.out.trans (b.mono B2.out.size))
  clear b K2 B2 q
  go_upto_region 6 with ((with_reducible refine at_store 95 (.tmp 4) (.tmp 19) ?_); refine wpList_store_blk 95 (.tmp 4) (.tmp 19) w3.heap.size 95 z8.toArray (uv gs).toArray (Blk.new w3 95 z8.toArray) (by rfl) (by rfl) (by rfl) (by rfl) hz8.out HZ.out H1.out (by rfl) ?_; intro w4 hk4 hg4 hs4; have K4 := Lib.hid hk4; have B4 := Lib.hid (print_world B3.out B3.out.size hg4); clear hk4 hg4 hs4)
  go_wp2_with (refine wpList_load_blk 95 (.tmp 4) w3.heap.size 95 (uv gs).toArray _ K4.out (by rfl) (by rfl) Tryd.underlying95 rfl hz8.out (by rfl) ?_)
  refine (HRu.out _).mono ?_
  rintro e w5 ⟨rfl, b⟩
  have B5 := Lib.hid (B4.out.trans (b.mono B4.out.size))
  have K5 := Lib.hid (K4.out.keep b)
  clear b K4 B4
  go_upto_region 9 with fail
  refine wp_region_held_drew (S := fun _ => True) (by kernel_rfl) trivial (fun hHeld => ?_)
  refine wpAnyH_take (i := 0) (oi := _) (v := ?_) rfl (by kernel_rfl) (by kernel_rfl) (by kernel_rfl) (fun _ _ _ h => h) (Or.inl ⟨by rfl, ?_⟩) (by assumption) ?_
  case refine_2 => (intro w hSw; go_simp <;> with_reducible rfl)
  try simp only [List.getElem_toArray, List.getElem_cons_zero, Act.put, List.setIfInBounds_toArray, List.set_cons_zero, List.set_cons_succ]
  refine wpAnyH_take (i := 1) (oi := _) (v := ?_) rfl (by kernel_rfl) (by kernel_rfl) (by kernel_rfl) (fun _ _ _ h => h) (Or.inl ⟨by rfl, ?_⟩) (by assumption) ?_
  case refine_2 => (intro w hSw; go_simp <;> with_reducible rfl)
  try simp only [List.getElem_toArray, List.getElem_cons_zero, List.getElem_cons_succ, Act.put, List.setIfInBounds_toArray, List.set_cons_zero, List.set_cons_succ]
  refine wpAnyH_take (i := 4) (oi := _) (v := ?_) rfl (by kernel_rfl) (by kernel_rfl) (by kernel_rfl) (fun _ _ _ h => h) (Or.inl ⟨by rfl, ?_⟩) (by assumption) ?_
  case refine_2 => (intro w hSw; go_simp <;> with_reducible rfl)
  try simp only [List.getElem_toArray, List.getElem_cons_zero, List.getElem_cons_succ, Act.put, List.setIfInBounds_toArray, List.set_cons_zero, List.set_cons_succ]
  refine wpAnyH_take (i := 5) (oi := _) (v := ?_) rfl (by kernel_rfl) (by kernel_rfl) (by kernel_rfl) (fun _ _ _ h => h) (Or.inl ⟨by rfl, ?_⟩) (by assumption) ?_
  case refine_2 => (intro w hSw; go_simp <;> with_reducible rfl)
  try simp only [List.getElem_toArray, List.getElem_cons_zero, List.getElem_cons_succ, Act.put, List.setIfInBounds_toArray, List.set_cons_zero, List.set_cons_succ]
  refine wpAnyH_take (i := 6) (oi := _) (v := ?_) rfl (by kernel_rfl) (by kernel_rfl) (by kernel_rfl) (fun _ _ _ h => h) (Or.inl ⟨by rfl, ?_⟩) (by assumption) ?_
  case refine_2 => (intro w hSw; go_simp <;> with_reducible rfl)
  try simp only [List.getElem_toArray, List.getElem_cons_zero, List.getElem_cons_succ, Act.put, List.setIfInBounds_toArray, List.set_cons_zero, List.set_cons_succ]
  refine wpAnyH_take (i := 7) (oi := _) (v := ?_) rfl (by kernel_rfl) (by kernel_rfl) (by kernel_rfl) (fun _ _ _ h => h) (Or.inl ⟨by rfl, ?_⟩) (by assumption) ?_
  case refine_2 => (intro w hSw; go_simp <;> with_reducible rfl)
  try simp only [List.getElem_toArray, List.getElem_cons_zero, List.getElem_cons_succ, Act.put, List.setIfInBounds_toArray, List.set_cons_zero, List.set_cons_succ]
  refine wpAnyH_ready (rs := [2]) (by kernel_rfl) (by simp) ?_
  refine AllReadyH.cons (o := _) rfl (fun K hK => ?_) AllReadyH.nil
  simp only [List.getElem_toArray, List.getElem_cons_zero, List.getElem_cons_succ]
  go_simp
  refine (HA.out _ (E.out.below (below_drew B5.out)) w3.heap.size K5.out.drew).mono ?_
  rintro e w6 ⟨rfl, b⟩
  have B6 := Lib.hid ((below_drew B5.out).trans (b.mono B5.out.size))
  have K6 := Lib.hid (K5.out.drew.keep b)
  clear b
  go_simp
  refine hK.out _ _ trivial (fun hHeld2 => ?_)
  clear hK K hHeld
  have hHeld := hHeld2
  clear hHeld2
  have hs1 := HS1.out
  try simp only [List.getElem_toArray, List.getElem_cons_zero, List.getElem_cons_succ, Act.put, List.setIfInBounds_toArray, List.set_cons_zero, List.set_cons_succ]
  refine wpAnyH_take (i := 3) (oi := _) (v := ?_) rfl (by kernel_rfl) (by kernel_rfl) (by kernel_rfl) (fun _ _ _ h => h) (Or.inl ⟨by rfl, ?_⟩) (by assumption) ?_
  case refine_2 => (intro w hSw; go_simp <;> with_reducible rfl)
  try simp only [List.getElem_toArray, List.getElem_cons_zero, List.getElem_cons_succ, Act.put, List.setIfInBounds_toArray, List.set_cons_zero, List.set_cons_succ]
  refine wpAnyH_ready (rs := [8]) (by kernel_rfl) (by simp) ?_
  refine AllReadyH.cons (o := _) rfl (fun K hK => ?_) AllReadyH.nil
  simp only [List.getElem_toArray, List.getElem_cons_zero, List.getElem_cons_succ]
  go_simp
  refine (HB.out _ (E.out.below B6.out) w3.heap.size K6.out).mono ?_
  rintro e w7 ⟨rfl, b⟩
  have B7 := Lib.hid (B6.out.trans (b.mono B6.out.size))
  clear b
  go_simp
  refine hK.out _ _ trivial (fun hHeld2 => ?_)
  clear hK K hHeld
  have hHeld := hHeld2
  clear hHeld2
  have hs2 := HS2.out
  try simp only [List.getElem_toArray, List.getElem_cons_zero, List.getElem_cons_succ, Act.put, List.setIfInBounds_toArray, List.set_cons_zero, List.set_cons_succ]
  refine wpAnyH_take (i := 9) (oi := _) (v := ?_) rfl (by kernel_rfl) (by kernel_rfl) (by kernel_rfl) (fun _ _ _ h => h) (Or.inl ⟨by rfl, ?_⟩) (by assumption) ?_
  case refine_2 => (intro w hSw; go_simp <;> with_reducible rfl)
  try simp only [List.getElem_toArray, List.getElem_cons_zero, List.getElem_cons_succ, Act.put, List.setIfInBounds_toArray, List.set_cons_zero, List.set_cons_succ]
  refine wpAnyH_take (i := 10) (oi := _) (v := ?_) rfl (by kernel_rfl) (by kernel_rfl) (by kernel_rfl) (fun _ _ _ h => h) (Or.inl ⟨by rfl, ?_⟩) (by assumption) ?_
  case refine_2 => (intro w hSw; go_simp <;> with_reducible rfl)
  try simp only [List.getElem_toArray, List.getElem_cons_zero, List.getElem_cons_succ, Act.put, List.setIfInBounds_toArray, List.set_cons_zero, List.set_cons_succ]
  refine wpAnyH_take (i := 11) (oi := _) (v := ?_) rfl (by kernel_rfl) (by kernel_rfl) (by kernel_rfl) (fun _ _ _ h => h) (Or.inl ⟨by rfl, ?_⟩) (by assumption) ?_
  case refine_2 => (intro w hSw; go_simp <;> with_reducible rfl)
  try simp only [List.getElem_toArray, List.getElem_cons_zero, List.getElem_cons_succ, Act.put, List.setIfInBounds_toArray, List.set_cons_zero, List.set_cons_succ]
  refine wpAnyH_done (by kernel_rfl) ?_ _
  clear hHeld hs1 hs2
  go_wp2_with fail
  all_goals (go_ret2; exact ⟨rfl, B7.out⟩)

/-- addr.Print at every address. -/
def printV (v6 : Bool) (l : List UInt8) : Value := if mayB v6 l then .tuple #[.string ⟨(printT v6 l).toArray⟩, .int .i64 0] else .tuple #[.string ⟨#[]⟩, .int .i64 2]
theorem print_any (v6 : Bool) (l : List UInt8) (hl : l.length = 16) (w : World) (env : Env w) :
    Calls Tryd.prog 29 #[.agg (adC v6 l)] w fun e w' => e = .returned (printV v6 l) ∧ Below w.heap.size w w' := by
  cases v6
  · cases hm : mayB false l
    · rw [printV, hm]
      exact print_no l hl hm w
    · rw [printV, hm]
      exact print_four l hl hm w env
  · rw [printV, show mayB true l = true from rfl]
    by_cases hr : (runF (unflat l) 8).2 < 2
    · rw [if_pos rfl, printT, if_pos rfl, if_pos hr]
      exact print_all l hl hr w env
    · rw [if_pos rfl, printT, if_pos rfl, if_neg hr]
      exact print_run l hl (by omega) w env
end Go.Proofs.YtonafonhadocgaaDoor

/- addr.Ends. -/
namespace Go.Proofs.YtonafonhadocgaaDoor
open Go.RowKit Go.Shelf

theorem hexes_len (gs : List Nat) (h : gs.length ≤ 8) : (hexes gs).length ≤ 40 := by
  have := join_len 58 4 (gs.map hex) (fun x hx => by
    obtain ⟨n, _, rfl⟩ := List.mem_map.1 hx
    exact hex_len n)
  rw [List.length_map] at this
  exact Nat.le_trans this (by omega)
theorem print4_len (l : List UInt8) : (print4 l).length ≤ 16 := by
  have := join_len 46 3 ((l.take 4).map fun b => dec b.toNat) (fun x hx => by
    obtain ⟨b, _, rfl⟩ := List.mem_map.1 hx
    exact dec_len _ b.toNat_lt)
  rw [List.length_map, List.length_take] at this
  exact Nat.le_trans this (by omega)
theorem printT_len (v6 : Bool) (l : List UInt8) (hl : l.length = 16) : (printT v6 l).length ≤ 82 := by
  have hu := unflat_len l 8 hl
  unfold printT
  split
  · split
    · have := hexes_len (unflat l) (by omega)
      omega
    · have h1 := hexes_len ((unflat l).take (runF (unflat l) 8).1) (by rw [List.length_take]; omega)
      have h2 := hexes_len ((unflat l).drop ((runF (unflat l) 8).1 + (runF (unflat l) 8).2)) (by rw [List.length_drop]; omega)
      simp only [List.length_append, List.length_cons, List.length_nil]
      omega
  · have := print4_len l
    omega
theorem nDigits_le (u : Nat) (h : u < 65536) : Lib.nDigits u ≤ 5 := by
  by_cases h1 : u < 10
  · rw [Lib.nDigits_small h1]; omega
  rw [Lib.nDigits_big h1]
  by_cases h2 : u / 10 < 10
  · rw [Lib.nDigits_small h2]; omega
  rw [Lib.nDigits_big h2]
  by_cases h3 : u / 10 / 10 < 10
  · rw [Lib.nDigits_small h3]; omega
  rw [Lib.nDigits_big h3]
  by_cases h4 : u / 10 / 10 / 10 < 10
  · rw [Lib.nDigits_small h4]; omega
  rw [Lib.nDigits_big h4, Lib.nDigits_small (by omega)]
  omega
theorem dec_len16 (u : Nat) (h : u < 65536) : (dec u).length ≤ 5 := by
  rw [dec, Lib.decDigits_length]
  exact nDigits_le u h

/-- The cells of an end. -/
def enC (v6 : Bool) (l : List UInt8) (p : Nat) : Array Value := (Value.bool v6 :: (bv l ++ [Value.int .u16 (p : Int)])).toArray
/-- The text of an end. -/
def endsT (v6 : Bool) (l : List UInt8) (p : Nat) : List UInt8 := (if v6 then 91 :: (printT v6 l ++ [93]) else printT v6 l) ++ 58 :: dec p
def endsV (v6 : Bool) (l : List UInt8) (p : Nat) : Value := if mayB v6 l then .tuple #[.string ⟨(endsT v6 l p).toArray⟩, .int .i64 0] else .tuple #[.string ⟨#[]⟩, .int .i64 2]
theorem enC_size (v6 : Bool) (l : List UInt8) (p : Nat) (h : l.length = 16) : (enC v6 l p).size = 18 := by simp [enC, bv_length, h]
theorem enSize : (Tryd.prog.info? 27).map (·.size) = some 18 := by kernel_rfl
theorem enC_ad (v6 : Bool) (l : List UInt8) (p : Nat) (_h : l.length = 16) : ((enC v6 l p).toList.drop 0).take (adC v6 l).toList.length = (adC v6 l).toList := by
  show (Value.bool v6 :: (bv l ++ [Value.int .u16 (p : Int)])).take (Value.bool v6 :: bv l).length = Value.bool v6 :: bv l
  rw [← List.cons_append, List.take_left']
  rfl
theorem enC_port (v6 : Bool) (l : List UInt8) (p : Nat) (h : l.length = 16) : (enC v6 l p)[17]? = some (.int .u16 (p : Int)) := by
  rw [enC, List.getElem?_toArray, List.getElem?_cons_succ, List.getElem?_append_right (by rw [bv_length, h]; omega), bv_length, h]
  rfl
theorem port_conv (n : Nat) (h : n < 65536) : IntKind.u64.wrap (n : Int) = (n : Int) := by
  simp [IntKind.wrap, IntKind.bits, IntKind.signed]
  omega

theorem ends_cat4 (t d : List UInt8) : (⟨t.toArray⟩ : ByteArray) ++ ⟨#[58]⟩ ++ ⟨d.toArray⟩ = ⟨(t ++ 58 :: d).toArray⟩ := by
  rw [show (⟨#[58]⟩ : ByteArray) = ⟨([58] : List UInt8).toArray⟩ from rfl, ByteArray.mk_append_mk, ByteArray.mk_append_mk]
  simp
theorem ends_cat6 (t d : List UInt8) : (⟨#[91]⟩ : ByteArray) ++ ⟨t.toArray⟩ ++ ⟨#[93]⟩ ++ ⟨#[58]⟩ ++ ⟨d.toArray⟩ = ⟨(91 :: (t ++ 93 :: 58 :: d)).toArray⟩ := by
  rw [show (⟨#[58]⟩ : ByteArray) = ⟨([58] : List UInt8).toArray⟩ from rfl, show (⟨#[91]⟩ : ByteArray) = ⟨([91] : List UInt8).toArray⟩ from rfl, show (⟨#[93]⟩ : ByteArray) = ⟨([93] : List UInt8).toArray⟩ from rfl, ByteArray.mk_append_mk, ByteArray.mk_append_mk, ByteArray.mk_append_mk, ByteArray.mk_append_mk]
  simp

set_option maxRecDepth 100000 in
set_option maxHeartbeats 4000000 in
theorem ends_any (v6 : Bool) (l : List UInt8) (p : Nat) (hl : l.length = 16) (hp : p < 65536) (w : World) (env : Env w) :
    Calls Tryd.prog 18 #[.agg (enC v6 l p)] w fun e w' => e = .returned (endsV v6 l p) ∧ Below w.heap.size w w' := by
  have K := Lib.hid (Blk.new w 27 (enC v6 l p))
  have B := Lib.hid ((Below.refl _ w).alloc (Nat.le_refl _) (.cells (enC v6 l p) 27))
  have HP := Lib.hid (fun W (e : Env W) => print_any v6 l hl W e)
  have HU := Lib.hid (fun W (e : Env W) => unsigned_any p (by omega) W e)
  have E := Lib.hid env
  have hA := enC_ad v6 l p hl
  have hai : (Tryd.prog.info? 24).map (·.size) = some (adC v6 l).toList.length := by
    rw [adSize, Array.length_toList, adC_size _ _ hl]
  have q0 : (enC v6 l p)[0]? = some (.bool v6) := rfl
  have q17 := enC_port v6 l p hl
  have hcv := port_conv p hp
  have hT := printT_len v6 l hl
  have hD := dec_len16 p hp
  have HPV := Lib.hid (show printV v6 l = if mayB v6 l then .tuple #[.string ⟨(printT v6 l).toArray⟩, .int .i64 0] else .tuple #[.string ⟨#[]⟩, .int .i64 2] from rfl)
  have HEV := Lib.hid (show endsV v6 l p = if mayB v6 l then .tuple #[.string ⟨((if v6 then 91 :: (printT v6 l ++ [93]) else printT v6 l) ++ 58 :: dec p).toArray⟩, .int .i64 0] else .tuple #[.string ⟨#[]⟩, .int .i64 2] from rfl)
  have HA := Lib.hid hA
  have HAI := Lib.hid hai
  have Q0 := Lib.hid q0
  have Q17 := Lib.hid q17
  clear hA hai q0 q17 env
  generalize enC v6 l p = cs at *
  generalize adC v6 l = ac at *
  generalize printT v6 l = t at *
  generalize dec p = d at *
  generalize endsV v6 l p = ev at *
  generalize printV v6 l = pv at *
  generalize mayB v6 l = m at *
  clear hl
  have hs1 : ¬ 9223372036854775807 < 1 + t.length := by omega
  have hs2 : ¬ 9223372036854775807 < 1 + t.length + 1 := by omega
  have hs3 : ¬ 9223372036854775807 < t.length + 1 := by omega
  have hs4 : ¬ 9223372036854775807 < t.length + 1 + d.length := by omega
  have hs5 : ¬ 9223372036854775807 < t.length + 1 + 1 := by omega
  have hs6 : ¬ 9223372036854775807 < t.length + 1 + 1 + 1 := by omega
  have hs7 : ¬ 9223372036854775807 < t.length + 1 + 1 + 1 + d.length := by omega
  clear hT hD
  go_enter Tryd.func18, Tryd.ntmps18
  go_wp2_with (refine wpList_load_part 24 (.tmp 7) w.heap.size 0 27 cs ac.toList _ K.out HA.out (by rfl) (by rfl) Tryd.underlying24 rfl HAI.out (by rfl) ?_)
  refine (HP.out _ (E.out.below B.out)).mono ?_
  rintro e w2 ⟨rfl, b⟩
  have B2 := Lib.hid (B.out.trans (b.mono B.out.size))
  have K2 := Lib.hid (K.out.keep b)
  clear b K B
  cases m with
  | false =>
    obtain rfl := HPV.out
    obtain rfl := HEV.out
    go_wp2_with fail
    go_ret2
    exact ⟨rfl, B2.out⟩
  | true =>
    obtain rfl := HPV.out
    obtain rfl := HEV.out
    have q0 : w2.cell? ⟨w.heap.size, 0, none⟩ = some (.bool v6) := by rw [K2.out.cell 0]; exact Q0.out
    have q17 : w2.cell? ⟨w.heap.size, 17, none⟩ = some (.int .u16 (p : Int)) := by rw [K2.out.cell 17]; exact Q17.out
    cases v6 with
    | false =>
      go_wp2_with fail
      refine (HU.out _ (E.out.below B2.out)).mono ?_
      rintro e w3 ⟨rfl, b⟩
      have B3 := Lib.hid (B2.out.trans (b.mono B2.out.size))
      clear b
      go_wp2_with fail
      go_ret2
      exact ⟨congrArg (fun x => Ending.returned (.tuple #[.string x, .int .i64 0])) (ends_cat4 t d), B3.out⟩
    | true =>
      go_wp2_with fail
      refine (HU.out _ (E.out.below B2.out)).mono ?_
      rintro e w3 ⟨rfl, b⟩
      have B3 := Lib.hid (B2.out.trans (b.mono B2.out.size))
      clear b
      go_wp2_with fail
      go_ret2
      exact ⟨congrArg (fun x => Ending.returned (.tuple #[.string x, .int .i64 0])) (ends_cat6 t d), B3.out⟩
end Go.Proofs.YtonafonhadocgaaDoor
