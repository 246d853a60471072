/- Laws and walks that the claim's last text leans on, joined: each part says above itself what it proves. -/
import Derived.Test.YtonafonhadocgaaDoorQA

/- addr.unfour: the address of an IPv4 writing. -/
namespace Go.Proofs.YtonafonhadocgaaDoor
open Go.RowKit Go.Shelf

/-- One of the four numbers. -/
def byteOf (x : ByteArray) : Option UInt8 := match unum x with
  | some n => if n ≤ 255 then some (UInt8.ofNat n) else none
  | none => none
/-- The four bytes of a writing. -/
def f4L : List ByteArray → Option (List UInt8)
  | [x0, x1, x2, x3] => match byteOf x0, byteOf x1, byteOf x2, byteOf x3 with
    | some b0, some b1, some b2, some b3 => some [b0, b1, b2, b3]
    | _, _, _, _ => none
  | _ => none
def f4 (s : ByteArray) : Option (List UInt8) := f4L (partsB 46 s)

/-- What addr.unfour returns. -/
def UnfEnd (s : ByteArray) (e : Ending) : Prop :=
  ∃ v0 v1 v2 v3 : Int, e = .returned (.tuple #[.agg #[.int .u8 v0, .int .u8 v1, .int .u8 v2, .int .u8 v3], .bool (f4 s).isSome]) ∧ ∀ l, f4 s = some l → ∃ b0 b1 b2 b3 : UInt8, l = [b0, b1, b2, b3] ∧ v0 = (b0.toNat : Int) ∧ v1 = (b1.toNat : Int) ∧ v2 = (b2.toNat : Int) ∧ v3 = (b3.toNat : Int)
theorem unf_no {s : ByteArray} (h : f4 s = none) (v0 v1 v2 v3 : Int) : UnfEnd s (.returned (.tuple #[.agg #[.int .u8 v0, .int .u8 v1, .int .u8 v2, .int .u8 v3], .bool false])) :=
  ⟨v0, v1, v2, v3, by rw [h]; rfl, fun l e => by rw [h] at e; cases e⟩
theorem len4 {l : List ByteArray} (h : l.length = 4) : ∃ x0 x1 x2 x3, l = [x0, x1, x2, x3] := by
  match l, h with
  | [x0, x1, x2, x3], _ => exact ⟨x0, x1, x2, x3, rfl⟩
theorem f4L_no {l : List ByteArray} (h : l.length ≠ 4) : f4L l = none := by
  unfold f4L
  split
  · simp at h
  · rfl
theorem byteOf_yes {x : ByteArray} {n : Nat} (h : unum x = some n) (hn : n ≤ 255) : byteOf x = some (UInt8.ofNat n) := by
  simp only [byteOf, h, if_pos hn]
theorem byteOf_big {x : ByteArray} {n : Nat} (h : unum x = some n) (hn : ¬ n ≤ 255) : byteOf x = none := by
  simp only [byteOf, h, if_neg hn]
theorem byteOf_no {x : ByteArray} (h : unum x = none) : byteOf x = none := by
  simp only [byteOf, h]
theorem unum_lt {x : ByteArray} {n : Nat} (h : unum x = some n) : n < 18446744073709551616 := by
  unfold unum at h
  split at h
  · rename_i u hu
    split at h
    · have := Lib.parseUintB_le hu
      injection h with h
      omega
    · cases h
  · cases h
theorem of_small {n : Int} {m : Nat} (h : n = (m : Int)) (hm : m ≤ 255) : n = ((UInt8.ofNat m).toNat : Int) := by
  rw [h, UInt8.toNat_ofNat']
  omega
theorem f4_size : (Tryd.prog.info? 107).map (·.size) = some 4 := by kernel_rfl

/-- The loop's memory: the array, and the parts. -/
structure UInv (w : World) (B : Nat) (cs : Array Value) (ps : Array Value) (wr : World) : Prop where
  blk : Blk wr B 107 cs
  lis : Blk wr (B + 1) 9 ps
  bel : Below w.heap.size w wr
theorem UInv.next {w : World} {B : Nat} {cs : Array Value} {ps : Array Value} {wr w' : World} (h : UInv w B cs ps wr) (hb : Below wr.heap.size wr w') : UInv w B cs ps w' :=
  ⟨h.blk.keep hb, h.lis.keep hb, h.bel.trans (hb.mono h.bel.size)⟩
theorem UInv.set_ {w : World} {B : Nat} {cs : Array Value} {ps : Array Value} {wr : World} (h : UInv w B cs ps wr) (hB : w.heap.size ≤ B) (i : Nat) (v : Value) : UInv w B (cs.setIfInBounds i v) ps (wr.setCell ⟨B, i, none⟩ v) :=
  ⟨h.blk.set_ i v, h.lis.far (by show B + 1 ≠ B; omega) v, h.bel.setCell hB v⟩

set_option maxRecDepth 100000 in
set_option maxHeartbeats 8000000 in
theorem unfour_any (s : ByteArray) (hs : s.size < 4294967281) (w : World) (env : Env w) :
    Calls Tryd.prog 55 #[.string s] w fun e w' => UnfEnd s e ∧ Below w.heap.size w w' := by
  have HS := Lib.hid (fun W (e : Env W) => split_any 46 s hs W e)
  have E := Lib.hid env
  clear env
  have HP := Lib.hid (show f4 s = f4L (partsB 46 s) from rfl)
  have HQ := Lib.hid (show ∀ x ∈ partsB 46 s, x.size ≤ 281474976710656 from fun x hx => by
    have := parts_size 46 s x hx
    omega)
  have hpl := parts_len 46 s
  obtain ⟨ps, hps⟩ : ∃ ps, ps = partsB 46 s := ⟨_, rfl⟩
  rw [← hps] at HS HP HQ hpl
  clear hps
  have hu : (ps.length : Int) ≤ 4294967281 := by omega
  by_cases h4 : ps.length = 4
  case neg =>
    have hn : ((ps.length : Int) != 4) = true := by simp; omega
    have HN := Lib.hid (show f4 s = none by rw [HP.out, f4L_no h4])
    clear h4 hpl
    go_enter Tryd.func55, Tryd.ntmps55
    go_wp2_with fail
    refine (HS.out _ (E.out.alloc _)).mono ?_
    rintro e w1 ⟨rfl, rfl⟩
    go_wp2_with fail
    refine bodyPost_ret (v := .tuple #[.agg #[.int .u8 0, .int .u8 0, .int .u8 0, .int .u8 0], .bool false]) (by simp [results, Tryd.results55, go_sem]) rfl ⟨unf_no HN.out 0 0 0 0, ((Below.refl _ w).alloc (Nat.le_refl _) _).alloc (by simp) _⟩
  obtain ⟨x0, x1, x2, x3, rfl⟩ := len4 h4
  clear h4 hu hpl
  have HS' : Hid (∀ W : World, Env W → Calls Tryd.prog 68 #[.string s, .string ⟨#[46]⟩] W fun e w' => e = .returned (.slice (some ⟨W.heap.size, 0, none⟩) 4 4) ∧ w' = W.alloc (.cells #[.string x0, .string x1, .string x2, .string x3] 9)) := HS
  clear HS
  have U0 := Lib.hid (fun W (e : Env W) => ununsigned_any x0 (HQ.out x0 (by simp)) W e)
  have U1 := Lib.hid (fun W (e : Env W) => ununsigned_any x1 (HQ.out x1 (by simp)) W e)
  have U2 := Lib.hid (fun W (e : Env W) => ununsigned_any x2 (HQ.out x2 (by simp)) W e)
  have U3 := Lib.hid (fun W (e : Env W) => ununsigned_any x3 (HQ.out x3 (by simp)) W e)
  clear HQ
  go_enter Tryd.func55, Tryd.ntmps55
  go_wp2_with fail
  refine (HS'.out _ (E.out.alloc _)).mono ?_
  rintro e w1 ⟨rfl, rfl⟩
  go_wp2_with fail
  have I0 := Lib.hid (show UInv w w.heap.size #[.int .u8 0, .int .u8 0, .int .u8 0, .int .u8 0] #[.string x0, .string x1, .string x2, .string x3] ((w.alloc (.cells #[.int .u8 0, .int .u8 0, .int .u8 0, .int .u8 0] 107)).alloc (.cells #[.string x0, .string x1, .string x2, .string x3] 9)) from
    ⟨(Blk.new w 107 #[.int .u8 0, .int .u8 0, .int .u8 0, .int .u8 0]).alloc _, by simpa using Blk.new (w.alloc (.cells #[.int .u8 0, .int .u8 0, .int .u8 0, .int .u8 0] 107)) 9 #[.string x0, .string x1, .string x2, .string x3], ((Below.refl _ w).alloc (Nat.le_refl _) _).alloc (by simp) _⟩)
  generalize (w.alloc (.cells #[.int .u8 0, .int .u8 0, .int .u8 0, .int .u8 0] 107)).alloc (.cells #[.string x0, .string x1, .string x2, .string x3] 9) = wr0 at *
  clear HS'
  refine wp_loop_rounds 5 ?_
  rw [rounds_succ]
  have q := I0.out.lis.cell 0
  simp at q
  go_wp2_with fail
  refine (U0.out _ (E.out.below I0.out.bel)).mono ?_
  rintro e wa ⟨rfl, b⟩
  have J0 := Lib.hid (I0.out.next b)
  clear b q I0
  cases h0 : unum x0 with
  | none =>
    have HN := Lib.hid (show f4 s = none by rw [HP.out]; simp only [f4L, byteOf_no h0])
    rw [show unumV x0 = .tuple #[.int .u64 0, .bool false] by simp only [unumV, h0]]
    clear h0
    go_wp2_with (first | (refine wpList_load_blk 107 (.tmp 2) w.heap.size 107 #[.int .u8 0, .int .u8 0, .int .u8 0, .int .u8 0] _ J0.out.blk (by rfl) (by rfl) Tryd.underlying107 rfl f4_size (by rfl) ?_) | ((with_reducible refine at_store 107 (.tmp 2) (.tmp 33) ?_); refine wpList_store_blk 107 (.tmp 2) (.tmp 33) w.heap.size 107 #[.int .u8 0, .int .u8 0, .int .u8 0, .int .u8 0] #[.int .u8 0, .int .u8 0, .int .u8 0, .int .u8 0] J0.out.blk (by rfl) (by rfl) (by rfl) (by rfl) f4_size rfl (by rfl) (by rfl) ?_; intro wZ hk hg hs; have VZ := Lib.hid hk; have GZ := Lib.hid (And.intro hg hs); clear hk hg hs))
    have BZ := Lib.hid (J0.out.bel.grown GZ.out.1 J0.out.bel.size (fun k e => by cases e; exact Nat.le_refl _))
    have q0 := VZ.out.cell 0
    have q1 := VZ.out.cell 1
    have q2 := VZ.out.cell 2
    have q3 := VZ.out.cell 3
    simp at q0 q1 q2 q3
    refine bodyPost_ret (v := .tuple #[.agg #[.int .u8 0, .int .u8 0, .int .u8 0, .int .u8 0], .bool false]) (by simp [results, Tryd.results55, go_sem, q0, q1, q2, q3]) rfl ⟨?_, BZ.out⟩
    exact unf_no HN.out _ _ _ _
  | some m0 =>
  have hm0 := unum_lt h0
  rw [show unumV x0 = .tuple #[.int .u64 m0, .bool true] by simp only [unumV, h0]]
  by_cases g0 : m0 ≤ 255
  case neg =>
    have HN := Lib.hid (show f4 s = none by rw [HP.out]; simp only [f4L, byteOf_big h0 g0])
    have hg : 255 < m0 := by omega
    clear h0 g0
    go_wp2_with (first | (refine wpList_load_blk 107 (.tmp 2) w.heap.size 107 #[.int .u8 0, .int .u8 0, .int .u8 0, .int .u8 0] _ J0.out.blk (by rfl) (by rfl) Tryd.underlying107 rfl f4_size (by rfl) ?_) | ((with_reducible refine at_store 107 (.tmp 2) (.tmp 33) ?_); refine wpList_store_blk 107 (.tmp 2) (.tmp 33) w.heap.size 107 #[.int .u8 0, .int .u8 0, .int .u8 0, .int .u8 0] #[.int .u8 0, .int .u8 0, .int .u8 0, .int .u8 0] J0.out.blk (by rfl) (by rfl) (by rfl) (by rfl) f4_size rfl (by rfl) (by rfl) ?_; intro wZ hk hg hs; have VZ := Lib.hid hk; have GZ := Lib.hid (And.intro hg hs); clear hk hg hs))
    have BZ := Lib.hid (J0.out.bel.grown GZ.out.1 J0.out.bel.size (fun k e => by cases e; exact Nat.le_refl _))
    have q0 := VZ.out.cell 0
    have q1 := VZ.out.cell 1
    have q2 := VZ.out.cell 2
    have q3 := VZ.out.cell 3
    simp at q0 q1 q2 q3
    refine bodyPost_ret (v := .tuple #[.agg #[.int .u8 0, .int .u8 0, .int .u8 0, .int .u8 0], .bool false]) (by simp [results, Tryd.results55, go_sem, q0, q1, q2, q3]) rfl ⟨?_, BZ.out⟩
    exact unf_no HN.out _ _ _ _
  have e0 := Lib.hid (byteOf_yes h0 g0)
  have z := J0.out.blk.cell 0
  have fz := J0.out.blk.frozen 0
  simp at z
  clear h0 hm0
  go_wp2_with fail
  obtain ⟨n0, hn0⟩ : ∃ n : Int, n = (m0 : Int) := ⟨_, rfl⟩
  rw [← hn0]
  have HN0 := Lib.hid hn0
  clear hn0
  have I1 := Lib.hid (show UInv w w.heap.size #[.int .u8 n0, .int .u8 0, .int .u8 0, .int .u8 0] #[.string x0, .string x1, .string x2, .string x3] (wa.setCell ⟨w.heap.size, 0, none⟩ (.int .u8 n0)) by simpa using J0.out.set_ (Nat.le_refl _) 0 (.int .u8 n0))
  generalize wa.setCell ⟨w.heap.size, 0, none⟩ (.int .u8 n0) = wr1 at *
  clear z fz J0
  rw [rounds_succ]
  have q := I1.out.lis.cell 1
  simp at q
  go_wp2_with fail
  refine (U1.out _ (E.out.below I1.out.bel)).mono ?_
  rintro e wa ⟨rfl, b⟩
  have J1 := Lib.hid (I1.out.next b)
  clear b q I1
  cases h1 : unum x1 with
  | none =>
    have HN := Lib.hid (show f4 s = none by rw [HP.out]; simp only [f4L, byteOf_no h1, e0.out])
    rw [show unumV x1 = .tuple #[.int .u64 0, .bool false] by simp only [unumV, h1]]
    clear h1
    go_wp2_with (first | (refine wpList_load_blk 107 (.tmp 2) w.heap.size 107 #[.int .u8 n0, .int .u8 0, .int .u8 0, .int .u8 0] _ J1.out.blk (by rfl) (by rfl) Tryd.underlying107 rfl f4_size (by rfl) ?_) | ((with_reducible refine at_store 107 (.tmp 2) (.tmp 33) ?_); refine wpList_store_blk 107 (.tmp 2) (.tmp 33) w.heap.size 107 #[.int .u8 n0, .int .u8 0, .int .u8 0, .int .u8 0] #[.int .u8 n0, .int .u8 0, .int .u8 0, .int .u8 0] J1.out.blk (by rfl) (by rfl) (by rfl) (by rfl) f4_size rfl (by rfl) (by rfl) ?_; intro wZ hk hg hs; have VZ := Lib.hid hk; have GZ := Lib.hid (And.intro hg hs); clear hk hg hs))
    have BZ := Lib.hid (J1.out.bel.grown GZ.out.1 J1.out.bel.size (fun k e => by cases e; exact Nat.le_refl _))
    have q0 := VZ.out.cell 0
    have q1 := VZ.out.cell 1
    have q2 := VZ.out.cell 2
    have q3 := VZ.out.cell 3
    simp at q0 q1 q2 q3
    refine bodyPost_ret (v := .tuple #[.agg #[.int .u8 n0, .int .u8 0, .int .u8 0, .int .u8 0], .bool false]) (by simp [results, Tryd.results55, go_sem, q0, q1, q2, q3]) rfl ⟨?_, BZ.out⟩
    exact unf_no HN.out _ _ _ _
  | some m1 =>
  have hm1 := unum_lt h1
  rw [show unumV x1 = .tuple #[.int .u64 m1, .bool true] by simp only [unumV, h1]]
  by_cases g1 : m1 ≤ 255
  case neg =>
    have HN := Lib.hid (show f4 s = none by rw [HP.out]; simp only [f4L, byteOf_big h1 g1, e0.out])
    have hg : 255 < m1 := by omega
    clear h1 g1
    go_wp2_with (first | (refine wpList_load_blk 107 (.tmp 2) w.heap.size 107 #[.int .u8 n0, .int .u8 0, .int .u8 0, .int .u8 0] _ J1.out.blk (by rfl) (by rfl) Tryd.underlying107 rfl f4_size (by rfl) ?_) | ((with_reducible refine at_store 107 (.tmp 2) (.tmp 33) ?_); refine wpList_store_blk 107 (.tmp 2) (.tmp 33) w.heap.size 107 #[.int .u8 n0, .int .u8 0, .int .u8 0, .int .u8 0] #[.int .u8 n0, .int .u8 0, .int .u8 0, .int .u8 0] J1.out.blk (by rfl) (by rfl) (by rfl) (by rfl) f4_size rfl (by rfl) (by rfl) ?_; intro wZ hk hg hs; have VZ := Lib.hid hk; have GZ := Lib.hid (And.intro hg hs); clear hk hg hs))
    have BZ := Lib.hid (J1.out.bel.grown GZ.out.1 J1.out.bel.size (fun k e => by cases e; exact Nat.le_refl _))
    have q0 := VZ.out.cell 0
    have q1 := VZ.out.cell 1
    have q2 := VZ.out.cell 2
    have q3 := VZ.out.cell 3
    simp at q0 q1 q2 q3
    refine bodyPost_ret (v := .tuple #[.agg #[.int .u8 n0, .int .u8 0, .int .u8 0, .int .u8 0], .bool false]) (by simp [results, Tryd.results55, go_sem, q0, q1, q2, q3]) rfl ⟨?_, BZ.out⟩
    exact unf_no HN.out _ _ _ _
  have e1 := Lib.hid (byteOf_yes h1 g1)
  have z := J1.out.blk.cell 1
  have fz := J1.out.blk.frozen 1
  simp at z
  clear h1 hm1
  go_wp2_with fail
  obtain ⟨n1, hn1⟩ : ∃ n : Int, n = (m1 : Int) := ⟨_, rfl⟩
  rw [← hn1]
  have HN1 := Lib.hid hn1
  clear hn1
  have I2 := Lib.hid (show UInv w w.heap.size #[.int .u8 n0, .int .u8 n1, .int .u8 0, .int .u8 0] #[.string x0, .string x1, .string x2, .string x3] (wa.setCell ⟨w.heap.size, 1, none⟩ (.int .u8 n1)) by simpa using J1.out.set_ (Nat.le_refl _) 1 (.int .u8 n1))
  generalize wa.setCell ⟨w.heap.size, 1, none⟩ (.int .u8 n1) = wr2 at *
  clear z fz J1
  rw [rounds_succ]
  have q := I2.out.lis.cell 2
  simp at q
  go_wp2_with fail
  refine (U2.out _ (E.out.below I2.out.bel)).mono ?_
  rintro e wa ⟨rfl, b⟩
  have J2 := Lib.hid (I2.out.next b)
  clear b q I2
  cases h2 : unum x2 with
  | none =>
    have HN := Lib.hid (show f4 s = none by rw [HP.out]; simp only [f4L, byteOf_no h2, e0.out, e1.out])
    rw [show unumV x2 = .tuple #[.int .u64 0, .bool false] by simp only [unumV, h2]]
    clear h2
    go_wp2_with (first | (refine wpList_load_blk 107 (.tmp 2) w.heap.size 107 #[.int .u8 n0, .int .u8 n1, .int .u8 0, .int .u8 0] _ J2.out.blk (by rfl) (by rfl) Tryd.underlying107 rfl f4_size (by rfl) ?_) | ((with_reducible refine at_store 107 (.tmp 2) (.tmp 33) ?_); refine wpList_store_blk 107 (.tmp 2) (.tmp 33) w.heap.size 107 #[.int .u8 n0, .int .u8 n1, .int .u8 0, .int .u8 0] #[.int .u8 n0, .int .u8 n1, .int .u8 0, .int .u8 0] J2.out.blk (by rfl) (by rfl) (by rfl) (by rfl) f4_size rfl (by rfl) (by rfl) ?_; intro wZ hk hg hs; have VZ := Lib.hid hk; have GZ := Lib.hid (And.intro hg hs); clear hk hg hs))
    have BZ := Lib.hid (J2.out.bel.grown GZ.out.1 J2.out.bel.size (fun k e => by cases e; exact Nat.le_refl _))
    have q0 := VZ.out.cell 0
    have q1 := VZ.out.cell 1
    have q2 := VZ.out.cell 2
    have q3 := VZ.out.cell 3
    simp at q0 q1 q2 q3
    refine bodyPost_ret (v := .tuple #[.agg #[.int .u8 n0, .int .u8 n1, .int .u8 0, .int .u8 0], .bool false]) (by simp [results, Tryd.results55, go_sem, q0, q1, q2, q3]) rfl ⟨?_, BZ.out⟩
    exact unf_no HN.out _ _ _ _
  | some m2 =>
  have hm2 := unum_lt h2
  rw [show unumV x2 = .tuple #[.int .u64 m2, .bool true] by simp only [unumV, h2]]
  by_cases g2 : m2 ≤ 255
  case neg =>
    have HN := Lib.hid (show f4 s = none by rw [HP.out]; simp only [f4L, byteOf_big h2 g2, e0.out, e1.out])
    have hg : 255 < m2 := by omega
    clear h2 g2
    go_wp2_with (first | (refine wpList_load_blk 107 (.tmp 2) w.heap.size 107 #[.int .u8 n0, .int .u8 n1, .int .u8 0, .int .u8 0] _ J2.out.blk (by rfl) (by rfl) Tryd.underlying107 rfl f4_size (by rfl) ?_) | ((with_reducible refine at_store 107 (.tmp 2) (.tmp 33) ?_); refine wpList_store_blk 107 (.tmp 2) (.tmp 33) w.heap.size 107 #[.int .u8 n0, .int .u8 n1, .int .u8 0, .int .u8 0] #[.int .u8 n0, .int .u8 n1, .int .u8 0, .int .u8 0] J2.out.blk (by rfl) (by rfl) (by rfl) (by rfl) f4_size rfl (by rfl) (by rfl) ?_; intro wZ hk hg hs; have VZ := Lib.hid hk; have GZ := Lib.hid (And.intro hg hs); clear hk hg hs))
    have BZ := Lib.hid (J2.out.bel.grown GZ.out.1 J2.out.bel.size (fun k e => by cases e; exact Nat.le_refl _))
    have q0 := VZ.out.cell 0
    have q1 := VZ.out.cell 1
    have q2 := VZ.out.cell 2
    have q3 := VZ.out.cell 3
    simp at q0 q1 q2 q3
    refine bodyPost_ret (v := .tuple #[.agg #[.int .u8 n0, .int .u8 n1, .int .u8 0, .int .u8 0], .bool false]) (by simp [results, Tryd.results55, go_sem, q0, q1, q2, q3]) rfl ⟨?_, BZ.out⟩
    exact unf_no HN.out _ _ _ _
  have e2 := Lib.hid (byteOf_yes h2 g2)
  have z := J2.out.blk.cell 2
  have fz := J2.out.blk.frozen 2
  simp at z
  clear h2 hm2
  go_wp2_with fail
  obtain ⟨n2, hn2⟩ : ∃ n : Int, n = (m2 : Int) := ⟨_, rfl⟩
  rw [← hn2]
  have HN2 := Lib.hid hn2
  clear hn2
  have I3 := Lib.hid (show UInv w w.heap.size #[.int .u8 n0, .int .u8 n1, .int .u8 n2, .int .u8 0] #[.string x0, .string x1, .string x2, .string x3] (wa.setCell ⟨w.heap.size, 2, none⟩ (.int .u8 n2)) by simpa using J2.out.set_ (Nat.le_refl _) 2 (.int .u8 n2))
  generalize wa.setCell ⟨w.heap.size, 2, none⟩ (.int .u8 n2) = wr3 at *
  clear z fz J2
  rw [rounds_succ]
  have q := I3.out.lis.cell 3
  simp at q
  go_wp2_with fail
  refine (U3.out _ (E.out.below I3.out.bel)).mono ?_
  rintro e wa ⟨rfl, b⟩
  have J3 := Lib.hid (I3.out.next b)
  clear b q I3
  cases h3 : unum x3 with
  | none =>
    have HN := Lib.hid (show f4 s = none by rw [HP.out]; simp only [f4L, byteOf_no h3, e0.out, e1.out, e2.out])
    rw [show unumV x3 = .tuple #[.int .u64 0, .bool false] by simp only [unumV, h3]]
    clear h3
    go_wp2_with (first | (refine wpList_load_blk 107 (.tmp 2) w.heap.size 107 #[.int .u8 n0, .int .u8 n1, .int .u8 n2, .int .u8 0] _ J3.out.blk (by rfl) (by rfl) Tryd.underlying107 rfl f4_size (by rfl) ?_) | ((with_reducible refine at_store 107 (.tmp 2) (.tmp 33) ?_); refine wpList_store_blk 107 (.tmp 2) (.tmp 33) w.heap.size 107 #[.int .u8 n0, .int .u8 n1, .int .u8 n2, .int .u8 0] #[.int .u8 n0, .int .u8 n1, .int .u8 n2, .int .u8 0] J3.out.blk (by rfl) (by rfl) (by rfl) (by rfl) f4_size rfl (by rfl) (by rfl) ?_; intro wZ hk hg hs; have VZ := Lib.hid hk; have GZ := Lib.hid (And.intro hg hs); clear hk hg hs))
    have BZ := Lib.hid (J3.out.bel.grown GZ.out.1 J3.out.bel.size (fun k e => by cases e; exact Nat.le_refl _))
    have q0 := VZ.out.cell 0
    have q1 := VZ.out.cell 1
    have q2 := VZ.out.cell 2
    have q3 := VZ.out.cell 3
    simp at q0 q1 q2 q3
    refine bodyPost_ret (v := .tuple #[.agg #[.int .u8 n0, .int .u8 n1, .int .u8 n2, .int .u8 0], .bool false]) (by simp [results, Tryd.results55, go_sem, q0, q1, q2, q3]) rfl ⟨?_, BZ.out⟩
    exact unf_no HN.out _ _ _ _
  | some m3 =>
  have hm3 := unum_lt h3
  rw [show unumV x3 = .tuple #[.int .u64 m3, .bool true] by simp only [unumV, h3]]
  by_cases g3 : m3 ≤ 255
  case neg =>
    have HN := Lib.hid (show f4 s = none by rw [HP.out]; simp only [f4L, byteOf_big h3 g3, e0.out, e1.out, e2.out])
    have hg : 255 < m3 := by omega
    clear h3 g3
    go_wp2_with (first | (refine wpList_load_blk 107 (.tmp 2) w.heap.size 107 #[.int .u8 n0, .int .u8 n1, .int .u8 n2, .int .u8 0] _ J3.out.blk (by rfl) (by rfl) Tryd.underlying107 rfl f4_size (by rfl) ?_) | ((with_reducible refine at_store 107 (.tmp 2) (.tmp 33) ?_); refine wpList_store_blk 107 (.tmp 2) (.tmp 33) w.heap.size 107 #[.int .u8 n0, .int .u8 n1, .int .u8 n2, .int .u8 0] #[.int .u8 n0, .int .u8 n1, .int .u8 n2, .int .u8 0] J3.out.blk (by rfl) (by rfl) (by rfl) (by rfl) f4_size rfl (by rfl) (by rfl) ?_; intro wZ hk hg hs; have VZ := Lib.hid hk; have GZ := Lib.hid (And.intro hg hs); clear hk hg hs))
    have BZ := Lib.hid (J3.out.bel.grown GZ.out.1 J3.out.bel.size (fun k e => by cases e; exact Nat.le_refl _))
    have q0 := VZ.out.cell 0
    have q1 := VZ.out.cell 1
    have q2 := VZ.out.cell 2
    have q3 := VZ.out.cell 3
    simp at q0 q1 q2 q3
    refine bodyPost_ret (v := .tuple #[.agg #[.int .u8 n0, .int .u8 n1, .int .u8 n2, .int .u8 0], .bool false]) (by simp [results, Tryd.results55, go_sem, q0, q1, q2, q3]) rfl ⟨?_, BZ.out⟩
    exact unf_no HN.out _ _ _ _
  have e3 := Lib.hid (byteOf_yes h3 g3)
  have z := J3.out.blk.cell 3
  have fz := J3.out.blk.frozen 3
  simp at z
  clear h3 hm3
  go_wp2_with fail
  obtain ⟨n3, hn3⟩ : ∃ n : Int, n = (m3 : Int) := ⟨_, rfl⟩
  rw [← hn3]
  have HN3 := Lib.hid hn3
  clear hn3
  have I4 := Lib.hid (show UInv w w.heap.size #[.int .u8 n0, .int .u8 n1, .int .u8 n2, .int .u8 n3] #[.string x0, .string x1, .string x2, .string x3] (wa.setCell ⟨w.heap.size, 3, none⟩ (.int .u8 n3)) by simpa using J3.out.set_ (Nat.le_refl _) 3 (.int .u8 n3))
  generalize wa.setCell ⟨w.heap.size, 3, none⟩ (.int .u8 n3) = wr4 at *
  clear z fz J3
  rw [rounds_succ]
  have HR := Lib.hid (show f4 s = some [UInt8.ofNat m0, UInt8.ofNat m1, UInt8.ofNat m2, UInt8.ofNat m3] by rw [HP.out]; simp only [f4L, e0.out, e1.out, e2.out, e3.out])
  go_wp2_with (first | (refine wpList_load_blk 107 (.tmp 2) w.heap.size 107 #[.int .u8 n0, .int .u8 n1, .int .u8 n2, .int .u8 n3] _ I4.out.blk (by rfl) (by rfl) Tryd.underlying107 rfl f4_size (by rfl) ?_) | ((with_reducible refine at_store 107 (.tmp 2) (.tmp 39) ?_); refine wpList_store_blk 107 (.tmp 2) (.tmp 39) w.heap.size 107 #[.int .u8 n0, .int .u8 n1, .int .u8 n2, .int .u8 n3] #[.int .u8 n0, .int .u8 n1, .int .u8 n2, .int .u8 n3] I4.out.blk (by rfl) (by rfl) (by rfl) (by rfl) f4_size rfl (by rfl) (by rfl) ?_; intro wZ hk hg hs; have VZ := Lib.hid hk; have GZ := Lib.hid (And.intro hg hs); clear hk hg hs))
  have BZ := Lib.hid (I4.out.bel.grown GZ.out.1 I4.out.bel.size (fun k e => by cases e; exact Nat.le_refl _))
  have q0 := VZ.out.cell 0
  have q1 := VZ.out.cell 1
  have q2 := VZ.out.cell 2
  have q3 := VZ.out.cell 3
  simp at q0 q1 q2 q3
  refine bodyPost_ret (v := .tuple #[.agg #[.int .u8 n0, .int .u8 n1, .int .u8 n2, .int .u8 n3], .bool true]) (by simp [results, Tryd.results55, go_sem, q0, q1, q2, q3]) rfl ⟨?_, BZ.out⟩
  refine ⟨n0, n1, n2, n3, by rw [HR.out]; rfl, fun l e => ?_⟩
  rw [HR.out] at e
  injection e with e
  exact ⟨_, _, _, _, e.symm, of_small HN0.out g0, of_small HN1.out g1, of_small HN2.out g2, of_small HN3.out g3⟩
end Go.Proofs.YtonafonhadocgaaDoor
