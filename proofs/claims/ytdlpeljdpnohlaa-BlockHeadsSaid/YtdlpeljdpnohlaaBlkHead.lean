/- The walks of block's (Block).Sec and of its reference. -/
import Derived.Test.YtdlpeljdpnohlaaPut
import Derived.Test.YtdlpeljdpnohlaaOctU
import Derived.Test.YtdlpeljdpnohlaaRef7
import Derived.Deep.RegionLaw
import Derived.Deep.RegionHeld3
import Derived.Deep.RegionWith
import Derived.Deep.DeepCutAuto
import Derived.Handy
import Derived.Outline
namespace Go.Proofs.Ytdlpeljdpnohlaa
open Go.RowKit

/-- What a block tells as a section's head: the minor version, the length, the options, the error's number. -/
structure HeadSaid where
  major : Int
  minor : Int
  len : Int
  opts : List UInt8
  err : Int
def headBad (e : Int) : HeadSaid := ⟨0, 0, 0, [], e⟩
def headOf (L : Bool) (kind : Int) (l : List UInt8) : HeadSaid :=
  if kind ≠ 168627466 then headBad 2
  else if l.length < 16 then headBad 123
  else if numAt L l 0 4 ≠ 439041101 then headBad 120
  else if numAt L l 4 2 ≠ 1 then headBad 125
  else ⟨1, numAt L l 6 2, IntKind.i64.wrap (numAt L l 8 8), l.drop 16, 0⟩
def SecSaid (w : World) (h : HeadSaid) (e : Ending) (w' : World) : Prop :=
  ∃ A n c, e = .returned (.tuple #[.agg #[.int .u16 h.major, .int .u16 h.minor, .int .i64 h.len, .slice A n c], .int .i64 h.err]) ∧ Below w.heap.size w w' ∧ Rd w' A n c h.opts

theorem sec_kind_below (w : World) (c0 c1 c2 : Obj) : Below w.heap.size w (((w.alloc c0).alloc c1).alloc c2) :=
  ((((Below.refl w.heap.size w).alloc (Nat.le_refl _) c0).alloc (by simp) c1).alloc (by simp; omega) c2)

theorem below_sec4 {w w1 : World} {b g : Nat} (h : Below b w w1) (hg : b ≤ g) (v0 v1 v2 v3 : Value) :
    Below b w ((((w1.setCell ⟨g, 0, none⟩ v0).setCell ⟨g, 1, none⟩ v1).setCell ⟨g, 2, none⟩ v2).setCell ⟨g, 3, none⟩ v3) :=
  (((h.setCell (p := ⟨g, 0, none⟩) hg v0).setCell (p := ⟨g, 1, none⟩) hg v1).setCell (p := ⟨g, 2, none⟩) hg v2).setCell (p := ⟨g, 3, none⟩) hg v3

/-- What holds of every world within (Block).Sec's last region. -/
def SecInv (w : World) (A : Option Addr) (n c : Nat) (L : Bool) (l : List UInt8) (w' : World) : Prop :=
  Rd w' A n c l ∧ Below w.heap.size w w' ∧ w.heap.size + 3 ≤ w'.heap.size ∧ Blk w' w.heap.size 32 #[.int .u32 168627466, .slice A n c] ∧
    Blk w' (w.heap.size + 1 + 1) 55 #[.slice A n c, .bool L] ∧ ∃ v0 v1 v2 v3, Blk w' (w.heap.size + 1) 35 #[v0, v1, v2, v3]
section
variable {w w' w'' : World} {A : Option Addr} {n c : Nat} {L : Bool} {l : List UInt8}
theorem SecInv.below (h : SecInv w A n c L l w') (hb : Below w'.heap.size w' w'') : SecInv w A n c L l w'' := by
  obtain ⟨h1, h2, h3, h4, h5, v0, v1, v2, v3, h6⟩ := h
  exact ⟨h1.below hb, h2.trans (hb.mono h2.size), Nat.le_trans h3 hb.size, h4.keep hb, h5.keep hb, v0, v1, v2, v3, h6.keep hb⟩
theorem SecInv.drew (h : SecInv w A n c L l w') : SecInv w A n c L l w'.drew := h.below ((Below.refl w'.heap.size w').drew)
theorem SecInv.alloc (h : SecInv w A n c L l w') (o : Obj) : SecInv w A n c L l (w'.alloc o) := h.below ((Below.refl _ _).alloc (Nat.le_refl _) o)
theorem SecInv.app (h : SecInv w A n c L l w') (hb : Below (w.heap.size + 3) w' w'') (hr : Rd w A n c l) : SecInv w A n c L l w'' := by
  obtain ⟨h1, h2, h3, h4, h5, v0, v1, v2, v3, h6⟩ := h
  exact ⟨hr.below (h2.trans (hb.mono (by omega))), h2.trans (hb.mono (by omega)), Nat.le_trans h3 hb.size, h4.below hb (by omega), h5.below hb (by omega), v0, v1, v2, v3, h6.below hb (by omega)⟩
def SecS (w : World) (A : Option Addr) (n c : Nat) (L : Bool) (w' : World) : Prop :=
  w'.cell? ⟨w.heap.size + 1 + 1, 0, none⟩ = some (.slice A n c) ∧ w'.cell? ⟨w.heap.size + 1 + 1, 1, none⟩ = some (.bool L) ∧ w'.cell? ⟨w.heap.size, 1, none⟩ = some (.slice A n c)
theorem SecInv.s (h : SecInv w A n c L l w') : SecS w A n c L w' := by
  obtain ⟨_, _, _, h4, h5, _⟩ := h
  exact ⟨by simpa using h5.cell 0, by simpa using h5.cell 1, by simpa using h4.cell 1⟩
theorem SecS.store (h : SecS w A n c L w') (v0 v1 v2 v3 : Value) :
    SecS w A n c L ((((w'.setCell ⟨w.heap.size + 1, 0, none⟩ v0).setCell ⟨w.heap.size + 1, 1, none⟩ v1).setCell ⟨w.heap.size + 1, 2, none⟩ v2).setCell ⟨w.heap.size + 1, 3, none⟩ v3) := by
  obtain ⟨h1, h2, h3⟩ := h
  refine ⟨?_, ?_, ?_⟩ <;> (repeat rw [cell_far (by simp)]) <;> assumption
end

theorem secCut {w : World} {A : Option Addr} {n c : Nat} {l : List UInt8} (h : Rd w A n c l) (hn : 16 ≤ n) (A' : Option Addr) (hA : A' = (if c = 16 then A else Option.map (fun x => { block := x.block, off := x.off + 16 }) A)) :
    Rd w A' (n - 16) (c - 16) (l.drop 16) := by
  have h2 := h.2.1
  have h3 := h.1
  have := h.cut (lo := 16) (hi := n) (c' := c - 16) hn (Nat.le_refl _) (by omega) (by omega) A' (fun hlt => by
    rw [hA, if_neg (by omega)]
    cases h0 : A with
    | none => rfl
    | some a =>
      obtain ⟨b, off, hb, _⟩ := h.2.2.2 (by omega)
      rw [h0] at hb
      injection hb with hb
      subst hb
      simp [Addr.add_lit])
  rwa [List.take_of_length_le (by simp; omega)] at this
theorem secOwn {w w5 : World} {A : Option Addr} {m c : Nat} {l : List UInt8} (h : Own w5 (w.heap.size + 3) (.slice A m c) ([] ++ l)) (v0 v1 v2 v3 : Value) :
    Rd ((((w5.setCell ⟨w.heap.size + 1, 0, none⟩ v0).setCell ⟨w.heap.size + 1, 1, none⟩ v1).setCell ⟨w.heap.size + 1, 2, none⟩ v2).setCell ⟨w.heap.size + 1, 3, none⟩ v3) A m c l :=
  ((((h.setCell (by simp) v0).setCell (by simp) v1).setCell (by simp) v2).setCell (by simp) v3).rd

set_option maxHeartbeats 1000000 in
theorem sec_kind (kind : Int) (A : Option Addr) (n c : Nat) (L : Bool) (w : World) (hk : kind ≠ 168627466) :
    Calls Try.prog 16 #[.agg #[.int .u32 kind, .slice A n c], .bool L] w fun e w' =>
      SecSaid w (headBad 2) e w' := by
  have hk' : (kind == 168627466) = false := by simpa using hk
  go_enter Try.func16, Try.ntmps16
  go_wp2_with fail
  refine bodyPost_ret (v := .tuple #[.agg #[.int .u16 0, .int .u16 0, .int .i64 0, .slice none 0 0], .int .i64 2]) (by simp [results, Try.results16, go_sem]) rfl ?_
  exact ⟨none, 0, 0, rfl, sec_kind_below _ _ _ _, Rd.nil _⟩

set_option maxHeartbeats 1000000 in
theorem sec_short (A : Option Addr) (n c : Nat) (L : Bool) (w : World) (hn : n < 16) :
    Calls Try.prog 16 #[.agg #[.int .u32 168627466, .slice A n c], .bool L] w fun e w' =>
      SecSaid w (headBad 123) e w' := by
  go_enter Try.func16, Try.ntmps16
  go_wp2_with fail
  refine bodyPost_ret (v := .tuple #[.agg #[.int .u16 0, .int .u16 0, .int .i64 0, .slice none 0 0], .int .i64 123]) (by simp [results, Try.results16, go_sem]) rfl ?_
  exact ⟨none, 0, 0, rfl, sec_kind_below _ _ _ _, Rd.nil _⟩

set_option maxHeartbeats 1000000 in
theorem sec_rest (A : Option Addr) (n c : Nat) (L : Bool) (l : List UInt8) (w : World) (hr : Rd w A n c l) (hn : 16 ≤ n) (hn2 : n ≤ 1048576) (x y z v : Nat)
    (hx : numAt L l 0 4 = x) (hy : numAt L l 4 2 = y) (hz : numAt L l 6 2 = z) (hv : numAt L l 8 8 = v) (H : HeadSaid)
    (hH : H = if x ≠ 439041101 then headBad 120 else if y ≠ 1 then headBad 125 else ⟨1, z, IntKind.i64.wrap v, l.drop 16, 0⟩) :
    Calls Try.prog 16 #[.agg #[.int .u32 168627466, .slice A n c], .bool L] w fun e w' =>
      SecSaid w H e w' := by
  have c0 := fun w hr => u32_any A n c L 0 l w hr (by omega)
  have c4 := fun w hr => u16_any A n c L 4 l w hr (by omega)
  have c6 := fun w hr => u16_any A n c L 6 l w hr (by omega)
  have c8 := fun w hr => u64_any A n c L 8 l w hr (by omega)
  simp only [show (0 : Int).toNat = 0 from rfl, show (4 : Int).toNat = 4 from rfl, show (6 : Int).toNat = 6 from rfl, show (8 : Int).toNat = 8 from rfl, hx, hy, hz, hv] at c0 c4 c6 c8
  have C0 := Lib.hid c0
  have C4 := Lib.hid c4
  have C6 := Lib.hid c6
  have C8 := Lib.hid c8
  have HN := Lib.hid hr.1
  have hnc := hr.2.1
  have hcm := hr.2.2.1
  have HR := Lib.hid hr
  have HH := Lib.hid hH
  have HR0 := Lib.hid hr
  clear c0 c4 c6 c8 hx hy hz hv hr hH
  go_enter Try.func16, Try.ntmps16
  go_wp2_with fail
  refine (C0.out _ (((HR.out.alloc _).alloc _).alloc _)).mono ?_
  rintro e w1 ⟨rfl, hb1⟩
  have k0 := (((Blk.new w 32 #[.int .u32 168627466, .slice A n c]).alloc (.cells #[.int .u16 0, .int .u16 0, .int .i64 0, .slice none 0 0] 35)).alloc (.cells #[.slice A n c, .bool L] 55)).keep hb1
  have k1 := ((Blk.new (w.alloc (.cells #[.int .u32 168627466, .slice A n c] 32)) 35 #[.int .u16 0, .int .u16 0, .int .i64 0, .slice none 0 0]).alloc (.cells #[.slice A n c, .bool L] 55)).keep hb1
  have k2 := (Blk.new ((w.alloc (.cells #[.int .u32 168627466, .slice A n c] 32)).alloc (.cells #[.int .u16 0, .int .u16 0, .int .i64 0, .slice none 0 0] 35)) 55 #[.slice A n c, .bool L]).keep hb1
  simp only [World.size_alloc] at k1 k2
  have B1 := Lib.hid ((sec_kind_below w (.cells #[.int .u32 168627466, .slice A n c] 32) (.cells #[.int .u16 0, .int .u16 0, .int .i64 0, .slice none 0 0] 35) (.cells #[.slice A n c, .bool L] 55)).trans (hb1.mono (by simp; omega)))
  have HR1 := Lib.hid (HR.out.below B1.out)
  have hlt := k2.lt
  have q0 := k2.cell 0
  have q1 := k2.cell 1
  have q2 := k1.cell 0
  have q3 := k1.cell 1
  have q4 := k1.cell 2
  have q5 := k1.cell 3
  have q6 := k0.cell 1
  have z0 := k1.frozen 0
  have z1 := k1.frozen 1
  have z2 := k1.frozen 2
  have z3 := k1.frozen 3
  have K0 := Lib.hid k0
  have K1 := Lib.hid k1
  have K2 := Lib.hid k2
  simp at q0 q1 q2 q3 q4 q5 q6
  clear hb1 HR k0 k1 k2
  by_cases hx : x = 439041101
  rotate_left
  · have hx' : ((x : Int) == 439041101) = false := by rw [beq_eq_false_iff_ne]; omega
    have HF : Hid (H = headBad 120) := by unfold Hid; rw [HH.out, if_pos hx]
    clear hx HH
    go_wp2_with fail
    refine bodyPost_ret (v := .tuple #[.agg #[.int .u16 0, .int .u16 0, .int .i64 0, .slice none 0 0], .int .i64 120]) (by simp [results, Try.results16, go_sem, q2, q3, q4, q5]) rfl ?_
    rw [HF.out]
    exact ⟨none, 0, 0, rfl, below_sec4 B1.out (by omega) _ _ _ _, Rd.nil _⟩
  have hx' : ((x : Int) == 439041101) = true := by rw [hx]; rfl
  go_wp2_with fail
  refine (C4.out _ HR1.out).mono ?_
  rintro e w2 ⟨rfl, hb2⟩
  have B2 := Lib.hid (B1.out.trans (hb2.mono B1.out.size))
  have HR2 := Lib.hid (HR1.out.below hb2)
  have k0 := K0.out.keep hb2
  have k1 := K1.out.keep hb2
  have k2 := K2.out.keep hb2
  have hlt := k2.lt
  have q0 := k2.cell 0
  have q1 := k2.cell 1
  have q2 := k1.cell 0
  have q3 := k1.cell 1
  have q4 := k1.cell 2
  have q5 := k1.cell 3
  have q6 := k0.cell 1
  have z0 := k1.frozen 0
  have z1 := k1.frozen 1
  have z2 := k1.frozen 2
  have z3 := k1.frozen 3
  have K0' := Lib.hid k0
  have K1' := Lib.hid k1
  have K2' := Lib.hid k2
  simp at q0 q1 q2 q3 q4 q5 q6
  clear hb2 HR1 k0 k1 k2 K0 K1 K2 B1
  by_cases hy : y = 1
  rotate_left
  · have hy' : ((y : Int) == 1) = false := by rw [beq_eq_false_iff_ne]; omega
    have HF : Hid (H = headBad 125) := by unfold Hid; rw [HH.out, if_neg (by omega), if_pos hy]
    clear hy HH
    go_wp2_with fail
    refine bodyPost_ret (v := .tuple #[.agg #[.int .u16 0, .int .u16 0, .int .i64 0, .slice none 0 0], .int .i64 125]) (by simp [results, Try.results16, go_sem, q2, q3, q4, q5]) rfl ?_
    rw [HF.out]
    exact ⟨none, 0, 0, rfl, below_sec4 B2.out (by omega) _ _ _ _, Rd.nil _⟩
  have hy' : ((y : Int) == 1) = true := by rw [hy]; rfl
  go_wp2_with fail
  have HI2 : Hid (SecInv w A n c L l w2.drew) := SecInv.drew ⟨HR2.out, B2.out, by omega, K0'.out, K2'.out, _, _, _, _, K1'.out⟩
  have HF : Hid (H = ⟨1, z, IntKind.i64.wrap v, l.drop 16, 0⟩) := by unfold Hid; rw [HH.out, if_neg (by omega), if_neg (by omega)]
  clear K0' K1' K2' HH HR2 hlt q0 q1 q2 q3 q4 q5 q6 z0 z1 z2 z3 B2
  obtain ⟨i0, hi0, hz0, hz1, hz2⟩ := info_parts info_u8
  refine wp_region_held_drew (S := (fun w' => w'.cell? ⟨w.heap.size + 1 + 1, 0, none⟩ = some (.slice A n c) ∧ w'.cell? ⟨w.heap.size + 1 + 1, 1, none⟩ = some (.bool L) ∧ w'.cell? ⟨w.heap.size, 1, none⟩ = some (.slice A n c))) (by kernel_rfl) (HI2.out.s) (fun hHeld => ?_)
  refine wpAnyH_take (i := 0) (oi := _) (v := ?_) rfl (by kernel_rfl) (by kernel_rfl) (by kernel_rfl) (fun _ _ _ h => h) (Or.inl ⟨by rfl, ?_⟩) (by assumption) ?_
  case refine_2 => (intro w hSw; (try dsimp only at hSw); go_simp <;> with_reducible rfl)
  try simp only [List.getElem_toArray, List.getElem_cons_zero, Act.put, List.setIfInBounds_toArray, List.set_cons_zero, List.set_cons_succ]
  refine wpAnyH_take (i := 2) (oi := _) (v := ?_) rfl (by kernel_rfl) (by kernel_rfl) (by kernel_rfl) (fun _ _ _ h => h) (Or.inl ⟨by rfl, ?_⟩) (by assumption) ?_
  case refine_2 => (intro w hSw; (try dsimp only at hSw); go_simp <;> with_reducible rfl)
  try simp only [List.getElem_toArray, List.getElem_cons_zero, List.getElem_cons_succ, Act.put, List.setIfInBounds_toArray, List.set_cons_zero, List.set_cons_succ]
  refine wpAnyH_take (i := 6) (oi := _) (v := ?_) rfl (by kernel_rfl) (by kernel_rfl) (by kernel_rfl) (fun _ _ _ h => h) (Or.inl ⟨by rfl, ?_⟩) (by assumption) ?_
  case refine_2 => (intro w hSw; (try dsimp only at hSw); go_simp <;> with_reducible rfl)
  try simp only [List.getElem_toArray, List.getElem_cons_zero, List.getElem_cons_succ, Act.put, List.setIfInBounds_toArray, List.set_cons_zero, List.set_cons_succ]
  refine wpAnyH_take (i := 7) (oi := _) (v := ?_) rfl (by kernel_rfl) (by kernel_rfl) (by kernel_rfl) (fun _ _ _ h => h) (Or.inl ⟨by rfl, ?_⟩) (by assumption) ?_
  case refine_2 => (intro w hSw; (try dsimp only at hSw); go_simp <;> with_reducible rfl)
  try simp only [List.getElem_toArray, List.getElem_cons_zero, List.getElem_cons_succ, Act.put, List.setIfInBounds_toArray, List.set_cons_zero, List.set_cons_succ]
  refine wpAnyH_take (i := 8) (oi := _) (v := ?_) rfl (by kernel_rfl) (by kernel_rfl) (by kernel_rfl) (fun _ _ _ h => h) (Or.inl ⟨by rfl, ?_⟩) (by assumption) ?_
  case refine_2 => (intro w hSw; (try dsimp only at hSw); go_simp <;> with_reducible rfl)
  try simp only [List.getElem_toArray, List.getElem_cons_zero, List.getElem_cons_succ, Act.put, List.setIfInBounds_toArray, List.set_cons_zero, List.set_cons_succ]
  generalize hAA : (if c = 16 then A else Option.map (fun x => ({ block := x.block, off := x.off + 16 } : Addr)) A) = AA
  have HAA := Lib.hid hAA.symm
  clear hAA
  refine wpAnyH_ready (rs := [1, 5]) (by kernel_rfl) (by simp) ?_
  refine AllReadyH.cons (o := _) rfl (fun K hK => ?_) (AllReadyH.cons (o := _) rfl (fun K hK => ?_) AllReadyH.nil)
  · simp only [List.getElem_toArray, List.getElem_cons_zero, List.getElem_cons_succ]
    go_simp
    refine (C6.out _ HI2.out.1).mono ?_
    rintro e w3 ⟨rfl, hb3⟩
    have HI3 := Lib.hid (SecInv.below HI2.out hb3)
    go_simp
    refine hK.out _ _ HI3.out.s (fun hHeld2 => ?_)
    clear hK K hHeld hb3
    have hHeld := hHeld2
    clear hHeld2
    try simp only [List.getElem_toArray, List.getElem_cons_zero, List.getElem_cons_succ, Act.put, List.setIfInBounds_toArray, List.set_cons_zero, List.set_cons_succ]
    refine wpAnyH_ready (rs := [3, 5]) (by kernel_rfl) (by simp) ?_
    refine AllReadyH.cons (o := _) rfl (fun K hK => ?_) (AllReadyH.cons (o := _) rfl (fun K hK => ?_) AllReadyH.nil)
    · simp only [List.getElem_toArray, List.getElem_cons_zero, List.getElem_cons_succ]
      go_simp
      refine (C8.out _ HI3.out.1).mono ?_
      rintro e w4 ⟨rfl, hb4⟩
      have HI4 := Lib.hid (SecInv.below HI3.out hb4)
      go_simp
      refine hK.out _ _ HI4.out.s (fun hHeld2 => ?_)
      clear hK K hHeld hb4
      have hHeld := hHeld2
      clear hHeld2
      try simp only [List.getElem_toArray, List.getElem_cons_zero, List.getElem_cons_succ, Act.put, List.setIfInBounds_toArray, List.set_cons_zero, List.set_cons_succ]
      refine wpAnyH_take (i := 4) (oi := _) (v := ?_) rfl (by kernel_rfl) (by kernel_rfl) (by kernel_rfl) (fun _ _ _ h => h) (Or.inl ⟨by rfl, ?_⟩) (by assumption) ?_
      case refine_2 => (intro w hSw; (try dsimp only at hSw); go_simp <;> with_reducible rfl)
      try simp only [List.getElem_toArray, List.getElem_cons_zero, List.getElem_cons_succ, Act.put, List.setIfInBounds_toArray, List.set_cons_zero, List.set_cons_succ]
      refine wpAnyH_ready (rs := [5]) (by kernel_rfl) (by simp) ?_
      refine AllReadyH.cons (o := _) rfl (fun K hK => ?_) AllReadyH.nil
      simp only [List.getElem_toArray, List.getElem_cons_zero, List.getElem_cons_succ]
      go_simp
      refine hK.out _ _ (HI4.out.alloc _).s (fun hHeld2 => ?_)
      clear hK K hHeld 
      have hHeld := hHeld2
      clear hHeld2
      try simp only [List.getElem_toArray, List.getElem_cons_zero, List.getElem_cons_succ, Act.put, List.setIfInBounds_toArray, List.set_cons_zero, List.set_cons_succ]
      refine wpAnyH_ready (rs := [9]) (by kernel_rfl) (by simp) ?_
      refine AllReadyH.cons (o := _) rfl (fun K hK => ?_) AllReadyH.nil
      refine step_append_rd _ rfl (.tmp 37) (.tmp 40) 22 rfl (w.heap.size + 3) i0 _ Try.underlying22 hi0 hz0 hz1 hz2 rfl _ [] (by rfl) (Own.lit w4 [] #[] rfl HI4.out.2.2.1 (by simp)) _ (n - 16) (c - 16) (l.drop 16) (by rfl) (secCut (HI4.out.alloc _).1 hn _ HAA.out) ?h63a (HI4.out.alloc _).2.2.1 (n - 16) ?hNa ?resta
      case h63a => simp <;> omega
      case hNa => simp
      intro A5 c5 w5 ho5 hb5 hg5 hat5
      have HI5 := Lib.hid (SecInv.app (HI4.out.alloc _) hb5 HR0.out)
      have HO5 := Lib.hid (secOwn ho5)
      clear ho5 hb5 hg5 hat5
      refine hK.out _ _ HI5.out.s (fun hHeld2 => ?_)
      clear hK K hHeld 
      have hHeld := hHeld2
      clear hHeld2
      try simp only [List.getElem_toArray, List.getElem_cons_zero, List.getElem_cons_succ, Act.put, List.setIfInBounds_toArray, List.set_cons_zero, List.set_cons_succ]
      refine wpAnyH_take (i := 10) (oi := _) (v := ?_) rfl (by kernel_rfl) (by kernel_rfl) (by kernel_rfl) (fun _ _ _ h => h) (Or.inl ⟨by rfl, ?_⟩) (by assumption) ?_
      case refine_2 => (intro w hSw; (try dsimp only at hSw); go_simp <;> with_reducible rfl)
      try simp only [List.getElem_toArray, List.getElem_cons_zero, List.getElem_cons_succ, Act.put, List.setIfInBounds_toArray, List.set_cons_zero, List.set_cons_succ]
      obtain ⟨v0, v1, v2, v3, k5⟩ := HI5.out.2.2.2.2.2
      have q2 := k5.cell 0
      have q3 := k5.cell 1
      have q4 := k5.cell 2
      have q5 := k5.cell 3
      have z0 := k5.frozen 0
      have z1 := k5.frozen 1
      have z2 := k5.frozen 2
      have z3 := k5.frozen 3
      have hlt5 := k5.lt
      simp at q2 q3 q4 q5
      clear k5
      refine wpAnyH_ready (rs := [11]) (by kernel_rfl) (by simp) ?_
      refine AllReadyH.cons (o := _) rfl (fun K hK => ?_) AllReadyH.nil
      simp only [List.getElem_toArray, List.getElem_cons_zero, List.getElem_cons_succ]
      go_simp
      refine hK.out _ _ (HI5.out.s.store _ _ _ _) (fun hHeld2 => ?_)
      clear hK K hHeld 
      have hHeld := hHeld2
      clear hHeld2
      try simp only [List.getElem_toArray, List.getElem_cons_zero, List.getElem_cons_succ, Act.put, List.setIfInBounds_toArray, List.set_cons_zero, List.set_cons_succ]
      refine wpAnyH_take (i := 12) (oi := _) (v := ?_) rfl (by kernel_rfl) (by kernel_rfl) (by kernel_rfl) (fun _ _ _ h => h) (Or.inl ⟨by rfl, ?_⟩) (by assumption) ?_
      case refine_2 => (intro w hSw; (try dsimp only at hSw); go_simp <;> with_reducible rfl)
      try simp only [List.getElem_toArray, List.getElem_cons_zero, List.getElem_cons_succ, Act.put, List.setIfInBounds_toArray, List.set_cons_zero, List.set_cons_succ]
      refine wpAnyH_done (by kernel_rfl) ?_ _
      clear hHeld
      go_wp2
      refine bodyPost_ret (v := .tuple #[.agg #[.int .u16 1, .int .u16 z, .int .i64 (IntKind.i64.wrap v), .slice A5 (n - 16) c5], .int .i64 0]) (by simp [results, Try.results16, go_sem, q2, q3, q4, q5]) rfl ?_
      rw [HF.out]
      exact ⟨A5, n - 16, c5, rfl, below_sec4 HI5.out.2.1 (by omega) _ _ _ _, HO5.out _ _ _ _⟩
    · simp only [List.getElem_toArray, List.getElem_cons_zero, List.getElem_cons_succ]
      go_simp
      refine hK.out _ _ (HI3.out.alloc _).s (fun hHeld2 => ?_)
      clear hK K hHeld 
      have hHeld := hHeld2
      clear hHeld2
      try simp only [List.getElem_toArray, List.getElem_cons_zero, List.getElem_cons_succ, Act.put, List.setIfInBounds_toArray, List.set_cons_zero, List.set_cons_succ]
      refine wpAnyH_ready (rs := [3]) (by kernel_rfl) (by simp) ?_
      refine AllReadyH.cons (o := _) rfl (fun K hK => ?_) AllReadyH.nil
      simp only [List.getElem_toArray, List.getElem_cons_zero, List.getElem_cons_succ]
      go_simp
      refine (C8.out _ (HI3.out.alloc _).1).mono ?_
      rintro e w4 ⟨rfl, hb4⟩
      have HI4 := Lib.hid (SecInv.below (HI3.out.alloc _) hb4)
      go_simp
      have OW := Lib.hid ((Own.lit (base := w.heap.size + 3) w3 [] #[] rfl HI3.out.2.2.1 (by simp)).below hb4)
      refine hK.out _ _ HI4.out.s (fun hHeld2 => ?_)
      clear hK K hHeld 
      have hHeld := hHeld2
      clear hHeld2
      try simp only [List.getElem_toArray, List.getElem_cons_zero, List.getElem_cons_succ, Act.put, List.setIfInBounds_toArray, List.set_cons_zero, List.set_cons_succ]
      refine wpAnyH_take (i := 4) (oi := _) (v := ?_) rfl (by kernel_rfl) (by kernel_rfl) (by kernel_rfl) (fun _ _ _ h => h) (Or.inl ⟨by rfl, ?_⟩) (by assumption) ?_
      case refine_2 => (intro w hSw; (try dsimp only at hSw); go_simp <;> with_reducible rfl)
      try simp only [List.getElem_toArray, List.getElem_cons_zero, List.getElem_cons_succ, Act.put, List.setIfInBounds_toArray, List.set_cons_zero, List.set_cons_succ]
      refine wpAnyH_ready (rs := [9]) (by kernel_rfl) (by simp) ?_
      refine AllReadyH.cons (o := _) rfl (fun K hK => ?_) AllReadyH.nil
      refine step_append_rd _ rfl (.tmp 37) (.tmp 40) 22 rfl (w.heap.size + 3) i0 _ Try.underlying22 hi0 hz0 hz1 hz2 rfl _ [] (by rfl) OW.out _ (n - 16) (c - 16) (l.drop 16) (by rfl) (secCut HI4.out.1 hn _ HAA.out) ?h63b HI4.out.2.2.1 (n - 16) ?hNb ?restb
      case h63b => simp <;> omega
      case hNb => simp
      intro A5 c5 w5 ho5 hb5 hg5 hat5
      have HI5 := Lib.hid (SecInv.app HI4.out hb5 HR0.out)
      have HO5 := Lib.hid (secOwn ho5)
      clear ho5 hb5 hg5 hat5
      refine hK.out _ _ HI5.out.s (fun hHeld2 => ?_)
      clear hK K hHeld 
      have hHeld := hHeld2
      clear hHeld2
      try simp only [List.getElem_toArray, List.getElem_cons_zero, List.getElem_cons_succ, Act.put, List.setIfInBounds_toArray, List.set_cons_zero, List.set_cons_succ]
      refine wpAnyH_take (i := 10) (oi := _) (v := ?_) rfl (by kernel_rfl) (by kernel_rfl) (by kernel_rfl) (fun _ _ _ h => h) (Or.inl ⟨by rfl, ?_⟩) (by assumption) ?_
      case refine_2 => (intro w hSw; (try dsimp only at hSw); go_simp <;> with_reducible rfl)
      try simp only [List.getElem_toArray, List.getElem_cons_zero, List.getElem_cons_succ, Act.put, List.setIfInBounds_toArray, List.set_cons_zero, List.set_cons_succ]
      obtain ⟨v0, v1, v2, v3, k5⟩ := HI5.out.2.2.2.2.2
      have q2 := k5.cell 0
      have q3 := k5.cell 1
      have q4 := k5.cell 2
      have q5 := k5.cell 3
      have z0 := k5.frozen 0
      have z1 := k5.frozen 1
      have z2 := k5.frozen 2
      have z3 := k5.frozen 3
      have hlt5 := k5.lt
      simp at q2 q3 q4 q5
      clear k5
      refine wpAnyH_ready (rs := [11]) (by kernel_rfl) (by simp) ?_
      refine AllReadyH.cons (o := _) rfl (fun K hK => ?_) AllReadyH.nil
      simp only [List.getElem_toArray, List.getElem_cons_zero, List.getElem_cons_succ]
      go_simp
      refine hK.out _ _ (HI5.out.s.store _ _ _ _) (fun hHeld2 => ?_)
      clear hK K hHeld 
      have hHeld := hHeld2
      clear hHeld2
      try simp only [List.getElem_toArray, List.getElem_cons_zero, List.getElem_cons_succ, Act.put, List.setIfInBounds_toArray, List.set_cons_zero, List.set_cons_succ]
      refine wpAnyH_take (i := 12) (oi := _) (v := ?_) rfl (by kernel_rfl) (by kernel_rfl) (by kernel_rfl) (fun _ _ _ h => h) (Or.inl ⟨by rfl, ?_⟩) (by assumption) ?_
      case refine_2 => (intro w hSw; (try dsimp only at hSw); go_simp <;> with_reducible rfl)
      try simp only [List.getElem_toArray, List.getElem_cons_zero, List.getElem_cons_succ, Act.put, List.setIfInBounds_toArray, List.set_cons_zero, List.set_cons_succ]
      refine wpAnyH_done (by kernel_rfl) ?_ _
      clear hHeld
      go_wp2
      refine bodyPost_ret (v := .tuple #[.agg #[.int .u16 1, .int .u16 z, .int .i64 (IntKind.i64.wrap v), .slice A5 (n - 16) c5], .int .i64 0]) (by simp [results, Try.results16, go_sem, q2, q3, q4, q5]) rfl ?_
      rw [HF.out]
      exact ⟨A5, n - 16, c5, rfl, below_sec4 HI5.out.2.1 (by omega) _ _ _ _, HO5.out _ _ _ _⟩
  · simp only [List.getElem_toArray, List.getElem_cons_zero, List.getElem_cons_succ]
    go_simp
    refine hK.out _ _ (HI2.out.alloc _).s (fun hHeld2 => ?_)
    clear hK K hHeld 
    have hHeld := hHeld2
    clear hHeld2
    try simp only [List.getElem_toArray, List.getElem_cons_zero, List.getElem_cons_succ, Act.put, List.setIfInBounds_toArray, List.set_cons_zero, List.set_cons_succ]
    refine wpAnyH_ready (rs := [1]) (by kernel_rfl) (by simp) ?_
    refine AllReadyH.cons (o := _) rfl (fun K hK => ?_) AllReadyH.nil
    simp only [List.getElem_toArray, List.getElem_cons_zero, List.getElem_cons_succ]
    go_simp
    refine (C6.out _ (HI2.out.alloc _).1).mono ?_
    rintro e w3 ⟨rfl, hb3⟩
    have HI3 := Lib.hid (SecInv.below (HI2.out.alloc _) hb3)
    go_simp
    have OW3 := Lib.hid ((Own.lit (base := w.heap.size + 3) w2.drew [] #[] rfl HI2.out.2.2.1 (by simp)).below hb3)
    refine hK.out _ _ HI3.out.s (fun hHeld2 => ?_)
    clear hK K hHeld 
    have hHeld := hHeld2
    clear hHeld2
    try simp only [List.getElem_toArray, List.getElem_cons_zero, List.getElem_cons_succ, Act.put, List.setIfInBounds_toArray, List.set_cons_zero, List.set_cons_succ]
    refine wpAnyH_ready (rs := [3]) (by kernel_rfl) (by simp) ?_
    refine AllReadyH.cons (o := _) rfl (fun K hK => ?_) AllReadyH.nil
    simp only [List.getElem_toArray, List.getElem_cons_zero, List.getElem_cons_succ]
    go_simp
    refine (C8.out _ HI3.out.1).mono ?_
    rintro e w4 ⟨rfl, hb4⟩
    have HI4 := Lib.hid (SecInv.below HI3.out hb4)
    go_simp
    have OW := Lib.hid (OW3.out.below hb4)
    refine hK.out _ _ HI4.out.s (fun hHeld2 => ?_)
    clear hK K hHeld 
    have hHeld := hHeld2
    clear hHeld2
    try simp only [List.getElem_toArray, List.getElem_cons_zero, List.getElem_cons_succ, Act.put, List.setIfInBounds_toArray, List.set_cons_zero, List.set_cons_succ]
    refine wpAnyH_take (i := 4) (oi := _) (v := ?_) rfl (by kernel_rfl) (by kernel_rfl) (by kernel_rfl) (fun _ _ _ h => h) (Or.inl ⟨by rfl, ?_⟩) (by assumption) ?_
    case refine_2 => (intro w hSw; (try dsimp only at hSw); go_simp <;> with_reducible rfl)
    try simp only [List.getElem_toArray, List.getElem_cons_zero, List.getElem_cons_succ, Act.put, List.setIfInBounds_toArray, List.set_cons_zero, List.set_cons_succ]
    refine wpAnyH_ready (rs := [9]) (by kernel_rfl) (by simp) ?_
    refine AllReadyH.cons (o := _) rfl (fun K hK => ?_) AllReadyH.nil
    refine step_append_rd _ rfl (.tmp 37) (.tmp 40) 22 rfl (w.heap.size + 3) i0 _ Try.underlying22 hi0 hz0 hz1 hz2 rfl _ [] (by rfl) OW.out _ (n - 16) (c - 16) (l.drop 16) (by rfl) (secCut HI4.out.1 hn _ HAA.out) ?h63c HI4.out.2.2.1 (n - 16) ?hNc ?restc
    case h63c => simp <;> omega
    case hNc => simp
    intro A5 c5 w5 ho5 hb5 hg5 hat5
    have HI5 := Lib.hid (SecInv.app HI4.out hb5 HR0.out)
    have HO5 := Lib.hid (secOwn ho5)
    clear ho5 hb5 hg5 hat5
    refine hK.out _ _ HI5.out.s (fun hHeld2 => ?_)
    clear hK K hHeld 
    have hHeld := hHeld2
    clear hHeld2
    try simp only [List.getElem_toArray, List.getElem_cons_zero, List.getElem_cons_succ, Act.put, List.setIfInBounds_toArray, List.set_cons_zero, List.set_cons_succ]
    refine wpAnyH_take (i := 10) (oi := _) (v := ?_) rfl (by kernel_rfl) (by kernel_rfl) (by kernel_rfl) (fun _ _ _ h => h) (Or.inl ⟨by rfl, ?_⟩) (by assumption) ?_
    case refine_2 => (intro w hSw; (try dsimp only at hSw); go_simp <;> with_reducible rfl)
    try simp only [List.getElem_toArray, List.getElem_cons_zero, List.getElem_cons_succ, Act.put, List.setIfInBounds_toArray, List.set_cons_zero, List.set_cons_succ]
    obtain ⟨v0, v1, v2, v3, k5⟩ := HI5.out.2.2.2.2.2
    have q2 := k5.cell 0
    have q3 := k5.cell 1
    have q4 := k5.cell 2
    have q5 := k5.cell 3
    have z0 := k5.frozen 0
    have z1 := k5.frozen 1
    have z2 := k5.frozen 2
    have z3 := k5.frozen 3
    have hlt5 := k5.lt
    simp at q2 q3 q4 q5
    clear k5
    refine wpAnyH_ready (rs := [11]) (by kernel_rfl) (by simp) ?_
    refine AllReadyH.cons (o := _) rfl (fun K hK => ?_) AllReadyH.nil
    simp only [List.getElem_toArray, List.getElem_cons_zero, List.getElem_cons_succ]
    go_simp
    refine hK.out _ _ (HI5.out.s.store _ _ _ _) (fun hHeld2 => ?_)
    clear hK K hHeld 
    have hHeld := hHeld2
    clear hHeld2
    try simp only [List.getElem_toArray, List.getElem_cons_zero, List.getElem_cons_succ, Act.put, List.setIfInBounds_toArray, List.set_cons_zero, List.set_cons_succ]
    refine wpAnyH_take (i := 12) (oi := _) (v := ?_) rfl (by kernel_rfl) (by kernel_rfl) (by kernel_rfl) (fun _ _ _ h => h) (Or.inl ⟨by rfl, ?_⟩) (by assumption) ?_
    case refine_2 => (intro w hSw; (try dsimp only at hSw); go_simp <;> with_reducible rfl)
    try simp only [List.getElem_toArray, List.getElem_cons_zero, List.getElem_cons_succ, Act.put, List.setIfInBounds_toArray, List.set_cons_zero, List.set_cons_succ]
    refine wpAnyH_done (by kernel_rfl) ?_ _
    clear hHeld
    go_wp2
    refine bodyPost_ret (v := .tuple #[.agg #[.int .u16 1, .int .u16 z, .int .i64 (IntKind.i64.wrap v), .slice A5 (n - 16) c5], .int .i64 0]) (by simp [results, Try.results16, go_sem, q2, q3, q4, q5]) rfl ?_
    rw [HF.out]
    exact ⟨A5, n - 16, c5, rfl, below_sec4 HI5.out.2.1 (by omega) _ _ _ _, HO5.out _ _ _ _⟩

theorem sec_any (kind : Int) (A : Option Addr) (n c : Nat) (L : Bool) (l : List UInt8) (w : World) (hr : Rd w A n c l) (hn2 : n ≤ 1048576) :
    Calls Try.prog 16 #[.agg #[.int .u32 kind, .slice A n c], .bool L] w (SecSaid w (headOf L kind l)) := by
  have hl := hr.1
  unfold headOf
  by_cases hk : kind ≠ 168627466
  · rw [if_pos hk]; exact sec_kind kind A n c L w hk
  · rw [if_neg hk]
    obtain rfl : kind = 168627466 := Classical.not_not.1 hk
    by_cases h16 : l.length < 16
    · rw [if_pos h16]; exact sec_short A n c L w (by omega)
    · rw [if_neg h16]
      exact sec_rest A n c L l w hr (by omega) hn2 _ _ _ _ rfl rfl rfl rfl _ rfl
end Go.Proofs.Ytdlpeljdpnohlaa
