/- The walks of block's Turn and of its reference. -/
import Derived.Test.YtdlpeljdpnohlaaDoorPut
import Derived.Test.YtdlpeljdpnohlaaDoorOctU
import Derived.Outline
namespace Go.Proofs.YtdlpeljdpnohlaaDoor
open Go.RowKit

def secBytes : List UInt8 := [10, 13, 13, 10]
/-- What Turn answers: which end is first, and the error's number. -/
def turnOf (l : List UInt8) : Bool × Int :=
  if l.take 4 ≠ secBytes.take l.length then (false, 120)
  else if l.length < 12 then (false, 121)
  else if (l.drop 8).take 4 = bytesOf false 4 439041101 then (false, 0)
  else if (l.drop 8).take 4 = bytesOf true 4 439041101 then (true, 0)
  else (false, 120)

set_option maxHeartbeats 1000000 in
theorem turn_bad_lt (A : Option Addr) (n c : Nat) (l : List UInt8) (w : World) (hr : Rd w A n c l) (h4 : n < 4) (hb : (l.take n == secBytes.take n) = false) :
    Calls Tryd.prog 9 #[.slice A n c] w fun e w' =>
      e = .returned (.tuple #[.bool false, .int .i64 120]) ∧ Below w.heap.size w w' := by
  have hn := hr.1
  have hnc := hr.2.1
  have hcm := hr.2.2.1
  have HN := Lib.hid hn
  have HR := Lib.hid hr
  clear hr hn
  have hfl := field_row0
  go_enter Tryd.func9, Tryd.ntmps9
  go_wp2_with fail
  refine (put_any none 0 0 false 168627466 4 4 [] _ (Rd.nil _) (by omega) (by omega) (by omega) (by omega) (by omega)).mono ?_
  rintro e w1 ⟨A1, c1, rfl, hb1, ho1⟩
  simp only [List.nil_append, show bytesOf false (Int.toNat 4) (Int.toNat 168627466) = secBytes by decide] at ho1
  have h4c := ho1.rd.2.1
  have h4m := ho1.rd.2.2.1
  have B1 := Lib.hid hb1
  have HR1 := Lib.hid (HR.out.below hb1)
  have hv1 := fun k => conv_str (P := Tryd.prog) ((Rd.cut HR1.out (lo := 0) (hi := n) (c' := c) (by omega) (by omega) (by omega) (Nat.le_refl _) A (fun _ => by cases A <;> simp [Addr.add])).drewN k) 23 9 Tryd.underlying23 Tryd.underlying5 Tryd.underlying9
  have hv2 := fun k => conv_str (P := Tryd.prog) ((Rd.cut ho1.rd (lo := 0) (hi := n) (c' := c1) (by omega) (by omega) (by omega) (Nat.le_refl _) A1 (fun _ => by cases A1 <;> simp [Addr.add])).drewN k) 23 9 Tryd.underlying23 Tryd.underlying5 Tryd.underlying9
  simp only [List.drop_zero, Nat.sub_zero] at hv1 hv2
  clear hb1 ho1 HR
  go_wp2_with fail
  go_quiet (fail)
  clear hv1 hv2
  have B2 := Lib.hid (below_drewN B1.out nq)
  have HR2 := Lib.hid (HR1.out.drewN nq)
  clear B1 HR1
  generalize w1.drewN nq = w2 at *
  go_wp2
  go_ret2
  exact ⟨rfl, B2.out⟩

set_option maxHeartbeats 1000000 in
theorem turn_short_lt (A : Option Addr) (n c : Nat) (l : List UInt8) (w : World) (hr : Rd w A n c l) (h4 : n < 4) (hb : (l.take n == secBytes.take n) = true) :
    Calls Tryd.prog 9 #[.slice A n c] w fun e w' =>
      e = .returned (.tuple #[.bool false, .int .i64 121]) ∧ Below w.heap.size w w' := by
  have hn := hr.1
  have hnc := hr.2.1
  have hcm := hr.2.2.1
  have HN := Lib.hid hn
  have HR := Lib.hid hr
  clear hr hn
  have hfl := field_row0
  go_enter Tryd.func9, Tryd.ntmps9
  go_wp2_with fail
  refine (put_any none 0 0 false 168627466 4 4 [] _ (Rd.nil _) (by omega) (by omega) (by omega) (by omega) (by omega)).mono ?_
  rintro e w1 ⟨A1, c1, rfl, hb1, ho1⟩
  simp only [List.nil_append, show bytesOf false (Int.toNat 4) (Int.toNat 168627466) = secBytes by decide] at ho1
  have h4c := ho1.rd.2.1
  have h4m := ho1.rd.2.2.1
  have B1 := Lib.hid hb1
  have HR1 := Lib.hid (HR.out.below hb1)
  have hv1 := fun k => conv_str (P := Tryd.prog) ((Rd.cut HR1.out (lo := 0) (hi := n) (c' := c) (by omega) (by omega) (by omega) (Nat.le_refl _) A (fun _ => by cases A <;> simp [Addr.add])).drewN k) 23 9 Tryd.underlying23 Tryd.underlying5 Tryd.underlying9
  have hv2 := fun k => conv_str (P := Tryd.prog) ((Rd.cut ho1.rd (lo := 0) (hi := n) (c' := c1) (by omega) (by omega) (by omega) (Nat.le_refl _) A1 (fun _ => by cases A1 <;> simp [Addr.add])).drewN k) 23 9 Tryd.underlying23 Tryd.underlying5 Tryd.underlying9
  simp only [List.drop_zero, Nat.sub_zero] at hv1 hv2
  clear hb1 ho1 HR
  go_wp2_with fail
  go_quiet (fail)
  clear hv1 hv2
  have B2 := Lib.hid (below_drewN B1.out nq)
  have HR2 := Lib.hid (HR1.out.drewN nq)
  clear B1 HR1
  generalize w1.drewN nq = w2 at *
  go_wp2
  go_ret2
  exact ⟨rfl, B2.out⟩

set_option maxHeartbeats 1000000 in
theorem turn_bad_eq (A : Option Addr) (n c : Nat) (l : List UInt8) (w : World) (hr : Rd w A n c l) (h4 : n = 4) (hb : (l.take 4 == secBytes.take 4) = false) :
    Calls Tryd.prog 9 #[.slice A n c] w fun e w' =>
      e = .returned (.tuple #[.bool false, .int .i64 120]) ∧ Below w.heap.size w w' := by
  have hn := hr.1
  have hnc := hr.2.1
  have hcm := hr.2.2.1
  have HN := Lib.hid hn
  have HR := Lib.hid hr
  clear hr hn
  have hfl := field_row0
  subst h4
  go_enter Tryd.func9, Tryd.ntmps9
  go_wp2_with fail
  refine (put_any none 0 0 false 168627466 4 4 [] _ (Rd.nil _) (by omega) (by omega) (by omega) (by omega) (by omega)).mono ?_
  rintro e w1 ⟨A1, c1, rfl, hb1, ho1⟩
  simp only [List.nil_append, show bytesOf false (Int.toNat 4) (Int.toNat 168627466) = secBytes by decide] at ho1
  have h4c := ho1.rd.2.1
  have h4m := ho1.rd.2.2.1
  have B1 := Lib.hid hb1
  have HR1 := Lib.hid (HR.out.below hb1)
  have hv1 := fun k => conv_str (P := Tryd.prog) ((Rd.cut HR1.out (lo := 0) (hi := 4) (c' := c) (by omega) (by omega) (by omega) (Nat.le_refl _) A (fun _ => by cases A <;> simp [Addr.add])).drewN k) 23 9 Tryd.underlying23 Tryd.underlying5 Tryd.underlying9
  have hv2 := fun k => conv_str (P := Tryd.prog) ((Rd.cut ho1.rd (lo := 0) (hi := 4) (c' := c1) (by omega) (by omega) (by omega) (Nat.le_refl _) A1 (fun _ => by cases A1 <;> simp [Addr.add])).drewN k) 23 9 Tryd.underlying23 Tryd.underlying5 Tryd.underlying9
  simp only [List.drop_zero, Nat.sub_zero] at hv1 hv2
  clear hb1 ho1 HR
  go_wp2_with fail
  go_quiet (fail)
  clear hv1 hv2
  have B2 := Lib.hid (below_drewN B1.out nq)
  have HR2 := Lib.hid (HR1.out.drewN nq)
  clear B1 HR1
  generalize w1.drewN nq = w2 at *
  go_wp2
  go_ret2
  exact ⟨rfl, B2.out⟩

set_option maxHeartbeats 1000000 in
theorem turn_short_eq (A : Option Addr) (n c : Nat) (l : List UInt8) (w : World) (hr : Rd w A n c l) (h4 : n = 4) (hb : (l.take 4 == secBytes.take 4) = true) :
    Calls Tryd.prog 9 #[.slice A n c] w fun e w' =>
      e = .returned (.tuple #[.bool false, .int .i64 121]) ∧ Below w.heap.size w w' := by
  have hn := hr.1
  have hnc := hr.2.1
  have hcm := hr.2.2.1
  have HN := Lib.hid hn
  have HR := Lib.hid hr
  clear hr hn
  have hfl := field_row0
  subst h4
  go_enter Tryd.func9, Tryd.ntmps9
  go_wp2_with fail
  refine (put_any none 0 0 false 168627466 4 4 [] _ (Rd.nil _) (by omega) (by omega) (by omega) (by omega) (by omega)).mono ?_
  rintro e w1 ⟨A1, c1, rfl, hb1, ho1⟩
  simp only [List.nil_append, show bytesOf false (Int.toNat 4) (Int.toNat 168627466) = secBytes by decide] at ho1
  have h4c := ho1.rd.2.1
  have h4m := ho1.rd.2.2.1
  have B1 := Lib.hid hb1
  have HR1 := Lib.hid (HR.out.below hb1)
  have hv1 := fun k => conv_str (P := Tryd.prog) ((Rd.cut HR1.out (lo := 0) (hi := 4) (c' := c) (by omega) (by omega) (by omega) (Nat.le_refl _) A (fun _ => by cases A <;> simp [Addr.add])).drewN k) 23 9 Tryd.underlying23 Tryd.underlying5 Tryd.underlying9
  have hv2 := fun k => conv_str (P := Tryd.prog) ((Rd.cut ho1.rd (lo := 0) (hi := 4) (c' := c1) (by omega) (by omega) (by omega) (Nat.le_refl _) A1 (fun _ => by cases A1 <;> simp [Addr.add])).drewN k) 23 9 Tryd.underlying23 Tryd.underlying5 Tryd.underlying9
  simp only [List.drop_zero, Nat.sub_zero] at hv1 hv2
  clear hb1 ho1 HR
  go_wp2_with fail
  go_quiet (fail)
  clear hv1 hv2
  have B2 := Lib.hid (below_drewN B1.out nq)
  have HR2 := Lib.hid (HR1.out.drewN nq)
  clear B1 HR1
  generalize w1.drewN nq = w2 at *
  go_wp2
  go_ret2
  exact ⟨rfl, B2.out⟩

set_option maxHeartbeats 1000000 in
theorem turn_bad_gt (A : Option Addr) (n c : Nat) (l : List UInt8) (w : World) (hr : Rd w A n c l) (h4 : 4 < n) (hb : (l.take 4 == secBytes.take 4) = false) :
    Calls Tryd.prog 9 #[.slice A n c] w fun e w' =>
      e = .returned (.tuple #[.bool false, .int .i64 120]) ∧ Below w.heap.size w w' := by
  have hn := hr.1
  have hnc := hr.2.1
  have hcm := hr.2.2.1
  have HN := Lib.hid hn
  have HR := Lib.hid hr
  clear hr hn
  have hfl := field_row0
  go_enter Tryd.func9, Tryd.ntmps9
  go_wp2_with fail
  refine (put_any none 0 0 false 168627466 4 4 [] _ (Rd.nil _) (by omega) (by omega) (by omega) (by omega) (by omega)).mono ?_
  rintro e w1 ⟨A1, c1, rfl, hb1, ho1⟩
  simp only [List.nil_append, show bytesOf false (Int.toNat 4) (Int.toNat 168627466) = secBytes by decide] at ho1
  have h4c := ho1.rd.2.1
  have h4m := ho1.rd.2.2.1
  have B1 := Lib.hid hb1
  have HR1 := Lib.hid (HR.out.below hb1)
  have hv1 := fun k => conv_str (P := Tryd.prog) ((Rd.cut HR1.out (lo := 0) (hi := 4) (c' := c) (by omega) (by omega) (by omega) (Nat.le_refl _) A (fun _ => by cases A <;> simp [Addr.add])).drewN k) 23 9 Tryd.underlying23 Tryd.underlying5 Tryd.underlying9
  have hv2 := fun k => conv_str (P := Tryd.prog) ((Rd.cut ho1.rd (lo := 0) (hi := 4) (c' := c1) (by omega) (by omega) (by omega) (Nat.le_refl _) A1 (fun _ => by cases A1 <;> simp [Addr.add])).drewN k) 23 9 Tryd.underlying23 Tryd.underlying5 Tryd.underlying9
  simp only [List.drop_zero, Nat.sub_zero] at hv1 hv2
  clear hb1 ho1 HR
  go_wp2_with fail
  go_quiet (fail)
  clear hv1 hv2
  have B2 := Lib.hid (below_drewN B1.out nq)
  have HR2 := Lib.hid (HR1.out.drewN nq)
  clear B1 HR1
  generalize w1.drewN nq = w2 at *
  go_wp2
  go_ret2
  exact ⟨rfl, B2.out⟩

set_option maxHeartbeats 1000000 in
theorem turn_short_gt (A : Option Addr) (n c : Nat) (l : List UInt8) (w : World) (hr : Rd w A n c l) (h4 : 4 < n) (h12 : n < 12) (hb : (l.take 4 == secBytes.take 4) = true) :
    Calls Tryd.prog 9 #[.slice A n c] w fun e w' =>
      e = .returned (.tuple #[.bool false, .int .i64 121]) ∧ Below w.heap.size w w' := by
  have hn := hr.1
  have hnc := hr.2.1
  have hcm := hr.2.2.1
  have HN := Lib.hid hn
  have HR := Lib.hid hr
  clear hr hn
  have hfl := field_row0
  go_enter Tryd.func9, Tryd.ntmps9
  go_wp2_with fail
  refine (put_any none 0 0 false 168627466 4 4 [] _ (Rd.nil _) (by omega) (by omega) (by omega) (by omega) (by omega)).mono ?_
  rintro e w1 ⟨A1, c1, rfl, hb1, ho1⟩
  simp only [List.nil_append, show bytesOf false (Int.toNat 4) (Int.toNat 168627466) = secBytes by decide] at ho1
  have h4c := ho1.rd.2.1
  have h4m := ho1.rd.2.2.1
  have B1 := Lib.hid hb1
  have HR1 := Lib.hid (HR.out.below hb1)
  have hv1 := fun k => conv_str (P := Tryd.prog) ((Rd.cut HR1.out (lo := 0) (hi := 4) (c' := c) (by omega) (by omega) (by omega) (Nat.le_refl _) A (fun _ => by cases A <;> simp [Addr.add])).drewN k) 23 9 Tryd.underlying23 Tryd.underlying5 Tryd.underlying9
  have hv2 := fun k => conv_str (P := Tryd.prog) ((Rd.cut ho1.rd (lo := 0) (hi := 4) (c' := c1) (by omega) (by omega) (by omega) (Nat.le_refl _) A1 (fun _ => by cases A1 <;> simp [Addr.add])).drewN k) 23 9 Tryd.underlying23 Tryd.underlying5 Tryd.underlying9
  simp only [List.drop_zero, Nat.sub_zero] at hv1 hv2
  clear hb1 ho1 HR
  go_wp2_with fail
  go_quiet (fail)
  clear hv1 hv2
  have B2 := Lib.hid (below_drewN B1.out nq)
  have HR2 := Lib.hid (HR1.out.drewN nq)
  clear B1 HR1
  generalize w1.drewN nq = w2 at *
  go_wp2
  go_ret2
  exact ⟨rfl, B2.out⟩

set_option maxHeartbeats 1000000 in
theorem turn_big (A : Option Addr) (n c : Nat) (l : List UInt8) (w : World) (hr : Rd w A n c l) (h12 : 12 ≤ n) (hb : (l.take 4 == secBytes.take 4) = true) (x y : Nat) (hx : numAt false l 8 4 = x) (hy : numAt true l 8 4 = y) (hx1 : ((x : Int) == 439041101) = true) :
    Calls Tryd.prog 9 #[.slice A n c] w fun e w' =>
      e = .returned (.tuple #[.bool false, .int .i64 0]) ∧ Below w.heap.size w w' := by
  have hn := hr.1
  have hnc := hr.2.1
  have hcm := hr.2.2.1
  have HN := Lib.hid hn
  have HR := Lib.hid hr
  clear hr hn
  have hfl := field_row0
  have c1 := fun w hr => u32_any A n c false 8 l w hr (by omega)
  have c2 := fun w hr => u32_any A n c true 8 l w hr (by omega)
  simp only [show (8 : Int).toNat = 8 from rfl, hx, hy] at c1 c2
  have C1 := Lib.hid c1
  have C2 := Lib.hid c2
  clear c1 c2 hx hy
  go_enter Tryd.func9, Tryd.ntmps9
  go_wp2_with fail
  refine (put_any none 0 0 false 168627466 4 4 [] _ (Rd.nil _) (by omega) (by omega) (by omega) (by omega) (by omega)).mono ?_
  rintro e w1 ⟨A1, c1, rfl, hb1, ho1⟩
  simp only [List.nil_append, show bytesOf false (Int.toNat 4) (Int.toNat 168627466) = secBytes by decide] at ho1
  have h4c := ho1.rd.2.1
  have h4m := ho1.rd.2.2.1
  have B1 := Lib.hid hb1
  have HR1 := Lib.hid (HR.out.below hb1)
  have hv1 := fun k => conv_str (P := Tryd.prog) ((Rd.cut HR1.out (lo := 0) (hi := 4) (c' := c) (by omega) (by omega) (by omega) (Nat.le_refl _) A (fun _ => by cases A <;> simp [Addr.add])).drewN k) 23 9 Tryd.underlying23 Tryd.underlying5 Tryd.underlying9
  have hv2 := fun k => conv_str (P := Tryd.prog) ((Rd.cut ho1.rd (lo := 0) (hi := 4) (c' := c1) (by omega) (by omega) (by omega) (Nat.le_refl _) A1 (fun _ => by cases A1 <;> simp [Addr.add])).drewN k) 23 9 Tryd.underlying23 Tryd.underlying5 Tryd.underlying9
  simp only [List.drop_zero, Nat.sub_zero] at hv1 hv2
  clear hb1 ho1 HR
  go_wp2_with fail
  go_quiet (fail)
  clear hv1 hv2
  have B2 := Lib.hid (below_drewN B1.out nq)
  have HR2 := Lib.hid (HR1.out.drewN nq)
  clear B1 HR1
  generalize w1.drewN nq = w2 at *
  go_wp2_with fail
  refine wp_loop_rounds 2 ?_
  rw [rounds_succ]
  go_wp2_with fail
  refine (C1.out _ (HR2.out.alloc _)).mono ?_
  rintro e w3 ⟨rfl, hb3⟩
  have B3 := Lib.hid ((B2.out.alloc B2.out.size (.cells #[.bool false, .bool true] 4)).trans (hb3.mono (by have := B2.out.size; simp; omega)))
  clear hb3 HR2
  go_wp2
  go_ret2
  exact ⟨rfl, B3.out⟩

set_option maxHeartbeats 1000000 in
theorem turn_little (A : Option Addr) (n c : Nat) (l : List UInt8) (w : World) (hr : Rd w A n c l) (h12 : 12 ≤ n) (hb : (l.take 4 == secBytes.take 4) = true) (x y : Nat) (hx : numAt false l 8 4 = x) (hy : numAt true l 8 4 = y) (hx1 : ((x : Int) == 439041101) = false) (hy1 : ((y : Int) == 439041101) = true) :
    Calls Tryd.prog 9 #[.slice A n c] w fun e w' =>
      e = .returned (.tuple #[.bool true, .int .i64 0]) ∧ Below w.heap.size w w' := by
  have hn := hr.1
  have hnc := hr.2.1
  have hcm := hr.2.2.1
  have HN := Lib.hid hn
  have HR := Lib.hid hr
  clear hr hn
  have hfl := field_row0
  have c1 := fun w hr => u32_any A n c false 8 l w hr (by omega)
  have c2 := fun w hr => u32_any A n c true 8 l w hr (by omega)
  simp only [show (8 : Int).toNat = 8 from rfl, hx, hy] at c1 c2
  have C1 := Lib.hid c1
  have C2 := Lib.hid c2
  clear c1 c2 hx hy
  go_enter Tryd.func9, Tryd.ntmps9
  go_wp2_with fail
  refine (put_any none 0 0 false 168627466 4 4 [] _ (Rd.nil _) (by omega) (by omega) (by omega) (by omega) (by omega)).mono ?_
  rintro e w1 ⟨A1, c1, rfl, hb1, ho1⟩
  simp only [List.nil_append, show bytesOf false (Int.toNat 4) (Int.toNat 168627466) = secBytes by decide] at ho1
  have h4c := ho1.rd.2.1
  have h4m := ho1.rd.2.2.1
  have B1 := Lib.hid hb1
  have HR1 := Lib.hid (HR.out.below hb1)
  have hv1 := fun k => conv_str (P := Tryd.prog) ((Rd.cut HR1.out (lo := 0) (hi := 4) (c' := c) (by omega) (by omega) (by omega) (Nat.le_refl _) A (fun _ => by cases A <;> simp [Addr.add])).drewN k) 23 9 Tryd.underlying23 Tryd.underlying5 Tryd.underlying9
  have hv2 := fun k => conv_str (P := Tryd.prog) ((Rd.cut ho1.rd (lo := 0) (hi := 4) (c' := c1) (by omega) (by omega) (by omega) (Nat.le_refl _) A1 (fun _ => by cases A1 <;> simp [Addr.add])).drewN k) 23 9 Tryd.underlying23 Tryd.underlying5 Tryd.underlying9
  simp only [List.drop_zero, Nat.sub_zero] at hv1 hv2
  clear hb1 ho1 HR
  go_wp2_with fail
  go_quiet (fail)
  clear hv1 hv2
  have B2 := Lib.hid (below_drewN B1.out nq)
  have HR2 := Lib.hid (HR1.out.drewN nq)
  clear B1 HR1
  generalize w1.drewN nq = w2 at *
  go_wp2_with fail
  refine wp_loop_rounds 2 ?_
  rw [rounds_succ]
  go_wp2_with fail
  refine (C1.out _ (HR2.out.alloc _)).mono ?_
  rintro e w3 ⟨rfl, hb3⟩
  have B3 := Lib.hid ((B2.out.alloc B2.out.size (.cells #[.bool false, .bool true] 4)).trans (hb3.mono (by have := B2.out.size; simp; omega)))
  have k3 := (Blk.new w2 4 #[.bool false, .bool true]).keep hb3
  have q1 := k3.cell 1
  simp at q1
  have HR3 := Lib.hid ((HR2.out.alloc (.cells #[.bool false, .bool true] 4)).below hb3)
  clear hb3 HR2
  go_wp2_with fail
  rw [rounds_succ]
  go_wp2_with fail
  refine (C2.out _ HR3.out).mono ?_
  rintro e w4 ⟨rfl, hb4⟩
  have B4 := Lib.hid (B3.out.trans (hb4.mono B3.out.size))
  clear hb4 HR3
  go_wp2
  go_ret2
  exact ⟨rfl, B4.out⟩

set_option maxHeartbeats 1000000 in
theorem turn_none (A : Option Addr) (n c : Nat) (l : List UInt8) (w : World) (hr : Rd w A n c l) (h12 : 12 ≤ n) (hb : (l.take 4 == secBytes.take 4) = true) (x y : Nat) (hx : numAt false l 8 4 = x) (hy : numAt true l 8 4 = y) (hx1 : ((x : Int) == 439041101) = false) (hy1 : ((y : Int) == 439041101) = false) :
    Calls Tryd.prog 9 #[.slice A n c] w fun e w' =>
      e = .returned (.tuple #[.bool false, .int .i64 120]) ∧ Below w.heap.size w w' := by
  have hn := hr.1
  have hnc := hr.2.1
  have hcm := hr.2.2.1
  have HN := Lib.hid hn
  have HR := Lib.hid hr
  clear hr hn
  have hfl := field_row0
  have c1 := fun w hr => u32_any A n c false 8 l w hr (by omega)
  have c2 := fun w hr => u32_any A n c true 8 l w hr (by omega)
  simp only [show (8 : Int).toNat = 8 from rfl, hx, hy] at c1 c2
  have C1 := Lib.hid c1
  have C2 := Lib.hid c2
  clear c1 c2 hx hy
  go_enter Tryd.func9, Tryd.ntmps9
  go_wp2_with fail
  refine (put_any none 0 0 false 168627466 4 4 [] _ (Rd.nil _) (by omega) (by omega) (by omega) (by omega) (by omega)).mono ?_
  rintro e w1 ⟨A1, c1, rfl, hb1, ho1⟩
  simp only [List.nil_append, show bytesOf false (Int.toNat 4) (Int.toNat 168627466) = secBytes by decide] at ho1
  have h4c := ho1.rd.2.1
  have h4m := ho1.rd.2.2.1
  have B1 := Lib.hid hb1
  have HR1 := Lib.hid (HR.out.below hb1)
  have hv1 := fun k => conv_str (P := Tryd.prog) ((Rd.cut HR1.out (lo := 0) (hi := 4) (c' := c) (by omega) (by omega) (by omega) (Nat.le_refl _) A (fun _ => by cases A <;> simp [Addr.add])).drewN k) 23 9 Tryd.underlying23 Tryd.underlying5 Tryd.underlying9
  have hv2 := fun k => conv_str (P := Tryd.prog) ((Rd.cut ho1.rd (lo := 0) (hi := 4) (c' := c1) (by omega) (by omega) (by omega) (Nat.le_refl _) A1 (fun _ => by cases A1 <;> simp [Addr.add])).drewN k) 23 9 Tryd.underlying23 Tryd.underlying5 Tryd.underlying9
  simp only [List.drop_zero, Nat.sub_zero] at hv1 hv2
  clear hb1 ho1 HR
  go_wp2_with fail
  go_quiet (fail)
  clear hv1 hv2
  have B2 := Lib.hid (below_drewN B1.out nq)
  have HR2 := Lib.hid (HR1.out.drewN nq)
  clear B1 HR1
  generalize w1.drewN nq = w2 at *
  go_wp2_with fail
  refine wp_loop_rounds 3 ?_
  rw [rounds_succ]
  go_wp2_with fail
  refine (C1.out _ (HR2.out.alloc _)).mono ?_
  rintro e w3 ⟨rfl, hb3⟩
  have B3 := Lib.hid ((B2.out.alloc B2.out.size (.cells #[.bool false, .bool true] 4)).trans (hb3.mono (by have := B2.out.size; simp; omega)))
  have k3 := (Blk.new w2 4 #[.bool false, .bool true]).keep hb3
  have q1 := k3.cell 1
  simp at q1
  have HR3 := Lib.hid ((HR2.out.alloc (.cells #[.bool false, .bool true] 4)).below hb3)
  clear hb3 HR2
  go_wp2_with fail
  rw [rounds_succ]
  go_wp2_with fail
  refine (C2.out _ HR3.out).mono ?_
  rintro e w4 ⟨rfl, hb4⟩
  have B4 := Lib.hid (B3.out.trans (hb4.mono B3.out.size))
  clear hb4 HR3
  go_wp2_with fail
  rw [rounds_succ]
  go_wp2
  go_ret2
  exact ⟨rfl, B4.out⟩


theorem int_eqb (x y : Nat) : ((x : Int) == (y : Int)) = decide (x = y) := by
  rw [Bool.eq_iff_iff]; simp; omega

theorem turn_any (A : Option Addr) (n c : Nat) (l : List UInt8) (w : World) (hr : Rd w A n c l) :
    Calls Tryd.prog 9 #[.slice A n c] w fun e w' =>
      e = .returned (.tuple #[.bool (turnOf l).1, .int .i64 (turnOf l).2]) ∧ Below w.heap.size w w' := by
  have hl := hr.1
  by_cases hm : l.take 4 = secBytes.take n
  · have hbt : n < 12 → turnOf l = (false, 121) := fun h => by unfold turnOf; rw [if_neg (by rw [hl]; simpa using hm), if_pos (by omega)]
    by_cases h12 : n < 12
    · rw [hbt h12]
      rcases Nat.lt_trichotomy n 4 with h | h | h
      · exact turn_short_lt A n c l w hr h (by rw [← hm, List.take_of_length_le (l := l) (by omega), List.take_of_length_le (by omega)]; simp)
      · subst h; exact turn_short_eq A 4 c l w hr rfl (by rw [hm]; simp)
      · exact turn_short_gt A n c l w hr h h12 (by rw [hm, List.take_of_length_le (by simp [secBytes]; omega)]; decide)
    · have hb : (l.take 4 == secBytes.take 4) = true := by rw [hm, List.take_of_length_le (by simp [secBytes]; omega)]; decide
      have hlen : ((l.drop 8).take 4).length = 4 := by simp; omega
      have e0 : ∀ L, numAt L l 8 4 = num L ((l.drop 8).take 4) := fun L => by unfold numAt; rw [if_pos (by omega)]
      have i0 := num_eq_iff false _ 4 439041101 hlen (by decide)
      have i1 := num_eq_iff true _ 4 439041101 hlen (by decide)
      rw [← e0] at i0 i1
      have ht : turnOf l = if (l.drop 8).take 4 = bytesOf false 4 439041101 then (false, 0) else if (l.drop 8).take 4 = bytesOf true 4 439041101 then (true, 0) else (false, 120) := by
        unfold turnOf; rw [if_neg (by rw [hl]; simpa using hm), if_neg (by omega)]
      rw [ht]
      by_cases h0 : numAt false l 8 4 = 439041101
      · rw [if_pos (i0.1 h0)]
        exact turn_big A n c l w hr (by omega) hb _ _ rfl rfl (by rw [h0]; rfl)
      · rw [if_neg (fun h => h0 (i0.2 h))]
        have n0 : ((numAt false l 8 4 : Int) == 439041101) = false := by rw [beq_eq_false_iff_ne]; omega
        by_cases h1 : numAt true l 8 4 = 439041101
        · rw [if_pos (i1.1 h1)]
          exact turn_little A n c l w hr (by omega) hb _ _ rfl rfl n0 (by rw [h1]; rfl)
        · rw [if_neg (fun h => h1 (i1.2 h))]
          exact turn_none A n c l w hr (by omega) hb _ _ rfl rfl n0 (by rw [beq_eq_false_iff_ne]; omega)
  · have hbt : turnOf l = (false, 120) := by unfold turnOf; rw [if_pos (by rw [hl]; simpa using hm)]
    rw [hbt]
    rcases Nat.lt_trichotomy n 4 with h | h | h
    · refine turn_bad_lt A n c l w hr h ?_
      rw [beq_eq_false_iff_ne]
      intro he; apply hm
      rw [← he, List.take_of_length_le (l := l) (by omega), List.take_of_length_le (by omega)]
    · subst h; exact turn_bad_eq A 4 c l w hr rfl (by rw [beq_eq_false_iff_ne]; exact hm)
    · refine turn_bad_gt A n c l w hr h ?_
      rw [beq_eq_false_iff_ne]
      intro he; apply hm
      rw [he, List.take_of_length_le (l := secBytes) (i := n) (by simp [secBytes]; omega)]; decide
end Go.Proofs.YtdlpeljdpnohlaaDoor
