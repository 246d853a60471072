/- Laws and walks that the claim's last text leans on, joined: each part says above itself what it proves. -/
import Derived.Test.YtonafonhadocgaaDoorQA
import Derived.Test.YtonafonhadocgaaDoorQG
import Derived.Laws.BitsAllLaws

/- strconv.FormatUint at base 16, of a number below 65536. -/
namespace Go.Proofs.YtonafonhadocgaaDoor
open Go.RowKit Go.Shelf

set_option maxRecDepth 100000 in
theorem pow2_16 (w : World) : Calls Tryd.prog 93 #[.int .i64 16] w fun e w' => e = .returned (.bool true) ∧ w = w' := by
  go_enter Tryd.func93, Tryd.ntmps93
  go_wp2
  go_ret
  exact ⟨rfl, rfl⟩

set_option maxRecDepth 100000 in
theorem tz64_16 (w : World) (env : Env w) : Calls Tryd.prog 103 #[.int .u64 16] w fun e w' => e = .returned (.int .i64 4) ∧ w = w' := by
  have q := env.bru 15 (by decide)
  simp [Lib.deBruijn64tab] at q
  have key : IntKind.u64.wrap (bits BinOp.and IntKind.u64 16 (IntKind.u64.wrap (-16)) * 285870213051353865) / 288230376151711744 = 15 := by decide +kernel
  clear env
  go_enter Tryd.func103, Tryd.ntmps103
  go_wp2_with (simp only [key])
  go_ret
  exact ⟨rfl, rfl⟩

set_option maxRecDepth 100000 in
theorem tz_16 (w : World) (env : Env w) : Calls Tryd.prog 94 #[.int .u64 16] w fun e w' => e = .returned (.int .i64 4) ∧ w = w' := by
  have H := Lib.hid (tz64_16 w env)
  clear env
  go_enter Tryd.func94, Tryd.ntmps94
  go_wp2_with fail
  refine (H.out).mono ?_
  rintro e w' ⟨rfl, rfl⟩
  go_wp2_with fail
  go_ret
  exact ⟨rfl, rfl⟩

/-- The digits of a number below 16. -/
def hxd (n : Nat) : UInt8 := if n < 10 then UInt8.ofNat (48 + n) else UInt8.ofNat (87 + n)
/-- A number's digits to the base 16. -/
def hex (n : Nat) : List UInt8 :=
  if n < 16 then [hxd n] else if n < 256 then [hxd (n / 16), hxd (n % 16)] else if n < 4096 then [hxd (n / 256), hxd (n / 16 % 16), hxd (n % 16)] else [hxd (n / 4096), hxd (n / 256 % 16), hxd (n / 16 % 16), hxd (n % 16)]

def dgs : ByteArray := ⟨#[48, 49, 50, 51, 52, 53, 54, 55, 56, 57, 97, 98, 99, 100, 101, 102, 103, 104, 105, 106, 107, 108, 109, 110, 111, 112, 113, 114, 115, 116, 117, 118, 119, 120, 121, 122]⟩
theorem dgs_at (n : Nat) (h : n < 16) (hn : n < dgs.size) : dgs[n] = hxd n := by
  obtain rfl | rfl | rfl | rfl | rfl | rfl | rfl | rfl | rfl | rfl | rfl | rfl | rfl | rfl | rfl | rfl : n = 0 ∨ n = 1 ∨ n = 2 ∨ n = 3 ∨ n = 4 ∨ n = 5 ∨ n = 6 ∨ n = 7 ∨ n = 8 ∨ n = 9 ∨ n = 10 ∨ n = 11 ∨ n = 12 ∨ n = 13 ∨ n = 14 ∨ n = 15 := by omega
  all_goals rfl
theorem and15 (n : Nat) (h : n < 18446744073709551616) : bits BinOp.and IntKind.u64 (n : Int) 15 = ((n % 16 : Nat) : Int) := by
  have e := u64_and_nat n 15 h (by omega)
  rw [show n &&& 15 = n % 16 from Nat.and_two_pow_sub_one_eq_mod n 4] at e
  exact e
theorem zsize : Tryd.zeroCells143.size = 65 := by kernel_rfl
theorem rd_tail {w : World} {T : TypeId} {cs : Array Value} {i n : Nat} {l : List UInt8} (hl : l.length = n) (hn : n ≤ 9223372036854775807) (h : ∀ k, k < n → cs[i + k]? = some (.int .u8 ((l[k]?.getD 0).toNat : Int))) :
    Rd (w.alloc (.cells cs T)) (some ⟨w.heap.size, i, none⟩) n n l :=
  ⟨hl, Nat.le_refl _, hn, fun _ => ⟨w.heap.size, i, rfl, fun k hk => by rw [World.cell?_alloc_new]; exact h k hk⟩⟩

set_option maxRecDepth 100000 in
set_option maxHeartbeats 4000000 in

set_option maxRecDepth 100000 in
set_option maxHeartbeats 4000000 in
theorem bits16_1 (u : Nat) (h1 : u < 16) (w : World) (env : Env w) :
    Calls Tryd.prog 79 #[.slice none 0 0, .int .u64 u, .int .i64 16, .bool false, .bool false] w fun e w' => e = .returned (.tuple #[.slice none 0 0, .string ⟨([hxd (u)] : List UInt8).toArray⟩]) ∧ Below w.heap.size w w' := by
  have E := Lib.hid env
  clear env
  go_enter Tryd.func79, Tryd.ntmps79
  go_wp2_with fail
  refine (pow2_16 _).mono ?_
  rintro e w' ⟨rfl, rfl⟩
  go_wp2_with fail
  refine (tz_16 _ (E.out.alloc _)).mono ?_
  rintro e w' ⟨rfl, rfl⟩
  go_wp2_with fail
  refine wp_loop_rounds 1 ?_
  rw [rounds_succ]
  go_wp2_with fail
  rw [conv_str (P := Tryd.prog) (rd_tail (l := [hxd (u)]) (n := 1) rfl (by omega) (fun k hk => ?_)) 57 9 Tryd.underlying57 Tryd.underlying5 Tryd.underlying9]
  rotate_left
  · have d0 := dgs_at (u) (by omega) (by show u < 36; omega)
    unfold dgs at d0
    obtain rfl : k = 0 := by omega
    · simp [d0]
  go_wp2_with fail
  go_ret2
  exact ⟨rfl, (Below.refl _ w).alloc (Nat.le_refl _) _⟩

set_option maxRecDepth 100000 in
set_option maxHeartbeats 4000000 in
theorem bits16_2 (u : Nat) (h0 : 16 ≤ u) (h1 : u < 256) (w : World) (env : Env w) :
    Calls Tryd.prog 79 #[.slice none 0 0, .int .u64 u, .int .i64 16, .bool false, .bool false] w fun e w' => e = .returned (.tuple #[.slice none 0 0, .string ⟨([hxd (u / 16), hxd (u % 16)] : List UInt8).toArray⟩]) ∧ Below w.heap.size w w' := by
  have E := Lib.hid env
  clear env
  have a0 : bits BinOp.and IntKind.u64 (u : Int) 15 = ((u % 16 : Nat) : Int) := and15 u (by omega)
  have b0 : 0 ≤ ((u % 16 : Nat) : Int) ∧ ((u % 16 : Nat) : Int) < 36 := by omega
  go_enter Tryd.func79, Tryd.ntmps79
  go_wp2_with fail
  refine (pow2_16 _).mono ?_
  rintro e w' ⟨rfl, rfl⟩
  go_wp2_with fail
  refine (tz_16 _ (E.out.alloc _)).mono ?_
  rintro e w' ⟨rfl, rfl⟩
  go_wp2_with fail
  refine wp_loop_rounds 2 ?_
  rw [rounds_succ]
  go_wp2_with fail
  rw [rounds_succ]
  go_wp2_with fail
  rw [conv_str (P := Tryd.prog) (rd_tail (l := [hxd (u / 16), hxd (u % 16)]) (n := 2) rfl (by omega) (fun k hk => ?_)) 57 9 Tryd.underlying57 Tryd.underlying5 Tryd.underlying9]
  rotate_left
  · have d0 := dgs_at (u % 16) (by omega) (by show u % 16 < 36; omega)
    unfold dgs at d0
    have d1 := dgs_at (u / 16) (by omega) (by show u / 16 < 36; omega)
    unfold dgs at d1
    obtain rfl | rfl : k = 0 ∨ k = 1 := by omega
    · simp [d1]
    · simp [d0]
  go_wp2_with fail
  go_ret2
  exact ⟨rfl, (Below.refl _ w).alloc (Nat.le_refl _) _⟩

set_option maxRecDepth 100000 in
set_option maxHeartbeats 4000000 in
theorem bits16_3 (u : Nat) (h0 : 256 ≤ u) (h1 : u < 4096) (w : World) (env : Env w) :
    Calls Tryd.prog 79 #[.slice none 0 0, .int .u64 u, .int .i64 16, .bool false, .bool false] w fun e w' => e = .returned (.tuple #[.slice none 0 0, .string ⟨([hxd (u / 256), hxd (u / 16 % 16), hxd (u % 16)] : List UInt8).toArray⟩]) ∧ Below w.heap.size w w' := by
  have E := Lib.hid env
  clear env
  have a0 : bits BinOp.and IntKind.u64 (u : Int) 15 = ((u % 16 : Nat) : Int) := and15 u (by omega)
  have b0 : 0 ≤ ((u % 16 : Nat) : Int) ∧ ((u % 16 : Nat) : Int) < 36 := by omega
  have a1 : bits BinOp.and IntKind.u64 ((u : Int) / 16) 15 = (((u / 16) % 16 : Nat) : Int) := by
    rw [← and15 (u / 16) (by omega)]
    congr 1
  have b1 : 0 ≤ (((u / 16) % 16 : Nat) : Int) ∧ (((u / 16) % 16 : Nat) : Int) < 36 := by omega
  go_enter Tryd.func79, Tryd.ntmps79
  go_wp2_with fail
  refine (pow2_16 _).mono ?_
  rintro e w' ⟨rfl, rfl⟩
  go_wp2_with fail
  refine (tz_16 _ (E.out.alloc _)).mono ?_
  rintro e w' ⟨rfl, rfl⟩
  go_wp2_with fail
  refine wp_loop_rounds 3 ?_
  rw [rounds_succ]
  go_wp2_with fail
  rw [rounds_succ]
  go_wp2_with fail
  rw [rounds_succ]
  go_wp2_with fail
  rw [conv_str (P := Tryd.prog) (rd_tail (l := [hxd (u / 256), hxd (u / 16 % 16), hxd (u % 16)]) (n := 3) rfl (by omega) (fun k hk => ?_)) 57 9 Tryd.underlying57 Tryd.underlying5 Tryd.underlying9]
  rotate_left
  · have d0 := dgs_at (u % 16) (by omega) (by show u % 16 < 36; omega)
    unfold dgs at d0
    have d1 := dgs_at ((u / 16) % 16) (by omega) (by show (u / 16) % 16 < 36; omega)
    unfold dgs at d1
    have d2 := dgs_at (u / 16 / 16) (by omega) (by show u / 16 / 16 < 36; omega)
    unfold dgs at d2
    rw [show hxd (u / 16 / 16) = hxd (u / 256) from congrArg hxd (by omega)] at d2
    obtain rfl | rfl | rfl : k = 0 ∨ k = 1 ∨ k = 2 := by omega
    · simp [d2]
    · simp [d1]
    · simp [d0]
  go_wp2_with fail
  go_ret2
  exact ⟨rfl, (Below.refl _ w).alloc (Nat.le_refl _) _⟩

set_option maxRecDepth 100000 in
set_option maxHeartbeats 4000000 in
theorem bits16_4 (u : Nat) (h0 : 4096 ≤ u) (h1 : u < 65536) (w : World) (env : Env w) :
    Calls Tryd.prog 79 #[.slice none 0 0, .int .u64 u, .int .i64 16, .bool false, .bool false] w fun e w' => e = .returned (.tuple #[.slice none 0 0, .string ⟨([hxd (u / 4096), hxd (u / 256 % 16), hxd (u / 16 % 16), hxd (u % 16)] : List UInt8).toArray⟩]) ∧ Below w.heap.size w w' := by
  have E := Lib.hid env
  clear env
  have a0 : bits BinOp.and IntKind.u64 (u : Int) 15 = ((u % 16 : Nat) : Int) := and15 u (by omega)
  have b0 : 0 ≤ ((u % 16 : Nat) : Int) ∧ ((u % 16 : Nat) : Int) < 36 := by omega
  have a1 : bits BinOp.and IntKind.u64 ((u : Int) / 16) 15 = (((u / 16) % 16 : Nat) : Int) := by
    rw [← and15 (u / 16) (by omega)]
    congr 1
  have b1 : 0 ≤ (((u / 16) % 16 : Nat) : Int) ∧ (((u / 16) % 16 : Nat) : Int) < 36 := by omega
  have a2 : bits BinOp.and IntKind.u64 ((u : Int) / 16 / 16) 15 = (((u / 256) % 16 : Nat) : Int) := by
    rw [← and15 (u / 256) (by omega)]
    congr 1
    omega
  have b2 : 0 ≤ (((u / 256) % 16 : Nat) : Int) ∧ (((u / 256) % 16 : Nat) : Int) < 36 := by omega
  go_enter Tryd.func79, Tryd.ntmps79
  go_wp2_with fail
  refine (pow2_16 _).mono ?_
  rintro e w' ⟨rfl, rfl⟩
  go_wp2_with fail
  refine (tz_16 _ (E.out.alloc _)).mono ?_
  rintro e w' ⟨rfl, rfl⟩
  go_wp2_with fail
  refine wp_loop_rounds 4 ?_
  rw [rounds_succ]
  go_wp2_with fail
  rw [rounds_succ]
  go_wp2_with fail
  rw [rounds_succ]
  go_wp2_with fail
  rw [rounds_succ]
  go_wp2_with fail
  rw [conv_str (P := Tryd.prog) (rd_tail (l := [hxd (u / 4096), hxd (u / 256 % 16), hxd (u / 16 % 16), hxd (u % 16)]) (n := 4) rfl (by omega) (fun k hk => ?_)) 57 9 Tryd.underlying57 Tryd.underlying5 Tryd.underlying9]
  rotate_left
  · have d0 := dgs_at (u % 16) (by omega) (by show u % 16 < 36; omega)
    unfold dgs at d0
    have d1 := dgs_at ((u / 16) % 16) (by omega) (by show (u / 16) % 16 < 36; omega)
    unfold dgs at d1
    have d2 := dgs_at ((u / 256) % 16) (by omega) (by show (u / 256) % 16 < 36; omega)
    unfold dgs at d2
    have d3 := dgs_at (u / 16 / 16 / 16) (by omega) (by show u / 16 / 16 / 16 < 36; omega)
    unfold dgs at d3
    rw [show hxd (u / 16 / 16 / 16) = hxd (u / 4096) from congrArg hxd (by omega)] at d3
    obtain rfl | rfl | rfl | rfl : k = 0 ∨ k = 1 ∨ k = 2 ∨ k = 3 := by omega
    · simp [d3]
    · simp [d2]
    · simp [d1]
    · simp [d0]
  go_wp2_with fail
  go_ret2
  exact ⟨rfl, (Below.refl _ w).alloc (Nat.le_refl _) _⟩

theorem bits16_any (u : Nat) (hu : u < 65536) (w : World) (env : Env w) :
    Calls Tryd.prog 79 #[.slice none 0 0, .int .u64 u, .int .i64 16, .bool false, .bool false] w fun e w' => e = .returned (.tuple #[.slice none 0 0, .string ⟨(hex u).toArray⟩]) ∧ Below w.heap.size w w' := by
  by_cases h1 : u < 16
  · rw [hex, if_pos h1]; exact bits16_1 u h1 w env
  by_cases h2 : u < 256
  · rw [hex, if_neg h1, if_pos h2]; exact bits16_2 u (by omega) h2 w env
  by_cases h3 : u < 4096
  · rw [hex, if_neg h1, if_neg h2, if_pos h3]; exact bits16_3 u (by omega) h3 w env
  · rw [hex, if_neg h1, if_neg h2, if_neg h3]; exact bits16_4 u (by omega) hu w env

set_option maxRecDepth 100000 in
theorem fmt16_any (u : Nat) (hu : u < 65536) (w : World) (env : Env w) :
    Calls Tryd.prog 50 #[.int .u64 u, .int .i64 16] w fun e w' => e = .returned (.string ⟨(hex u).toArray⟩) ∧ Below w.heap.size w w' := by
  have HI : Calls Tryd.prog 62 #[.int .u64 u, .int .i64 16] w fun e w' => e = .returned (.string ⟨(hex u).toArray⟩) ∧ Below w.heap.size w w' := by
    have H := Lib.hid (bits16_any u hu w env)
    clear env
    go_enter Tryd.func62, Tryd.ntmps62
    go_wp2_with fail
    refine (H.out).mono ?_
    rintro e w' ⟨rfl, b⟩
    have B := Lib.hid b
    clear b
    go_wp2_with fail
    go_ret
    exact ⟨rfl, B.out⟩
  have H := Lib.hid HI
  clear env HI
  go_enter Tryd.func50, Tryd.ntmps50
  go_wp2_with fail
  refine (H.out).mono ?_
  rintro e w' ⟨rfl, b⟩
  have B := Lib.hid b
  clear b
  go_wp2_with fail
  go_ret
  exact ⟨rfl, B.out⟩
end Go.Proofs.YtonafonhadocgaaDoor

/- strings.Join of a row of the call's own; addr.four and addr.row. -/
namespace Go.Proofs.YtonafonhadocgaaDoor
open Go.RowKit Go.Shelf

/-- The cells of a row of texts. -/
def sv (l : List (List UInt8)) : List Value := l.map fun x => Value.string ⟨x.toArray⟩
theorem sv_len (l : List (List UInt8)) : (sv l).length = l.length := by simp [sv]
theorem sv_append (l m : List (List UInt8)) : sv (l ++ m) = sv l ++ sv m := by simp [sv]
theorem sv_one (l : List (List UInt8)) : ∀ u ∈ sv l, u.oneCell' = true := by
  intro u hu
  obtain ⟨_, _, rfl⟩ := List.mem_map.1 hu
  rfl
theorem joinExtra : Builder.Extra Tryd.prog lays156_ren := { sizeBuilder := by kernel_rfl, liesBuilder := by kernel_rfl, t5 := Tryd.underlying5, a5 := Tryd.isAgg5, z5 := Tryd.sizeOf5, v5 := Tryd.zeroValue5, infoByte := by kernel_rfl, cellsByte := by kernel_rfl, sizeByte := by kernel_rfl, neB5 := by decide }

/-- strings.Join. -/
theorem join_any (base : Nat) (v : Value) (l : List (List UInt8)) (sep : List UInt8) (w : World) (ho : OwnV 9 w base v (sv l)) (hn : l.length ≤ 16) (hl : (Lib.join l sep).length ≤ 140737488355328) :
    Calls Tryd.prog 60 #[v, .string ⟨sep.toArray⟩] w fun e w' => e = .returned (.string ⟨(Lib.join l sep).toArray⟩) ∧ Below w.heap.size w w' := by
  obtain ⟨A, c, rfl, hr, hA⟩ := ho.form
  have e : (l.map fun x => (⟨x.toArray⟩ : ByteArray)).map (fun x => x.data.toList) = l := by simp [Function.comp_def]
  have e0 : (⟨sep.toArray⟩ : ByteArray).data.toList = sep := rfl
  by_cases h0 : l = []
  · subst h0
    refine (Any.strings_Join_none lays156 joinExtra A c ⟨sep.toArray⟩ w).mono ?_
    rintro e w' ⟨rfl, rfl⟩
    exact ⟨by rfl, Below.refl _ _⟩
  · have hp : 0 < (sv l).length := by rw [sv_len]; exact List.length_pos_iff.2 h0
    obtain ⟨b, off, rfl, hb, hc⟩ := hr.at_ hp
    have := Any.strings_Join lays156 joinExtra b off c (l.map fun x => (⟨x.toArray⟩ : ByteArray)) ⟨sep.toArray⟩ w (fun j x hx => ?_) hb (by simp; omega) (by have := hr.2.1; rw [sv_len] at this; simpa using this) (by rw [e, e0]; exact hl)
    · rw [e, e0, List.length_map] at this
      rw [sv_len]
      exact this
    · have hj : j < l.length := by
        have := (List.getElem?_eq_some_iff.1 hx).1
        simpa using this
      rw [hc j (by rw [sv_len]; exact hj)]
      rw [List.getElem?_map] at hx
      rw [sv, List.getElem?_map]
      cases hj' : l[j]? with
      | none => rw [hj'] at hx; cases hx
      | some y => rw [hj'] at hx; cases hx; rfl

theorem lens_le (m : Nat) : ∀ (l : List (List UInt8)), (∀ x ∈ l, x.length ≤ m) → Lib.lens l ≤ m * l.length
  | [], _ => by simp [Lib.lens]
  | x :: r, h => by
    have h1 := h x (by simp)
    have h2 := lens_le m r fun y hy => h y (by simp [hy])
    have e : Lib.lens (x :: r) = x.length + Lib.lens r := by simp [Lib.lens]
    rw [e, List.length_cons, Nat.mul_add]
    omega
theorem join_len (s : UInt8) (m : Nat) (l : List (List UInt8)) (h : ∀ x ∈ l, x.length ≤ m) : (Lib.join l [s]).length ≤ l.length + m * l.length := by
  cases l with
  | nil => simp [Lib.join_nil]
  | cons x r =>
    have := lens_le m _ h
    rw [Lib.join_length]
    simp only [List.length_cons, List.length_nil] at *
    omega
theorem info_str : (Tryd.prog.info? 9).map (fun i => (i.zero, i.size, i.bytes)) = some (some (.string ⟨#[]⟩), 1, 16) := by kernel_rfl

theorem four_conv (n : Nat) (h : n < 256) : IntKind.u64.wrap (n : Int) = (n : Int) := by
  simp [IntKind.wrap, IntKind.bits, IntKind.signed]
  omega
set_option maxRecDepth 100000 in
set_option maxHeartbeats 4000000 in
theorem four_any (A : Option Addr) (n c : Nat) (xs : List Nat) (w : World) (env : Env w) (hx : ∀ x ∈ xs, x < 256) (hr : RdV w A n c (xs.map fun x : Nat => Value.int .u8 (x : Int))) (hn : n ≤ 16)
    (hlen : (Lib.join (xs.map dec) [46]).length ≤ 140737488355328) :
    Calls Tryd.prog 46 #[.slice A n c] w fun e w' => e = .returned (.string ⟨(Lib.join (xs.map dec) [46]).toArray⟩) ∧ Below w.heap.size w w' := by
  obtain ⟨i0, hi0, hz0, hz1, hz2⟩ := info_parts info_str
  have Hi0 := Lib.hid hi0
  have Hz0 := Lib.hid hz0
  have Hz1 := Lib.hid hz1
  have Hz2 := Lib.hid hz2
  clear hi0 hz0 hz1 hz2
  have E := Lib.hid env
  have HX := Lib.hid hx
  have HL := Lib.hid hlen
  have HR := Lib.hid hr
  have hxn : xs.length = n := by have := hr.1; simpa using this
  have HJ := Lib.hid (fun (base : Nat) v l W ho hm hl => join_any base v l [46] W ho hm hl)
  clear env hx hlen hr
  go_enter Tryd.func46, Tryd.ntmps46
  go_wp2_with fail
  have I0 := Lib.hid (And.intro (Below.refl w.heap.size w) (OwnV.nil (T := 9) w w.heap.size))
  obtain ⟨wr0, hw0⟩ : ∃ wr0, wr0 = w := ⟨_, rfl⟩
  rw [show Below w.heap.size w w ↔ Below w.heap.size w wr0 by rw [hw0], show OwnV 9 w w.heap.size (.slice none 0 0) [] ↔ OwnV 9 wr0 w.heap.size (.slice none 0 0) [] by rw [hw0]] at I0
  go_loopw [3, 8] (fun v i wr => ∃ (k : Nat), k ≤ n ∧ i = .int .i64 k ∧ Hid (Below w.heap.size w wr ∧ OwnV 9 wr w.heap.size v (sv ((xs.take k).map dec)))) (fun _ i _ => n - (intOf i).toNat)
  case atStart => exact ⟨0, by omega, rfl, Lib.hid ⟨Below.refl _ _, OwnV.nil _ _⟩⟩
  case round =>
    clear I0 hw0
    obtain ⟨k, hk, rfl, I⟩ := hrel
    by_cases hlt : k < n
    · obtain ⟨b, off, rfl, hb, hc⟩ := HR.out.at_ (by omega)
      have hkx : k < xs.length := by omega
      have q : wr.cell? ⟨b, off + k, none⟩ = some (.int .u8 (xs[k] : Int)) := by
        have e := hc k hlt
        rw [List.getElem?_map, List.getElem?_eq_getElem hkx] at e
        exact cell_later I.out.1 e
      have HT := Lib.hid (show (xs.take (k + 1)).map dec = (xs.take k).map dec ++ [dec xs[k]] by rw [List.take_add_one, List.getElem?_eq_getElem hkx, List.map_append]; rfl)
      have hxk := HX.out xs[k] (List.getElem_mem _)
      generalize xs[k] = x at *
      have hcv := four_conv x hxk
      have HU := Lib.hid (fun W (e : Env W) => unsigned_any x (by omega) W e)
      clear hc hxk
      go_wp2_with fail
      refine (HU.out _ (E.out.below I.out.1)).mono ?_
      rintro e w2 ⟨rfl, b2⟩
      have I2 := Lib.hid (And.intro (I.out.1.trans (b2.mono I.out.1.size)) (I.out.2.below b2))
      clear I b2 HU q
      go_wp2_with (at_builtin; refine wpList_append_lit w2 (by rfl) (.tmp 12) (.tmp 16) 115 9 (by rfl) w.heap.size i0 _ 16 Tryd.underlying115 Hi0.out Hz0.out Hz1.out Hz2.out rfl _ (sv ((xs.take k).map dec)) (by rfl) I2.out.2 (sv [dec x]) 1 rfl (by rfl) (sv_one _) _ (by rfl) (by rw [sv_len]; simp; omega) (by omega) (by have := I2.out.1.size; omega) ?_; intro v' w5 ho hb5 hg5; have I5 := Lib.hid (And.intro (I2.out.1.trans (((Below.refl _ w2).alloc I2.out.1.size _).trans hb5)) ho); clear ho hb5 hg5)
      go_roundw
      case rel => exact ⟨k + 1, by omega, by go_num, Lib.hid ⟨I5.out.1, by rw [HT.out, sv_append]; exact I5.out.2⟩⟩
      case measure => simp [intOf]; omega
    · obtain rfl : k = n := by omega
      have HT := Lib.hid (show xs.take k = xs from List.take_of_length_le (by omega))
      go_wp2_with fail
      refine (HJ.out w.heap.size _ ((xs.take k).map dec) wr I.out.2 (by simp; omega) (by rw [HT.out]; exact HL.out)).mono ?_
      rintro e w2 ⟨rfl, b2⟩
      have I2 := Lib.hid (I.out.1.trans (b2.mono I.out.1.size))
      rw [HT.out]
      clear b2
      go_wp2_with fail
      go_ret
      exact ⟨rfl, I2.out⟩

theorem row_conv (n : Nat) (h : n < 65536) : IntKind.u64.wrap (n : Int) = (n : Int) := by
  simp [IntKind.wrap, IntKind.bits, IntKind.signed]
  omega
set_option maxRecDepth 100000 in
set_option maxHeartbeats 4000000 in
theorem row_any (A : Option Addr) (n c : Nat) (xs : List Nat) (w : World) (env : Env w) (hx : ∀ x ∈ xs, x < 65536) (hr : RdV w A n c (xs.map fun x : Nat => Value.int .u16 (x : Int))) (hn : n ≤ 16)
    (hlen : (Lib.join (xs.map hex) [58]).length ≤ 140737488355328) :
    Calls Tryd.prog 49 #[.slice A n c] w fun e w' => e = .returned (.string ⟨(Lib.join (xs.map hex) [58]).toArray⟩) ∧ Below w.heap.size w w' := by
  obtain ⟨i0, hi0, hz0, hz1, hz2⟩ := info_parts info_str
  have Hi0 := Lib.hid hi0
  have Hz0 := Lib.hid hz0
  have Hz1 := Lib.hid hz1
  have Hz2 := Lib.hid hz2
  clear hi0 hz0 hz1 hz2
  have E := Lib.hid env
  have HX := Lib.hid hx
  have HL := Lib.hid hlen
  have HR := Lib.hid hr
  have hxn : xs.length = n := by have := hr.1; simpa using this
  have HJ := Lib.hid (fun (base : Nat) v l W ho hm hl => join_any base v l [58] W ho hm hl)
  clear env hx hlen hr
  go_enter Tryd.func49, Tryd.ntmps49
  go_wp2_with fail
  have I0 := Lib.hid (And.intro (Below.refl w.heap.size w) (OwnV.nil (T := 9) w w.heap.size))
  obtain ⟨wr0, hw0⟩ : ∃ wr0, wr0 = w := ⟨_, rfl⟩
  rw [show Below w.heap.size w w ↔ Below w.heap.size w wr0 by rw [hw0], show OwnV 9 w w.heap.size (.slice none 0 0) [] ↔ OwnV 9 wr0 w.heap.size (.slice none 0 0) [] by rw [hw0]] at I0
  go_loopw [3, 8] (fun v i wr => ∃ (k : Nat), k ≤ n ∧ i = .int .i64 k ∧ Hid (Below w.heap.size w wr ∧ OwnV 9 wr w.heap.size v (sv ((xs.take k).map hex)))) (fun _ i _ => n - (intOf i).toNat)
  case atStart => exact ⟨0, by omega, rfl, Lib.hid ⟨Below.refl _ _, OwnV.nil _ _⟩⟩
  case round =>
    clear I0 hw0
    obtain ⟨k, hk, rfl, I⟩ := hrel
    by_cases hlt : k < n
    · obtain ⟨b, off, rfl, hb, hc⟩ := HR.out.at_ (by omega)
      have hkx : k < xs.length := by omega
      have q : wr.cell? ⟨b, off + k, none⟩ = some (.int .u16 (xs[k] : Int)) := by
        have e := hc k hlt
        rw [List.getElem?_map, List.getElem?_eq_getElem hkx] at e
        exact cell_later I.out.1 e
      have HT := Lib.hid (show (xs.take (k + 1)).map hex = (xs.take k).map hex ++ [hex xs[k]] by rw [List.take_add_one, List.getElem?_eq_getElem hkx, List.map_append]; rfl)
      have hxk := HX.out xs[k] (List.getElem_mem _)
      generalize xs[k] = x at *
      have hcv := row_conv x hxk
      have HU := Lib.hid (fun W (e : Env W) => fmt16_any x hxk W e)
      clear hc hxk
      go_wp2_with fail
      refine (HU.out _ (E.out.below I.out.1)).mono ?_
      rintro e w2 ⟨rfl, b2⟩
      have I2 := Lib.hid (And.intro (I.out.1.trans (b2.mono I.out.1.size)) (I.out.2.below b2))
      clear I b2 HU q
      go_wp2_with (at_builtin; refine wpList_append_lit w2 (by rfl) (.tmp 12) (.tmp 16) 115 9 (by rfl) w.heap.size i0 _ 16 Tryd.underlying115 Hi0.out Hz0.out Hz1.out Hz2.out rfl _ (sv ((xs.take k).map hex)) (by rfl) I2.out.2 (sv [hex x]) 1 rfl (by rfl) (sv_one _) _ (by rfl) (by rw [sv_len]; simp; omega) (by omega) (by have := I2.out.1.size; omega) ?_; intro v' w5 ho hb5 hg5; have I5 := Lib.hid (And.intro (I2.out.1.trans (((Below.refl _ w2).alloc I2.out.1.size _).trans hb5)) ho); clear ho hb5 hg5)
      go_roundw
      case rel => exact ⟨k + 1, by omega, by go_num, Lib.hid ⟨I5.out.1, by rw [HT.out, sv_append]; exact I5.out.2⟩⟩
      case measure => simp [intOf]; omega
    · obtain rfl : k = n := by omega
      have HT := Lib.hid (show xs.take k = xs from List.take_of_length_le (by omega))
      go_wp2_with fail
      refine (HJ.out w.heap.size _ ((xs.take k).map hex) wr I.out.2 (by simp; omega) (by rw [HT.out]; exact HL.out)).mono ?_
      rintro e w2 ⟨rfl, b2⟩
      have I2 := Lib.hid (I.out.1.trans (b2.mono I.out.1.size))
      rw [HT.out]
      clear b2
      go_wp2_with fail
      go_ret
      exact ⟨rfl, I2.out⟩
end Go.Proofs.YtonafonhadocgaaDoor
