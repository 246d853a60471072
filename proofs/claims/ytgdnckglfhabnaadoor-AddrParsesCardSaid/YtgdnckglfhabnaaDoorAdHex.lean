/- strconv.FormatUint at base 16, of a number below 65536. -/
import Derived.Test.YtgdnckglfhabnaaDoorAdEnv
import Derived.Test.YtgdnckglfhabnaaDoorApp
import Derived.Laws.BitsAllLaws
namespace Go.Proofs.YtgdnckglfhabnaaDoor
open Go.RowKit Go.Shelf

set_option maxRecDepth 100000 in
theorem pow2_16 (w : World) : Calls Tryd.prog 98 #[.int .i64 16] w fun e w' => e = .returned (.bool true) ∧ w = w' := by
  go_enter Tryd.func98, Tryd.ntmps98
  go_wp2
  go_ret
  exact ⟨rfl, rfl⟩

set_option maxRecDepth 100000 in
theorem tz64_16 (w : World) (env : Env w) : Calls Tryd.prog 108 #[.int .u64 16] w fun e w' => e = .returned (.int .i64 4) ∧ w = w' := by
  have q := env.bru 15 (by decide)
  simp [Lib.deBruijn64tab] at q
  have key : IntKind.u64.wrap (bits BinOp.and IntKind.u64 16 (IntKind.u64.wrap (-16)) * 285870213051353865) / 288230376151711744 = 15 := by decide +kernel
  clear env
  go_enter Tryd.func108, Tryd.ntmps108
  go_wp2_with (simp only [key])
  go_ret
  exact ⟨rfl, rfl⟩

set_option maxRecDepth 100000 in
theorem tz_16 (w : World) (env : Env w) : Calls Tryd.prog 99 #[.int .u64 16] w fun e w' => e = .returned (.int .i64 4) ∧ w = w' := by
  have H := Lib.hid (tz64_16 w env)
  clear env
  go_enter Tryd.func99, Tryd.ntmps99
  go_wp2_with fail
  refine (H.out).mono ?_
  rintro e w' ⟨rfl, rfl⟩
  go_wp2_with fail
  go_ret
  exact ⟨rfl, rfl⟩

/-- The digits of a number below 16. -/
def hxd (n : Nat) : UInt8 := if n < 10 then UInt8.ofNat (48 + n) else UInt8.ofNat (87 + n)
/-- A number's digits to the base 16. -/
def hex (n : Nat) : List UInt8 :=
  if n < 16 then [hxd n] else if n < 256 then [hxd (n / 16), hxd (n % 16)] else if n < 4096 then [hxd (n / 256), hxd (n / 16 % 16), hxd (n % 16)] else [hxd (n / 4096), hxd (n / 256 % 16), hxd (n / 16 % 16), hxd (n % 16)]

def dgs : ByteArray := ⟨#[48, 49, 50, 51, 52, 53, 54, 55, 56, 57, 97, 98, 99, 100, 101, 102, 103, 104, 105, 106, 107, 108, 109, 110, 111, 112, 113, 114, 115, 116, 117, 118, 119, 120, 121, 122]⟩
theorem dgs_at (n : Nat) (h : n < 16) (hn : n < dgs.size) : dgs[n] = hxd n := by
  obtain rfl | rfl | rfl | rfl | rfl | rfl | rfl | rfl | rfl | rfl | rfl | rfl | rfl | rfl | rfl | rfl : n = 0 ∨ n = 1 ∨ n = 2 ∨ n = 3 ∨ n = 4 ∨ n = 5 ∨ n = 6 ∨ n = 7 ∨ n = 8 ∨ n = 9 ∨ n = 10 ∨ n = 11 ∨ n = 12 ∨ n = 13 ∨ n = 14 ∨ n = 15 := by omega
  all_goals rfl
theorem and15 (n : Nat) (h : n < 18446744073709551616) : bits BinOp.and IntKind.u64 (n : Int) 15 = ((n % 16 : Nat) : Int) := by
  have e := u64_and_nat n 15 h (by omega)
  rw [show n &&& 15 = n % 16 from Nat.and_two_pow_sub_one_eq_mod n 4] at e
  exact e
theorem zsize : Tryd.zeroCells142.size = 65 := by kernel_rfl
theorem rd_tail {w : World} {T : TypeId} {cs : Array Value} {i n : Nat} {l : List UInt8} (hl : l.length = n) (hn : n ≤ 9223372036854775807) (h : ∀ k, k < n → cs[i + k]? = some (.int .u8 ((l[k]?.getD 0).toNat : Int))) :
    Rd (w.alloc (.cells cs T)) (some ⟨w.heap.size, i, none⟩) n n l :=
  ⟨hl, Nat.le_refl _, hn, fun _ => ⟨w.heap.size, i, rfl, fun k hk => by rw [World.cell?_alloc_new]; exact h k hk⟩⟩

set_option maxRecDepth 100000 in
set_option maxHeartbeats 4000000 in

set_option maxRecDepth 100000 in
set_option maxHeartbeats 4000000 in
theorem bits16_1 (u : Nat) (h1 : u < 16) (w : World) (env : Env w) :
    Calls Tryd.prog 78 #[.slice none 0 0, .int .u64 u, .int .i64 16, .bool false, .bool false] w fun e w' => e = .returned (.tuple #[.slice none 0 0, .string ⟨([hxd (u)] : List UInt8).toArray⟩]) ∧ Below w.heap.size w w' := by
  have E := Lib.hid env
  clear env
  go_enter Tryd.func78, Tryd.ntmps78
  go_wp2_with fail
  refine (pow2_16 _).mono ?_
  rintro e w' ⟨rfl, rfl⟩
  go_wp2_with fail
  refine (tz_16 _ (E.out.alloc _)).mono ?_
  rintro e w' ⟨rfl, rfl⟩
  go_wp2_with fail
  refine wp_loop_rounds 1 ?_
  rw [rounds_succ]
  go_wp2_with fail
  rw [conv_str (P := Tryd.prog) (rd_tail (l := [hxd (u)]) (n := 1) rfl (by omega) (fun k hk => ?_)) 33 9 Tryd.underlying33 Tryd.underlying5 Tryd.underlying9]
  rotate_left
  · have d0 := dgs_at (u) (by omega) (by show u < 36; omega)
    unfold dgs at d0
    obtain rfl : k = 0 := by omega
    · simp [Array.getElem?_setIfInBounds, zsize, d0]
  go_wp2_with fail
  go_ret2
  exact ⟨rfl, (Below.refl _ w).alloc (Nat.le_refl _) _⟩

set_option maxRecDepth 100000 in
set_option maxHeartbeats 4000000 in
theorem bits16_2 (u : Nat) (h0 : 16 ≤ u) (h1 : u < 256) (w : World) (env : Env w) :
    Calls Tryd.prog 78 #[.slice none 0 0, .int .u64 u, .int .i64 16, .bool false, .bool false] w fun e w' => e = .returned (.tuple #[.slice none 0 0, .string ⟨([hxd (u / 16), hxd (u % 16)] : List UInt8).toArray⟩]) ∧ Below w.heap.size w w' := by
  have E := Lib.hid env
  clear env
  have a0 : bits BinOp.and IntKind.u64 (u : Int) 15 = ((u % 16 : Nat) : Int) := and15 u (by omega)
  have b0 : 0 ≤ ((u % 16 : Nat) : Int) ∧ ((u % 16 : Nat) : Int) < 36 := by omega
  go_enter Tryd.func78, Tryd.ntmps78
  go_wp2_with fail
  refine (pow2_16 _).mono ?_
  rintro e w' ⟨rfl, rfl⟩
  go_wp2_with fail
  refine (tz_16 _ (E.out.alloc _)).mono ?_
  rintro e w' ⟨rfl, rfl⟩
  go_wp2_with fail
  refine wp_loop_rounds 2 ?_
  rw [rounds_succ]
  go_wp2_with fail
  rw [rounds_succ]
  go_wp2_with fail
  rw [conv_str (P := Tryd.prog) (rd_tail (l := [hxd (u / 16), hxd (u % 16)]) (n := 2) rfl (by omega) (fun k hk => ?_)) 33 9 Tryd.underlying33 Tryd.underlying5 Tryd.underlying9]
  rotate_left
  · have d0 := dgs_at (u % 16) (by omega) (by show u % 16 < 36; omega)
    unfold dgs at d0
    have d1 := dgs_at (u / 16) (by omega) (by show u / 16 < 36; omega)
    unfold dgs at d1
    obtain rfl | rfl : k = 0 ∨ k = 1 := by omega
    · simp [Array.getElem?_setIfInBounds, zsize, d1]
    · simp [Array.getElem?_setIfInBounds, zsize, d0]
  go_wp2_with fail
  go_ret2
  exact ⟨rfl, (Below.refl _ w).alloc (Nat.le_refl _) _⟩

set_option maxRecDepth 100000 in
set_option maxHeartbeats 4000000 in
theorem bits16_3 (u : Nat) (h0 : 256 ≤ u) (h1 : u < 4096) (w : World) (env : Env w) :
    Calls Tryd.prog 78 #[.slice none 0 0, .int .u64 u, .int .i64 16, .bool false, .bool false] w fun e w' => e = .returned (.tuple #[.slice none 0 0, .string ⟨([hxd (u / 256), hxd (u / 16 % 16), hxd (u % 16)] : List UInt8).toArray⟩]) ∧ Below w.heap.size w w' := by
  have E := Lib.hid env
  clear env
  have a0 : bits BinOp.and IntKind.u64 (u : Int) 15 = ((u % 16 : Nat) : Int) := and15 u (by omega)
  have b0 : 0 ≤ ((u % 16 : Nat) : Int) ∧ ((u % 16 : Nat) : Int) < 36 := by omega
  have a1 : bits BinOp.and IntKind.u64 ((u : Int) / 16) 15 = (((u / 16) % 16 : Nat) : Int) := by
    rw [← and15 (u / 16) (by omega)]
    congr 1
  have b1 : 0 ≤ (((u / 16) % 16 : Nat) : Int) ∧ (((u / 16) % 16 : Nat) : Int) < 36 := by omega
  go_enter Tryd.func78, Tryd.ntmps78
  go_wp2_with fail
  refine (pow2_16 _).mono ?_
  rintro e w' ⟨rfl, rfl⟩
  go_wp2_with fail
  refine (tz_16 _ (E.out.alloc _)).mono ?_
  rintro e w' ⟨rfl, rfl⟩
  go_wp2_with fail
  refine wp_loop_rounds 3 ?_
  rw [rounds_succ]
  go_wp2_with fail
  rw [rounds_succ]
  go_wp2_with fail
  rw [rounds_succ]
  go_wp2_with fail
  rw [conv_str (P := Tryd.prog) (rd_tail (l := [hxd (u / 256), hxd (u / 16 % 16), hxd (u % 16)]) (n := 3) rfl (by omega) (fun k hk => ?_)) 33 9 Tryd.underlying33 Tryd.underlying5 Tryd.underlying9]
  rotate_left
  · have d0 := dgs_at (u % 16) (by omega) (by show u % 16 < 36; omega)
    unfold dgs at d0
    have d1 := dgs_at ((u / 16) % 16) (by omega) (by show (u / 16) % 16 < 36; omega)
    unfold dgs at d1
    have d2 := dgs_at (u / 16 / 16) (by omega) (by show u / 16 / 16 < 36; omega)
    unfold dgs at d2
    rw [show hxd (u / 16 / 16) = hxd (u / 256) from congrArg hxd (by omega)] at d2
    obtain rfl | rfl | rfl : k = 0 ∨ k = 1 ∨ k = 2 := by omega
    · simp [Array.getElem?_setIfInBounds, zsize, d2]
    · simp [Array.getElem?_setIfInBounds, zsize, d1]
    · simp [Array.getElem?_setIfInBounds, zsize, d0]
  go_wp2_with fail
  go_ret2
  exact ⟨rfl, (Below.refl _ w).alloc (Nat.le_refl _) _⟩

set_option maxRecDepth 100000 in
set_option maxHeartbeats 4000000 in
theorem bits16_4 (u : Nat) (h0 : 4096 ≤ u) (h1 : u < 65536) (w : World) (env : Env w) :
    Calls Tryd.prog 78 #[.slice none 0 0, .int .u64 u, .int .i64 16, .bool false, .bool false] w fun e w' => e = .returned (.tuple #[.slice none 0 0, .string ⟨([hxd (u / 4096), hxd (u / 256 % 16), hxd (u / 16 % 16), hxd (u % 16)] : List UInt8).toArray⟩]) ∧ Below w.heap.size w w' := by
  have E := Lib.hid env
  clear env
  have a0 : bits BinOp.and IntKind.u64 (u : Int) 15 = ((u % 16 : Nat) : Int) := and15 u (by omega)
  have b0 : 0 ≤ ((u % 16 : Nat) : Int) ∧ ((u % 16 : Nat) : Int) < 36 := by omega
  have a1 : bits BinOp.and IntKind.u64 ((u : Int) / 16) 15 = (((u / 16) % 16 : Nat) : Int) := by
    rw [← and15 (u / 16) (by omega)]
    congr 1
  have b1 : 0 ≤ (((u / 16) % 16 : Nat) : Int) ∧ (((u / 16) % 16 : Nat) : Int) < 36 := by omega
  have a2 : bits BinOp.and IntKind.u64 ((u : Int) / 16 / 16) 15 = (((u / 256) % 16 : Nat) : Int) := by
    rw [← and15 (u / 256) (by omega)]
    congr 1
    omega
  have b2 : 0 ≤ (((u / 256) % 16 : Nat) : Int) ∧ (((u / 256) % 16 : Nat) : Int) < 36 := by omega
  go_enter Tryd.func78, Tryd.ntmps78
  go_wp2_with fail
  refine (pow2_16 _).mono ?_
  rintro e w' ⟨rfl, rfl⟩
  go_wp2_with fail
  refine (tz_16 _ (E.out.alloc _)).mono ?_
  rintro e w' ⟨rfl, rfl⟩
  go_wp2_with fail
  refine wp_loop_rounds 4 ?_
  rw [rounds_succ]
  go_wp2_with fail
  rw [rounds_succ]
  go_wp2_with fail
  rw [rounds_succ]
  go_wp2_with fail
  rw [rounds_succ]
  go_wp2_with fail
  rw [conv_str (P := Tryd.prog) (rd_tail (l := [hxd (u / 4096), hxd (u / 256 % 16), hxd (u / 16 % 16), hxd (u % 16)]) (n := 4) rfl (by omega) (fun k hk => ?_)) 33 9 Tryd.underlying33 Tryd.underlying5 Tryd.underlying9]
  rotate_left
  · have d0 := dgs_at (u % 16) (by omega) (by show u % 16 < 36; omega)
    unfold dgs at d0
    have d1 := dgs_at ((u / 16) % 16) (by omega) (by show (u / 16) % 16 < 36; omega)
    unfold dgs at d1
    have d2 := dgs_at ((u / 256) % 16) (by omega) (by show (u / 256) % 16 < 36; omega)
    unfold dgs at d2
    have d3 := dgs_at (u / 16 / 16 / 16) (by omega) (by show u / 16 / 16 / 16 < 36; omega)
    unfold dgs at d3
    rw [show hxd (u / 16 / 16 / 16) = hxd (u / 4096) from congrArg hxd (by omega)] at d3
    obtain rfl | rfl | rfl | rfl : k = 0 ∨ k = 1 ∨ k = 2 ∨ k = 3 := by omega
    · simp [Array.getElem?_setIfInBounds, zsize, d3]
    · simp [Array.getElem?_setIfInBounds, zsize, d2]
    · simp [Array.getElem?_setIfInBounds, zsize, d1]
    · simp [Array.getElem?_setIfInBounds, zsize, d0]
  go_wp2_with fail
  go_ret2
  exact ⟨rfl, (Below.refl _ w).alloc (Nat.le_refl _) _⟩

theorem bits16_any (u : Nat) (hu : u < 65536) (w : World) (env : Env w) :
    Calls Tryd.prog 78 #[.slice none 0 0, .int .u64 u, .int .i64 16, .bool false, .bool false] w fun e w' => e = .returned (.tuple #[.slice none 0 0, .string ⟨(hex u).toArray⟩]) ∧ Below w.heap.size w w' := by
  by_cases h1 : u < 16
  · rw [hex, if_pos h1]; exact bits16_1 u h1 w env
  by_cases h2 : u < 256
  · rw [hex, if_neg h1, if_pos h2]; exact bits16_2 u (by omega) h2 w env
  by_cases h3 : u < 4096
  · rw [hex, if_neg h1, if_neg h2, if_pos h3]; exact bits16_3 u (by omega) h3 w env
  · rw [hex, if_neg h1, if_neg h2, if_neg h3]; exact bits16_4 u (by omega) hu w env

set_option maxRecDepth 100000 in
theorem fmt16_any (u : Nat) (hu : u < 65536) (w : World) (env : Env w) :
    Calls Tryd.prog 47 #[.int .u64 u, .int .i64 16] w fun e w' => e = .returned (.string ⟨(hex u).toArray⟩) ∧ Below w.heap.size w w' := by
  have HI : Calls Tryd.prog 63 #[.int .u64 u, .int .i64 16] w fun e w' => e = .returned (.string ⟨(hex u).toArray⟩) ∧ Below w.heap.size w w' := by
    have H := Lib.hid (bits16_any u hu w env)
    clear env
    go_enter Tryd.func63, Tryd.ntmps63
    go_wp2_with fail
    refine (H.out).mono ?_
    rintro e w' ⟨rfl, b⟩
    have B := Lib.hid b
    clear b
    go_wp2_with fail
    go_ret
    exact ⟨rfl, B.out⟩
  have H := Lib.hid HI
  clear env HI
  go_enter Tryd.func47, Tryd.ntmps47
  go_wp2_with fail
  refine (H.out).mono ?_
  rintro e w' ⟨rfl, b⟩
  have B := Lib.hid b
  clear b
  go_wp2_with fail
  go_ret
  exact ⟨rfl, B.out⟩
end Go.Proofs.YtgdnckglfhabnaaDoor
