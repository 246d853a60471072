/- text.Ununsigned: the number of a decimal text, as it is printed. -/
import Derived.Test.YtgdnckglfhabnaaDoorAdFmt
import Derived.Lib.AtoiErrMem
import Derived.Lib.ParseIntBCases
namespace Go.Proofs.YtgdnckglfhabnaaDoor
open Go.RowKit Go.Shelf

/-- The number that a text is the digits of. -/
def unum (s : ByteArray) : Option Nat :=
  match Lib.parseUintB 64 s.data.toList with
  | .ok u => if (⟨(dec u).toArray⟩ : ByteArray) = s then some u else none
  | _ => none
def unumV (s : ByteArray) : Value := match unum s with
  | some n => .tuple #[.int .u64 n, .bool true]
  | none => .tuple #[.int .u64 0, .bool false]

theorem str_ne {t s : ByteArray} (h : ¬ t = s) : (t.toList == s.toList) = false := by
  rw [beq_eq_false_iff_ne]
  intro e
  rw [ByteArray.toList_eq, ByteArray.toList_eq] at e
  exact h (by cases t; cases s; simp at e; rw [e])

set_option maxRecDepth 100000 in
set_option maxHeartbeats 2000000 in
theorem ununsigned_any (s : ByteArray) (hs : s.size ≤ 281474976710656) (w : World) (env : Env w) :
    Calls Tryd.prog 37 #[.string s] w fun e w' => e = .returned (unumV s) ∧ Below w.heap.size w w' := by
  have E := Lib.hid env
  cases h : Lib.parseUintB 64 s.data.toList with
  | ok u =>
    have hu : u < 18446744073709551616 := by have := Lib.parseUintB_le h; omega
    have HP := Lib.hid (fun W => Any.strconv_ParseUint_10_at64_ok lays14 s (by omega) u h W)
    have HU := Lib.hid (fun W (e : Env W) => unsigned_any u hu W e)
    by_cases he : (⟨(dec u).toArray⟩ : ByteArray) = s
    · have HV := Lib.hid (show unumV s = .tuple #[.int .u64 u, .bool true] by simp only [unumV, unum, h, if_pos he])
      rw [he] at HU
      clear he h env hs
      go_enter Tryd.func37, Tryd.ntmps37
      go_wp2_with fail
      refine (HP.out _).mono ?_
      rintro e w1 ⟨rfl, hw⟩
      have B1 := Lib.hid (show Below w.heap.size w w1 by rcases hw with hw | hw <;> subst hw <;> first | exact Below.refl _ _ | exact Lib.bytesWorld_below _ _ _)
      clear hw
      go_wp2_with fail
      refine (HU.out _ (E.out.below B1.out)).mono ?_
      rintro e w2 ⟨rfl, b⟩
      have B2 := Lib.hid (B1.out.trans (b.mono B1.out.size))
      clear b
      go_wp2_with fail
      go_ret2
      exact ⟨by rw [HV.out]; rfl, B2.out⟩
    · have HV := Lib.hid (show unumV s = .tuple #[.int .u64 0, .bool false] by simp only [unumV, unum, h, if_neg he])
      have hn := str_ne he
      generalize (⟨(dec u).toArray⟩ : ByteArray) = t at *
      clear he h env hs
      go_enter Tryd.func37, Tryd.ntmps37
      go_wp2_with fail
      refine (HP.out _).mono ?_
      rintro e w1 ⟨rfl, hw⟩
      have B1 := Lib.hid (show Below w.heap.size w w1 by rcases hw with hw | hw <;> subst hw <;> first | exact Below.refl _ _ | exact Lib.bytesWorld_below _ _ _)
      clear hw
      go_wp2_with fail
      refine (HU.out _ (E.out.below B1.out)).mono ?_
      rintro e w2 ⟨rfl, b⟩
      have B2 := Lib.hid (B1.out.trans (b.mono B1.out.size))
      clear b
      go_wp2_with fail
      go_ret2
      exact ⟨by rw [HV.out]; rfl, B2.out⟩
  | range =>
    obtain ⟨tp, p, hv⟩ := env.rng
    have HP := Lib.hid (Any.strconv_ParseUint_10_at64_range_var lays14 s hs h tp p w hv)
    have HV := Lib.hid (show unumV s = .tuple #[.int .u64 0, .bool false] by simp only [unumV, unum, h])
    clear h env hs hv
    go_enter Tryd.func37, Tryd.ntmps37
    go_wp2_with fail
    refine HP.out.mono ?_
    rintro e w1 ⟨N, rfl, _, _, b⟩
    have B1 := Lib.hid b
    clear b
    go_wp2_with fail
    go_ret2
    exact ⟨by rw [HV.out]; rfl, B1.out⟩
  | _ =>
    obtain ⟨tp, p, hv⟩ := env.syn
    have HP := Lib.hid (Any.strconv_ParseUint_10_at64_syntax_var lays14 s hs h tp p w hv)
    have HV := Lib.hid (show unumV s = .tuple #[.int .u64 0, .bool false] by simp only [unumV, unum, h])
    clear h env hs hv
    go_enter Tryd.func37, Tryd.ntmps37
    go_wp2_with fail
    refine HP.out.mono ?_
    rintro e w1 ⟨N, rfl, _, _, b⟩
    have B1 := Lib.hid b
    clear b
    go_wp2_with fail
    go_ret2
    exact ⟨by rw [HV.out]; rfl, B1.out⟩
end Go.Proofs.YtgdnckglfhabnaaDoor
