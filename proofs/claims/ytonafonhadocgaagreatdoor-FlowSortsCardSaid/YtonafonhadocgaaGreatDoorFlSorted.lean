/- flow.Sorted. -/
import Derived.Test.YtonafonhadocgaaGreatDoorFlComp
namespace Go.Proofs.YtonafonhadocgaaGreatDoor
open Go.RowKit Go.Shelf

set_option maxRecDepth 100000 in
theorem clone_none (w : World) : Calls Tryz.prog 29 #[.slice none 0 0] w fun e w' => e = .returned (.slice none 0 0) ∧ w' = w := by
  have hq : ∀ (w : World) (a : Option Addr) (n c n' c' : Nat), (binOp .eql 50 (.slice a n c) (.slice none n' c')).run Tryz.prog w = .ok (.bool a.isNone) w := fun w a n c n' c' => Lib.run_eql_slice_nil w _ _ a n c n' c' Tryz.underlying50
  go_enter Tryz.func29, Tryz.ntmps29
  go_wp2_with fail
  go_ret
  exact ⟨rfl, rfl⟩
set_option maxRecDepth 100000 in
theorem compact_none (w : World) : Calls Tryz.prog 31 #[.slice none 0 0] w fun e w' => e = .returned (.slice none 0 0) ∧ w' = w := by
  go_enter Tryz.func31, Tryz.ntmps31
  go_wp2_with fail
  go_ret
  exact ⟨rfl, rfl⟩
theorem rsort_len (fs : List Fl) : (rsortL fs).length ≤ fs.length := by
  refine snoc_ind (P := fun fs => (rsortL fs).length ≤ fs.length) (Nat.le_refl _) ?_ fs
  intro l x ih
  rw [rsort_snoc, List.length_append]
  have : (insU x (rsortL l)).length ≤ (rsortL l).length + 1 := by
    unfold insU
    split
    · omega
    · rw [List.length_append, List.length_cons, List.length_take, List.length_drop]
      omega
  simp
  omega

set_option maxRecDepth 100000 in
set_option maxHeartbeats 4000000 in
theorem sorted_any (A : Option Addr) (n c : Nat) (fs : List Fl) (w : World) (hr : RdF w A n c fs) (hok : ∀ f ∈ fs, FlOk f) (hn : n ≤ 1000) :
    Calls Tryz.prog 17 #[.slice A n c] w fun e w' => ∃ A' c', e = .returned (.slice A' (rsortL fs).length c') ∧ RdF w' A' (rsortL fs).length c' (rsortL fs) ∧ Below w.heap.size w w' := by
  cases A with
  | none =>
    obtain ⟨rfl, rfl⟩ := hr.nil_ rfl
    obtain rfl : fs = [] := List.eq_nil_of_length_eq_zero hr.len
    have HS := Lib.hid (AnyF.slices_SortFunc_none (P := Tryz.prog) laysG6 none 0 (.func (.func 28) #[] #[]) w)
    change Hid (Calls Tryz.prog 30 _ _ _) at HS
    have HR := Lib.hid hr
    clear hr hok
    go_enter Tryz.func17, Tryz.ntmps17
    go_wp2_with fail
    refine (clone_none _).mono ?_
    rintro e w2 ⟨rfl, rfl⟩
    go_wp2_with fail
    refine HS.out.mono ?_
    rintro e w3 ⟨rfl, rfl⟩
    go_wp2_with fail
    refine (compact_none _).mono ?_
    rintro e w4 ⟨rfl, rfl⟩
    go_wp2_with fail
    go_ret
    exact ⟨none, 0, rfl, HR.out, Below.refl _ _⟩
  | some ad =>
    have HC := Lib.hid (clone_any ad n c fs w hr hok hn)
    have HL := Lib.hid hr.len
    clear hr
    go_enter Tryz.func17, Tryz.ntmps17
    go_wp2_with fail
    refine HC.out.mono ?_
    rintro e w2 ⟨g, cap, rfl, hrow, b⟩
    have B2 := Lib.hid b
    have HS := Lib.hid (sortfn_any w2 w.heap.size g cap fs hrow (by rw [HL.out]; exact hn))
    rw [HL.out] at HS
    clear hrow b HC
    go_wp2_with fail
    refine HS.out.mono ?_
    rintro e w3 ⟨rfl, fs', hrow, hperm, hsort, b⟩
    have B3 := Lib.hid (B2.out.trans b)
    have hlen : fs'.length = n := hperm.length_eq.trans HL.out
    have HK := Lib.hid (compact_any w3 w.heap.size g cap fs' hrow (by rw [hlen]; exact hn))
    rw [hlen] at HK
    have HE := Lib.hid (comp_rsort (l := fs) (hsort.imp fun h => Int.not_lt.2 h) fun z => hperm.mem_iff)
    rw [HE.out] at HK
    clear hrow hperm hsort b hlen B2 HS
    go_wp2_with fail
    refine HK.out.mono ?_
    rintro e w4 ⟨rfl, hrow, b⟩
    have B4 := Lib.hid (B3.out.trans b)
    have HR := Lib.hid hrow.rd
    clear hrow b B3 HK
    go_wp2_with fail
    go_ret
    exact ⟨_, _, rfl, HR.out, B4.out⟩
end Go.Proofs.YtonafonhadocgaaGreatDoor
