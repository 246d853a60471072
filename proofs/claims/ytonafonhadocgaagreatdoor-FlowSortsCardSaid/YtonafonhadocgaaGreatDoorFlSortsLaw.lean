/- FlowSorts: for every input the law returns true and leaves its arguments as they were; the listed variables hold what the program lays (the card ties that). -/
import Derived.Test.YtonafonhadocgaaGreatDoorFlSortsWalk
import Derived.Test.YtonafonhadocgaaGreatDoorFlOpenF
import Derived.Test.YtonafonhadocgaaGreatDoorQV
import Derived.Test.YtonafonhadocgaaGreatDoorQU
import Derived.Test.YtonafonhadocgaaGreatDoorCards
import Derived.Test.YtonafonhadocgaaGreatDoorTie
import Derived.Handed
import Derived.SevenTiedAt
namespace Go.Proofs.YtonafonhadocgaaGreatDoor
open Go.ChangeShapes Go.WideShapes Go.ChangeAt Go.RowKit
open Go.ChangeMaps (open_string shut_string)

set_option maxRecDepth 100000 in
theorem flowSorts_lifted (os : Os) (started : os.Started) (H : Type) (enc : TypeId × Value → H) :
    ReturnsInHanded {} Tryz.checked os 5 .any (fun w args => (Rows.flowSortsSpec.pre enc Tryz.prog Tryz.f5 Rows.flowSortsRow.domain false w args ∧ laidMetH Tryz.prog Rows.flowSortsRow.laid w) ∧ sizedMet enc Tryz.prog Tryz.f5 (OpenSpec.ofChange Rows.flowSortsSpec) false w args)
      (Rows.flowSortsSpec.post enc Tryz.prog Tryz.f5 false true false false) := by
  refine returnsInHanded_and_shaped (C := Tryz.checked) (X := fun w _ => laidMetH Tryz.prog Rows.flowSortsRow.laid w) (fun _ _ _ hh h => h.of_heap hh) own started (by kernel_rfl) Tryz.func5
    (ChangeSpec.witness_at (enc := enc) (C := Tryz.checked) (os := os) (X := fun w _ => laidMetH Tryz.prog Rows.flowSortsRow.laid w) false (laidWorld os) #[.slice none 0 0] 8 rfl (by kernel_rfl) (by kernel_rfl) (by kernel_rfl) (by kernel_rfl) (by kernel_rfl) (laidWorld_met os _)) ?_
  intro W base args ds gs before hval0 hW hcnd _ hL hsh
  have env : Env W := env_of_laid _ hsh (by
    have h := hL
    rw [Go.MakeChecks.laidMetH_plain _ _ _ (by kernel_rfl)] at h
    exact h)
  have hval : ∀ (j : Nat) t v, Tryz.f5.params[j]? = some t → args[j]? = some v → Value.okWide Tryz.prog W .any base t v := hval0
  have hW' := hW
  obtain ⟨p, q, hA0, hV, rfl, hfz, hnd⟩ := hW
  have hA : DataW.TrodAll enc Tryz.prog W 0 (fun _ => true) true Tryz.f5.params.toList args.toList ds p := hA0
  rw [Tryz.params5] at hA hval
  obtain ⟨v0, vs0, d0, ds0, p0, q0, hargs, rfl, rfl, h0, r0⟩ := trodAll_cons hA
  obtain ⟨rfl, rfl, rfl⟩ := trodAll_nil r0
  obtain rfl : args = #[v0] := by cases args; simp_all
  obtain ⟨rfl, rfl⟩ := trodVars_none hV
  have k0 := h0
  have lt0 : ∀ x ∈ p0, x.block < W.heap.size := by obtain ⟨m, hm⟩ := k0; exact DataW.trod_lt m _ _ _ hm
  obtain ⟨A0, n0, c0, rfl⟩ := okWide_slice Tryz.underlying50 (hval 0 50 v0 rfl rfl)
  obtain ⟨l0, e0, o0, m0⟩ : ∃ l, RdF W A0 n0 c0 l ∧ (∀ k ∈ l, FlOk k) ∧ c0 ≤ 9223372036854775807 := by
    obtain ⟨fuel, hf⟩ := h0
    obtain ⟨A, n, c, l, hv, hr⟩ := flows_of_trod (v := .slice A0 n0 c0) (by simpa [Value.cells] using hf)
    injection hv with h1 h2 h3
    subst h1 h2 h3
    exact ⟨l, hr⟩
  clear hA0 hval0 hval
  refine (sorts_walk A0 n0 c0 l0 W e0 o0 m0 env).mono fun e W' ⟨he, bel⟩ => ?_
  subst he
  exact ⟨_, rfl, _, _, _, [], _, [], hW', trodAll_mk1 (shut_bool Tryz.underlying4 _), (trodAll_cons_mk (Below.trod laidOut (by kernel_rfl) (of_decide_eq_true (by kernel_rfl)) k0 bel lt0) trodAll_mk0), rfl, bel.frame _, fun h => by cases h⟩

theorem flowSorts_over : Rows.FlowSortsSaid :=
  OpenClaim.holds_of_wide 5 Tryz.f5 rfl rfl rfl rfl rfl rfl rfl ⟨rfl, rfl, rfl, rfl, rfl⟩ rfl rfl rfl rfl rfl (by kernel_rfl) Tryz.func5 (by kernel_rfl)
    (of_decide_eq_true (by kernel_rfl)) (by unfold Func.isWrapper; rw [if_neg (of_decide_eq_false (by kernel_rfl))]; exact ⟨rfl, rfl⟩)
    (fun os started H enc _ => flowSorts_lifted os started H enc)

theorem flowSorts_holds : Rows.FlowSortsCardSaid :=
  Claim7.holds_tied_plain_at .later [] [.data, .data, .data, .data, .sentinel, .sentinel, .pinned] true (true, "592ef92ab71acba931e6b457d6df55bbc36f2c379d1d1c391339ef460f6e95fe") true
    flowSorts_over (fun _ h => by cases h) (by kernel_rfl) (fun _ h => by cases h) flowSorts_row_tie rfl ⟨rfl, rfl⟩ (by kernel_rfl) rfl
    (fun f fn hf hfn => by
      obtain rfl : f = 5 := Option.some.inj ((show Tryz.prog.funcNamed "horologe/horologelaw28.FlowSorts" = some 5 by kernel_rfl).symm.trans hf) |>.symm
      obtain rfl : fn = Tryz.f5 := (Option.some.inj (Tryz.func5.symm.trans hfn)).symm
      exact ⟨by kernel_rfl, fun j t ht => by
        rw [Tryz.params5] at ht
        rcases j with _ | j
        · obtain rfl : 50 = t := by simpa using ht
          exact (show Tryz.prog.wantsStandIn 50 = false by kernel_rfl)
        · simp at ht⟩)
    (by kernel_rfl)
end Go.Proofs.YtonafonhadocgaaGreatDoor
