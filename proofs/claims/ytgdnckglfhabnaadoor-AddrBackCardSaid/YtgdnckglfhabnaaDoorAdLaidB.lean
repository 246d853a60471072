/- unicode.CaseRanges among the listed variables; a world that lays it. -/
import Derived.Test.YtgdnckglfhabnaaDoorAdUpper
import Derived.Test.YtgdnckglfhabnaaDoorAdLaid
import Derived.Lib.LaidCaseMet
namespace Go.Proofs.YtgdnckglfhabnaaDoor
open Go.ChangeShapes Go.WideShapes Go.ChangeAt Go.RowKit Go.Shelf

abbrev dC : String × DataW Unit := ("unicode.CaseRanges", Rows.laid_unicode_CaseRanges)
theorem caseX : CaseExtra Tryd.prog lays158_ren := ⟨by kernel_rfl, by kernel_rfl, by kernel_rfl, by kernel_rfl, by kernel_rfl, by kernel_rfl⟩
theorem u8X : U8Extra Tryd.prog lays158_ren := ⟨by kernel_rfl, by kernel_rfl, by kernel_rfl, by kernel_rfl, by kernel_rfl, by kernel_rfl, by kernel_rfl⟩
set_option maxRecDepth 100000 in
theorem pin_case : Rows.laid_unicode_CaseRanges = Lib.caseData := by kernel_rfl
set_option maxRecDepth 100000 in
theorem pin_first : Rows.laid_unicode_utf8_first = Lib.firstData := by kernel_rfl
set_option maxRecDepth 100000 in
theorem pin_acc : (Rows.laid_unicode_utf8_acceptRanges : DataW Unit) = Lib.acceptData := by kernel_rfl
theorem envB_of_laid {W : World} (hsh : W.ShapedOpen Tryd.prog) (h : laidMet Tryd.prog [d0, d1, d2, d3, dR, dS, dC, d6] W) : EnvB W := by
  have hc : Lib.VarReads Tryd.prog W "unicode.CaseRanges" Rows.laid_unicode_CaseRanges := Lib.laidMet.reads h (.tail _ (.tail _ (.tail _ (.tail _ (.tail _ (.tail _ (.head _)))))))
  have hf : Lib.VarReads Tryd.prog W "unicode/utf8.first" Rows.laid_unicode_utf8_first := Lib.laidMet.reads h (.tail _ (.tail _ (.tail _ (.tail _ (.tail _ (.tail _ (.tail _ (.head _))))))))
  have ha : Lib.VarReads Tryd.prog W "unicode/utf8.acceptRanges" Rows.laid_unicode_utf8_acceptRanges := Lib.laidMet.reads h (.tail _ (.tail _ (.tail _ (.head _))))
  rw [pin_case] at hc
  rw [pin_first] at hf
  rw [pin_acc] at ha
  exact ⟨env_of_laid [dC, d6] hsh h, caseVar_of_reads { lays158 with } lays158.t206 caseX hc, utf8Tabs_of_readsT (U8Types.of260 { lays158 with }) u8X hf ha⟩

/-! ### A world that meets the condition -/
theorem case_cells_int {v : Value} (h : v ∈ Lib.caseCells5.toList) : ∃ k z, v = .int k z := by
  unfold Lib.caseCells5 at h
  obtain ⟨x, _, hx⟩ := List.mem_flatMap.1 h
  simp only [Lib.cells5, List.mem_cons, List.not_mem_nil, or_false] at hx
  rcases hx with rfl | rfl | rfl | rfl | rfl <;> exact ⟨_, _, rfl⟩
set_option maxRecDepth 100000 in
theorem case_in {W : World} {g R : Nat} {t : TypeId} (hg : g = lays158_ren.g 13) (hgR : g ≠ R) (hvar : W.heap[g]? = some (.cells #[.slice (some ⟨R, 0, none⟩) Lib.caseA.size Lib.caseA.size] (lays158_ren.t 162) (0, 0)))
    (hblk : W.heap[R]? = some (.cells Lib.caseCells5 t (0, 0))) : LaidIn Tryd.prog W [dC] [g, R] := by
  subst hg
  have hT := caseTab_of_block hblk
  have hread := case_slice_reads (L := { lays158 with }) lays158.t206 caseX hT caseA_wf (by rw [Lib.caseA_size]; unfold maxLen; omega) 0
  rw [case_rows_data] at hread
  have hv : W.var? Tryd.prog "unicode.CaseRanges" = some #[.slice (some ⟨R, 0, none⟩) Lib.caseA.size Lib.caseA.size] := by simp [World.var?, caseX.n13, hvar]
  have hnd := rows_nodup [((⟨lays158_ren.g 13, 0, none⟩ : Addr), 1), (⟨R, 0, none⟩, Lib.caseA.size * 5)] (by simp [hgR])
  simp only [List.flatMap_cons, List.flatMap_nil, List.append_nil] at hnd
  refine LaidIn.one [lays158_ren.g 13, R] caseX.n13 caseX.y13 hv (by rw [pin_case]; exact hread) hnd ?_ ?_
  · intro b off hp
    rcases List.mem_append.1 hp with hp | hp
    · obtain ⟨i, hi, e⟩ := MemPlace.mem_row.1 hp
      cases e
      refine ⟨⟨_, _, hvar⟩, fun u v hc => ?_⟩
      rw [Lib.cell_of_heap hvar] at hc
      obtain rfl : i = 0 := by simpa using hi
      simp at hc
    · obtain ⟨i, hi, e⟩ := MemPlace.mem_row.1 hp
      cases e
      refine ⟨⟨_, _, hblk⟩, fun u v hc => ?_⟩
      rw [Lib.cell_of_heap hblk] at hc
      exact absurd (Array.mem_toList_iff.2 (Array.mem_of_getElem? hc)) (fun hm => by obtain ⟨k, z, e⟩ := case_cells_int hm; exact Value.noConfusion e)
  · intro x hx
    rcases List.mem_append.1 hx with hp | hp
    · obtain ⟨i, _, rfl⟩ := MemPlace.mem_row.1 hp
      exact List.mem_cons_self
    · obtain ⟨i, _, rfl⟩ := MemPlace.mem_row.1 hp
      exact List.mem_cons_of_mem _ List.mem_cons_self

/-- The settled world with three blocks more: two errors' texts, the rows of cases. -/
noncomputable def laidWorldB (os : Os) : World :=
  let w0 := World.holding Tryd.prog os ⟨#[.cells #[.string synS] 157, .cells #[.string rngS] 157, .cells Lib.caseCells5 (lays158_ren.t 208)], #[], []⟩
  let put (h : Array Obj) (g : Nat) (cs : Array Value) : Array Obj := h.modify g fun
    | .cells _ t frozen => .cells cs t frozen
    | o => o
  let h1 := put w0.heap 2 (Lib.firstTab.map fun z => Value.int .u8 z).toArray
  let h2 := put h1 3 ((List.range 16).flatMap fun i => [Value.int .u8 (Lib.accLo i), Value.int .u8 (Lib.accHi i)]).toArray
  let h3 := put h2 4 (Lib.pow10Tab.map fun z => Value.int .u64 z).toArray
  let h4 := put h3 8 (Lib.deBruijn64tab.map fun n : Nat => Value.int .u8 (n : Int)).toArray
  let h5 := put h4 7 ([0, 1, 28, 2, 29, 14, 24, 3, 30, 22, 20, 15, 25, 17, 4, 8, 31, 27, 13, 23, 21, 19, 16, 7, 26, 12, 18, 6, 11, 5, 10, 9].map fun z : Int => Value.int .u8 z).toArray
  let h6 := put h5 5 #[.iface 155 (.pointer (some ⟨low, 0, none⟩))]
  let h7 := put h6 6 #[.iface 155 (.pointer (some ⟨low + 1, 0, none⟩))]
  let h8 := put h7 1 #[.slice (some ⟨low + 2, 0, none⟩) 336 336]
  { w0 with heap := h8 }
set_option maxRecDepth 100000 in
theorem laidWorldB_met (os : Os) (args : Array Value) : laidMetH Tryd.prog [d0, d1, d2, d3, dR, dS, dC, d6] ((laidWorldB os).forCall (fun _ _ => 0) ⟨#[], args, []⟩).memory :=
  laidMetH_of_parts (LaidIn.met (LaidIn.append
    (LaidIn.of_run (l := [d0, d1, d2, d3, dR, dS]) [7, 8, 4, 3, 6, 5, low, low + 1] 8 (by kernel_rfl) (by kernel_rfl) (by kernel_rfl) (by kernel_rfl))
    (LaidIn.append (case_in (g := 1) (R := low + 2) (t := lays158_ren.t 208) (by rfl) (of_decide_eq_true (by kernel_rfl)) (by kernel_rfl) (by kernel_rfl))
      (LaidIn.of_run (l := [d6]) [2] 8 (by kernel_rfl) (by kernel_rfl) (by kernel_rfl) (by kernel_rfl)) (by kernel_rfl)) (by kernel_rfl))) (by kernel_rfl)

/-- There is an input that fits, where a variable leads to a block. -/
theorem witness_ref {H : Type} {enc : TypeId × Value → H} {os : Os} {f : FuncId} {fn : Func} {s : ChangeSpec} {conds : List PathCond} {apart : Bool} {X : World → Array Value → Prop} (w0 : World) (args : Array Value) (fuel : Nat) (hos : w0.os = os)
    (hv : (w0.forCall (fun _ _ => 0) ⟨#[], args, []⟩).variablesRefB Tryd.prog = true)
    (hr : ((w0.forCall (fun _ _ => 0) ⟨#[], args, []⟩).heap.toList.drop Tryd.prog.globals.size).take ((begin Tryd.prog (fun _ _ => 0) default).world.heap.size - Tryd.prog.globals.size) = (begin Tryd.prog (fun _ _ => 0) default).world.heap.toList.drop Tryd.prog.globals.size)
    (hok : Input.okWideB Tryd.prog (w0.forCall (fun _ _ => 0) ⟨#[], args, []⟩) f ⟨#[], args, []⟩ = true)
    (hpre : s.preB enc Tryd.prog fn conds apart (w0.forCall (fun _ _ => 0) ⟨#[], args, []⟩).memory args fuel = true)
    (hsz : s.sizedB enc Tryd.prog fn apart (w0.forCall (fun _ _ => 0) ⟨#[], args, []⟩).memory args fuel = true)
    (hx : X (w0.forCall (fun _ _ => 0) ⟨#[], args, []⟩).memory args) :
    ∃ (w : World) (tape : Tape) (i : Input), w.os = os ∧ (w.forCall tape i).Shaped Tryd.prog ∧ i.vars = [] ∧ Input.okWide Tryd.prog (w.forCall tape i) .any w.heap.size f i ∧
      ((s.pre enc Tryd.prog fn conds apart (w.forCall tape i).memory i.args ∧ X (w.forCall tape i).memory i.args) ∧ sizedMet enc Tryd.prog fn (OpenSpec.ofChange s) apart (w.forCall tape i).memory i.args) ∧ ({ modest := false } : Assume).holds Tryd.prog (lone (Frame.enter Tryd.prog f i.args .normal) [] (w.forCall tape i)) := by
  have h1 := Input.okWide_of_okWideB (base := 0) hok
  have h2 : ({ modest := false } : Assume).holds Tryd.prog (lone (Frame.enter Tryd.prog f args .normal) [] (w0.forCall (fun _ _ => 0) ⟨#[], args, []⟩)) := by
    simp only [Assume.holds]
    exact ⟨by simp, by simp, fun _ => Modest.zero, by simp, by simp⟩
  exact ⟨w0, fun _ _ => 0, ⟨#[], args, []⟩, hos, World.shaped_of_RefB hv hr, h1.1, (Input.okWide_of_okWideB hok).2, ⟨⟨ChangeSpec.pre_of_preB hpre, hx⟩, sizedMet_of_sizedB hsz⟩, h2⟩
end Go.Proofs.YtgdnckglfhabnaaDoor
