/- The reference's Ends. -/
import Derived.Test.YtgdnckglfhabnaaDoorRfPrint6
import Derived.Test.YtgdnckglfhabnaaDoorAdPEnds
namespace Go.Proofs.YtgdnckglfhabnaaDoor
open Go.RowKit Go.Shelf

theorem rprint_any (v6 : Bool) (l : List UInt8) (hl : l.length = 16) (w : World) :
    Calls Tryd.prog 13 #[.agg (adC v6 l)] w fun e w' => e = .returned (.string ⟨(printT v6 l).toArray⟩) ∧ Below w.heap.size w w' := by
  cases v6 with
  | true => exact rprint_six l hl w
  | false => exact rprint_four l hl w

/-- In a region that draws its order: a load of a part of a block may be taken first. -/
theorem yieldsIf_load_part {P : Program} {ops : Array Oper} {o : Oper} {a : Act} {S : World → Prop} (ty : TypeId) (x : Operand) (g i : Nat) (t : TypeId) (all : Array Value) (cs : List Value) (d : TypeDesc) (hS : ∀ w, S w → Blk w g t all) (hp : (all.toList.drop i).take cs.length = cs)
    (ho : o.op = .load ty x) (hx : a.eval x = .pointer (some ⟨g, i, none⟩))
    (hu : P.underlying ty = some d) (hd : d.isRow = true) (hi : (P.info? ty).map (·.size) = some cs.length)
    (hw : Region.wanted o (yielded ops a.tmps) = true) : YieldsIf P ops S o (.agg cs.toArray) a :=
  .inl ⟨hw, fun w hw' => by
    unfold execOp
    simp only [ho, hx, Instr.loadAt, Instr.sureAddr, Sem.run_bind, Sem.run_pure, Result.andThen_ok, run_loadVar_mid w g i ty cs d ((hS w hw').range i cs hp) hu hd hi]⟩

/-- What the region reads. -/
def EHeld (g : Nat) (cs : Array Value) (p : Nat) (w : World) : Prop := Blk w g 32 cs ∧ w.cell? ⟨g, 17, none⟩ = some (.int .u16 (p : Int))
theorem EHeld.keep {g : Nat} {cs : Array Value} {p : Nat} {w w' : World} (h : EHeld g cs p w) (hb : Below w.heap.size w w') : EHeld g cs p w' := ⟨h.1.keep hb, cell_later hb h.2⟩

theorem rends_cat6 (t d : List UInt8) : (⟨#[91]⟩ : ByteArray) ++ ⟨t.toArray⟩ ++ ⟨#[93, 58]⟩ ++ ⟨d.toArray⟩ = ⟨(91 :: (t ++ 93 :: 58 :: d)).toArray⟩ := by
  rw [show (⟨#[91]⟩ : ByteArray) = ⟨([91] : List UInt8).toArray⟩ from rfl, show (⟨#[93, 58]⟩ : ByteArray) = ⟨([93, 58] : List UInt8).toArray⟩ from rfl, ByteArray.mk_append_mk, ByteArray.mk_append_mk, ByteArray.mk_append_mk]
  simp

set_option maxRecDepth 100000 in
set_option maxHeartbeats 8000000 in
theorem rends_any (v6 : Bool) (l : List UInt8) (p : Nat) (hl : l.length = 16) (hp : p < 65536) (w : World) :
    Calls Tryd.prog 14 #[.agg (enC v6 l p)] w fun e w' => e = .returned (.string ⟨(endsT v6 l p).toArray⟩) ∧ Below w.heap.size w w' := by
  have k := Blk.new w 32 (enC v6 l p)
  have B := Lib.hid ((Below.refl _ w).alloc (Nat.le_refl _) (.cells (enC v6 l p) 32))
  have HK := Lib.hid (show EHeld w.heap.size (enC v6 l p) p (w.alloc (.cells (enC v6 l p) 32)) from ⟨k, (k.cell 17).trans (enC_port v6 l p hl)⟩)
  have q0 : (w.alloc (.cells (enC v6 l p) 32)).cell? ⟨w.heap.size, 0, none⟩ = some (.bool v6) := k.cell 0
  clear k
  have HP := Lib.hid (fun W => rprint_any v6 l hl W)
  have HU := Lib.hid (fun W => digits10 p hp W)
  have HA := Lib.hid (enC_ad v6 l p hl)
  have HAI := Lib.hid (show (Tryd.prog.info? 24).map (·.size) = some (adC v6 l).toList.length by rw [adSize, Array.length_toList, adC_size _ _ hl])
  have hT := printT_len v6 l hl
  have hD := dec_len16 p hp
  have hpw : IntKind.i64.wrap (p : Int) = (p : Int) := by rw [IntKind.wrap_i64]; omega
  have HEV := Lib.hid (show endsT v6 l p = (if v6 then 91 :: (printT v6 l ++ [93]) else printT v6 l) ++ 58 :: dec p from rfl)
  generalize enC v6 l p = cs at *
  generalize adC v6 l = ac at *
  generalize printT v6 l = t at *
  generalize dec p = d at *
  generalize endsT v6 l p = ev at *
  clear hl
  have c1 : ¬ 9223372036854775807 < 1 + t.length := by omega
  have c2 : ¬ 9223372036854775807 < 1 + t.length + 2 := by omega
  have c3 : ¬ 9223372036854775807 < 1 + t.length + 2 + d.length := by omega
  have c4 : ¬ 9223372036854775807 < t.length + 1 := by omega
  have c5 : ¬ 9223372036854775807 < t.length + 1 + d.length := by omega
  have C := Lib.hid (And.intro c1 (And.intro c2 (And.intro c3 (And.intro c4 c5))))
  clear hT hD c1 c2 c3 c4 c5 hp
  cases v6 with
  | true =>
    go_enter Tryd.func14, Tryd.ntmps14
    go_upto_region 2 with fail
    clear q0
    refine wp_region_held_drew (S := EHeld w.heap.size cs p) (by kernel_rfl) (⟨HK.out.1, HK.out.2⟩) (fun hHeld => ?_)
    have BB := Lib.hid (below_drew B.out)
    clear B HK
    refine wpAnyH_take (i := 0) (oi := _) (v := ?_) rfl (by kernel_rfl) (by kernel_rfl) (by kernel_rfl) (fun _ _ _ h => h) (Or.inl ⟨by rfl, ?_⟩) (by assumption) ?_
    case refine_2 => (intro w hSw; (try unfold EHeld at hSw); go_simp <;> with_reducible rfl)
    try simp only [List.getElem_toArray, List.getElem_cons_zero, Act.put, List.setIfInBounds_toArray, List.set_cons_zero, List.set_cons_succ]
    refine wpAnyH_take (i := 1) (oi := _) (v := .agg ac.toList.toArray) rfl (by kernel_rfl) (by kernel_rfl) (by kernel_rfl) (fun _ _ _ h => h) (yieldsIf_load_part 24 (.tmp 6) w.heap.size 0 32 cs ac.toList _ (fun w h => h.1) HA.out (by rfl) (by rfl) Tryd.underlying24 rfl HAI.out (by rfl)) (by assumption) ?_
    try simp only [List.getElem_toArray, List.getElem_cons_zero, List.getElem_cons_succ, Act.put, List.setIfInBounds_toArray, List.set_cons_zero, List.set_cons_succ]
    refine wpAnyH_take (i := 5) (oi := _) (v := ?_) rfl (by kernel_rfl) (by kernel_rfl) (by kernel_rfl) (fun _ _ _ h => h) (Or.inl ⟨by rfl, ?_⟩) (by assumption) ?_
    case refine_2 => (intro w hSw; (try unfold EHeld at hSw); go_simp <;> with_reducible rfl)
    try simp only [List.getElem_toArray, List.getElem_cons_zero, List.getElem_cons_succ, Act.put, List.setIfInBounds_toArray, List.set_cons_zero, List.set_cons_succ]
    refine wpAnyH_take (i := 6) (oi := _) (v := ?_) rfl (by kernel_rfl) (by kernel_rfl) (by kernel_rfl) (fun _ _ _ h => h) (Or.inl ⟨by rfl, ?_⟩) (by assumption) ?_
    case refine_2 => (intro w hSw; (try unfold EHeld at hSw); go_simp <;> with_reducible rfl)
    try simp only [List.getElem_toArray, List.getElem_cons_zero, List.getElem_cons_succ, Act.put, List.setIfInBounds_toArray, List.set_cons_zero, List.set_cons_succ]
    refine wpAnyH_take (i := 7) (oi := _) (v := ?_) rfl (by kernel_rfl) (by kernel_rfl) (by kernel_rfl) (fun _ _ _ h => h) (Or.inl ⟨by rfl, ?_⟩) (by assumption) ?_
    case refine_2 => (intro w hSw; (try unfold EHeld at hSw); go_simp <;> with_reducible rfl)
    try simp only [List.getElem_toArray, List.getElem_cons_zero, List.getElem_cons_succ, Act.put, List.setIfInBounds_toArray, List.set_cons_zero, List.set_cons_succ]
    refine wpAnyH_ready (rs := [2]) (by kernel_rfl) (by simp) ?_
    refine AllReadyH.cons (o := _) rfl (fun K hK => ?_) AllReadyH.nil
    simp only [List.getElem_toArray, List.getElem_cons_zero, List.getElem_cons_succ]
    go_simp
    refine (HP.out _).mono ?_
    rintro e wn ⟨rfl, b⟩
    have Bn := Lib.hid (BB.out.trans (b.mono BB.out.size))
    have hH := hHeld.keep b
    clear b BB
    go_simp
    refine hK.out _ _ hH (fun hHeld2 => ?_)
    clear hK K hHeld hH
    have hHeld := hHeld2
    have BB := Bn
    clear hHeld2 Bn
    try simp only [List.getElem_toArray, List.getElem_cons_zero, List.getElem_cons_succ, Act.put, List.setIfInBounds_toArray, List.set_cons_zero, List.set_cons_succ]
    obtain ⟨c1, c2, c3, c4, c5⟩ := C.out
    refine wpAnyH_take (i := 3) (oi := _) (v := ?_) rfl (by kernel_rfl) (by kernel_rfl) (by kernel_rfl) (fun _ _ _ h => h) (Or.inl ⟨by rfl, ?_⟩) (by assumption) ?_
    case refine_2 => (intro w hSw; (try unfold EHeld at hSw); go_simp <;> with_reducible rfl)
    try simp only [List.getElem_toArray, List.getElem_cons_zero, List.getElem_cons_succ, Act.put, List.setIfInBounds_toArray, List.set_cons_zero, List.set_cons_succ]
    refine wpAnyH_take (i := 4) (oi := _) (v := ?_) rfl (by kernel_rfl) (by kernel_rfl) (by kernel_rfl) (fun _ _ _ h => h) (Or.inl ⟨by rfl, ?_⟩) (by assumption) ?_
    case refine_2 => (intro w hSw; (try unfold EHeld at hSw); go_simp <;> with_reducible rfl)
    try simp only [List.getElem_toArray, List.getElem_cons_zero, List.getElem_cons_succ, Act.put, List.setIfInBounds_toArray, List.set_cons_zero, List.set_cons_succ]
    clear c1 c2 c3 c4 c5
    refine wpAnyH_ready (rs := [8]) (by kernel_rfl) (by simp) ?_
    refine AllReadyH.cons (o := _) rfl (fun K hK => ?_) AllReadyH.nil
    simp only [List.getElem_toArray, List.getElem_cons_zero, List.getElem_cons_succ]
    go_simp
    refine (HU.out _).mono ?_
    rintro e wn ⟨rfl, b⟩
    have Bn := Lib.hid (BB.out.trans (b.mono BB.out.size))
    have hH := hHeld.keep b
    clear b BB
    go_simp
    refine hK.out _ _ hH (fun hHeld2 => ?_)
    clear hK K hHeld hH
    have hHeld := hHeld2
    have BB := Bn
    clear hHeld2 Bn
    try simp only [List.getElem_toArray, List.getElem_cons_zero, List.getElem_cons_succ, Act.put, List.setIfInBounds_toArray, List.set_cons_zero, List.set_cons_succ]
    obtain ⟨c1, c2, c3, c4, c5⟩ := C.out
    refine wpAnyH_take (i := 9) (oi := _) (v := ?_) rfl (by kernel_rfl) (by kernel_rfl) (by kernel_rfl) (fun _ _ _ h => h) (Or.inl ⟨by rfl, ?_⟩) (by assumption) ?_
    case refine_2 => (intro w hSw; (try unfold EHeld at hSw); go_simp <;> with_reducible rfl)
    try simp only [List.getElem_toArray, List.getElem_cons_zero, List.getElem_cons_succ, Act.put, List.setIfInBounds_toArray, List.set_cons_zero, List.set_cons_succ]
    clear c1 c2 c3 c4 c5
    refine wpAnyH_take (i := 10) (oi := _) (v := ?_) rfl (by kernel_rfl) (by kernel_rfl) (by kernel_rfl) (fun _ _ _ h => h) (Or.inl ⟨by rfl, ?_⟩) (by assumption) ?_
    case refine_2 => (intro w hSw; (try unfold EHeld at hSw); go_simp <;> with_reducible rfl)
    try simp only [List.getElem_toArray, List.getElem_cons_zero, List.getElem_cons_succ, Act.put, List.setIfInBounds_toArray, List.set_cons_zero, List.set_cons_succ]
    refine wpAnyH_done (by kernel_rfl) ?_ _
    clear hHeld
    go_wp2_with fail
    all_goals (go_ret; exact ⟨congrArg (fun x => Ending.returned (.string x)) (rends_cat6 t d) |>.trans (by rw [HEV.out]; simp), BB.out⟩)
  | false =>
    go_enter Tryd.func14, Tryd.ntmps14
    go_upto_region 3 with fail
    clear q0
    refine wp_region_held_drew (S := EHeld w.heap.size cs p) (by kernel_rfl) (⟨HK.out.1, HK.out.2⟩) (fun hHeld => ?_)
    have BB := Lib.hid (below_drew B.out)
    clear B HK
    refine wpAnyH_take (i := 0) (oi := _) (v := ?_) rfl (by kernel_rfl) (by kernel_rfl) (by kernel_rfl) (fun _ _ _ h => h) (Or.inl ⟨by rfl, ?_⟩) (by assumption) ?_
    case refine_2 => (intro w hSw; (try unfold EHeld at hSw); go_simp <;> with_reducible rfl)
    try simp only [List.getElem_toArray, List.getElem_cons_zero, Act.put, List.setIfInBounds_toArray, List.set_cons_zero, List.set_cons_succ]
    refine wpAnyH_take (i := 1) (oi := _) (v := .agg ac.toList.toArray) rfl (by kernel_rfl) (by kernel_rfl) (by kernel_rfl) (fun _ _ _ h => h) (yieldsIf_load_part 24 (.tmp 16) w.heap.size 0 32 cs ac.toList _ (fun w h => h.1) HA.out (by rfl) (by rfl) Tryd.underlying24 rfl HAI.out (by rfl)) (by assumption) ?_
    try simp only [List.getElem_toArray, List.getElem_cons_zero, List.getElem_cons_succ, Act.put, List.setIfInBounds_toArray, List.set_cons_zero, List.set_cons_succ]
    refine wpAnyH_take (i := 4) (oi := _) (v := ?_) rfl (by kernel_rfl) (by kernel_rfl) (by kernel_rfl) (fun _ _ _ h => h) (Or.inl ⟨by rfl, ?_⟩) (by assumption) ?_
    case refine_2 => (intro w hSw; (try unfold EHeld at hSw); go_simp <;> with_reducible rfl)
    try simp only [List.getElem_toArray, List.getElem_cons_zero, List.getElem_cons_succ, Act.put, List.setIfInBounds_toArray, List.set_cons_zero, List.set_cons_succ]
    refine wpAnyH_take (i := 5) (oi := _) (v := ?_) rfl (by kernel_rfl) (by kernel_rfl) (by kernel_rfl) (fun _ _ _ h => h) (Or.inl ⟨by rfl, ?_⟩) (by assumption) ?_
    case refine_2 => (intro w hSw; (try unfold EHeld at hSw); go_simp <;> with_reducible rfl)
    try simp only [List.getElem_toArray, List.getElem_cons_zero, List.getElem_cons_succ, Act.put, List.setIfInBounds_toArray, List.set_cons_zero, List.set_cons_succ]
    refine wpAnyH_take (i := 6) (oi := _) (v := ?_) rfl (by kernel_rfl) (by kernel_rfl) (by kernel_rfl) (fun _ _ _ h => h) (Or.inl ⟨by rfl, ?_⟩) (by assumption) ?_
    case refine_2 => (intro w hSw; (try unfold EHeld at hSw); go_simp <;> with_reducible rfl)
    try simp only [List.getElem_toArray, List.getElem_cons_zero, List.getElem_cons_succ, Act.put, List.setIfInBounds_toArray, List.set_cons_zero, List.set_cons_succ]
    refine wpAnyH_ready (rs := [2]) (by kernel_rfl) (by simp) ?_
    refine AllReadyH.cons (o := _) rfl (fun K hK => ?_) AllReadyH.nil
    simp only [List.getElem_toArray, List.getElem_cons_zero, List.getElem_cons_succ]
    go_simp
    refine (HP.out _).mono ?_
    rintro e wn ⟨rfl, b⟩
    have Bn := Lib.hid (BB.out.trans (b.mono BB.out.size))
    have hH := hHeld.keep b
    clear b BB
    go_simp
    refine hK.out _ _ hH (fun hHeld2 => ?_)
    clear hK K hHeld hH
    have hHeld := hHeld2
    have BB := Bn
    clear hHeld2 Bn
    try simp only [List.getElem_toArray, List.getElem_cons_zero, List.getElem_cons_succ, Act.put, List.setIfInBounds_toArray, List.set_cons_zero, List.set_cons_succ]
    obtain ⟨c1, c2, c3, c4, c5⟩ := C.out
    refine wpAnyH_take (i := 3) (oi := _) (v := ?_) rfl (by kernel_rfl) (by kernel_rfl) (by kernel_rfl) (fun _ _ _ h => h) (Or.inl ⟨by rfl, ?_⟩) (by assumption) ?_
    case refine_2 => (intro w hSw; (try unfold EHeld at hSw); go_simp <;> with_reducible rfl)
    try simp only [List.getElem_toArray, List.getElem_cons_zero, List.getElem_cons_succ, Act.put, List.setIfInBounds_toArray, List.set_cons_zero, List.set_cons_succ]
    clear c1 c2 c3 c4 c5
    refine wpAnyH_ready (rs := [7]) (by kernel_rfl) (by simp) ?_
    refine AllReadyH.cons (o := _) rfl (fun K hK => ?_) AllReadyH.nil
    simp only [List.getElem_toArray, List.getElem_cons_zero, List.getElem_cons_succ]
    go_simp
    refine (HU.out _).mono ?_
    rintro e wn ⟨rfl, b⟩
    have Bn := Lib.hid (BB.out.trans (b.mono BB.out.size))
    have hH := hHeld.keep b
    clear b BB
    go_simp
    refine hK.out _ _ hH (fun hHeld2 => ?_)
    clear hK K hHeld hH
    have hHeld := hHeld2
    have BB := Bn
    clear hHeld2 Bn
    try simp only [List.getElem_toArray, List.getElem_cons_zero, List.getElem_cons_succ, Act.put, List.setIfInBounds_toArray, List.set_cons_zero, List.set_cons_succ]
    obtain ⟨c1, c2, c3, c4, c5⟩ := C.out
    refine wpAnyH_take (i := 8) (oi := _) (v := ?_) rfl (by kernel_rfl) (by kernel_rfl) (by kernel_rfl) (fun _ _ _ h => h) (Or.inl ⟨by rfl, ?_⟩) (by assumption) ?_
    case refine_2 => (intro w hSw; (try unfold EHeld at hSw); go_simp <;> with_reducible rfl)
    try simp only [List.getElem_toArray, List.getElem_cons_zero, List.getElem_cons_succ, Act.put, List.setIfInBounds_toArray, List.set_cons_zero, List.set_cons_succ]
    clear c1 c2 c3 c4 c5
    refine wpAnyH_take (i := 9) (oi := _) (v := ?_) rfl (by kernel_rfl) (by kernel_rfl) (by kernel_rfl) (fun _ _ _ h => h) (Or.inl ⟨by rfl, ?_⟩) (by assumption) ?_
    case refine_2 => (intro w hSw; (try unfold EHeld at hSw); go_simp <;> with_reducible rfl)
    try simp only [List.getElem_toArray, List.getElem_cons_zero, List.getElem_cons_succ, Act.put, List.setIfInBounds_toArray, List.set_cons_zero, List.set_cons_succ]
    refine wpAnyH_done (by kernel_rfl) ?_ _
    clear hHeld
    go_wp2_with fail
    all_goals (go_ret; exact ⟨congrArg (fun x => Ending.returned (.string x)) (ends_cat4 t d) |>.trans (by rw [HEV.out]; simp), BB.out⟩)
end Go.Proofs.YtgdnckglfhabnaaDoor
