/- addr.Print at an IPv6 address with a run of noughts. -/
import Derived.Test.YtgdnckglfhabnaaDoorAdPlain
import Derived.Deep.RegionHeld3
namespace Go.Proofs.YtgdnckglfhabnaaDoor
open Go.RowKit Go.Shelf

theorem cut8_h (g n : Nat) (z : Int) (h : n ≤ 8) (hz : z = (n : Int)) (W : World) :
    (Instr.sliceAt 53 (.pointer (some ⟨g, 0, none⟩)) none (some (.int .i64 z)) none).run Tryd.prog W = .ok (.slice (some ⟨g, 0, none⟩) n 8) W := by
  have hl : Tryd.prog.arrayLen 53 = 8 := by kernel_rfl
  have he : Tryd.prog.elem 53 = 25 := by kernel_rfl
  have hu : Tryd.prog.underlying 53 = some (.array (Tryd.prog.arrayLen 53) (Tryd.prog.elem 53)) := by rw [hl, he]; exact Tryd.underlying53
  subst hz
  rw [run_sliceAt_array_h W _ _ hu .i64 (n : Int) (by omega) (by rw [hl]; omega), he, Tryd.sizeOf25, hl]
  simp [slicedAt, Result.andThen, Addr.add_lit]
theorem cut8_l (g n : Nat) (z : Int) (h : n ≤ 8) (hz : z = (n : Int)) (W : World) :
    (Instr.sliceAt 53 (.pointer (some ⟨g, 0, none⟩)) (some (.int .i64 z)) none none).run Tryd.prog W = .ok (.slice (some (if 8 = n then ⟨g, 0, none⟩ else ⟨g, n, none⟩)) (8 - n) (8 - n)) W := by
  have hl : Tryd.prog.arrayLen 53 = 8 := by kernel_rfl
  have he : Tryd.prog.elem 53 = 25 := by kernel_rfl
  have hu : Tryd.prog.underlying 53 = some (.array (Tryd.prog.arrayLen 53) (Tryd.prog.elem 53)) := by rw [hl, he]; exact Tryd.underlying53
  subst hz
  rw [run_sliceAt_array_l W _ _ hu .i64 (n : Int) (by omega) (by rw [hl]; omega), he, Tryd.sizeOf25, hl]
  simp [slicedAt, Result.andThen, Addr.add_lit]
theorem row_ahead (gs : List Nat) (hu : gs.length = 8) (hx : ∀ x ∈ gs, x < 65536) (n : Nat) (hn : n ≤ 8) (W : World) (e : Env W) (g : Nat) (k : Blk W g 53 (uv gs).toArray) :
    Calls Tryd.prog 23 #[.slice (some ⟨g, 0, none⟩) n 8] W fun e w' => e = .returned (.string ⟨(hexes (gs.take n)).toArray⟩) ∧ Below W.heap.size W w' :=
  row_any (some ⟨g, 0, none⟩) n 8 (gs.take n) W e (fun x h => hx x (List.mem_of_mem_take h))
    ⟨by simp [hu]; omega, hn, by omega, fun _ => ⟨g, 0, rfl, fun j hj => by
      rw [k.cell (0 + j), Nat.zero_add, List.getElem?_toArray, uv, List.getElem?_map, List.getElem?_map, List.getElem?_take, if_pos hj]⟩⟩ (by omega) (row_len _ (by rw [List.length_take]; omega))
theorem row_behind (gs : List Nat) (hu : gs.length = 8) (hx : ∀ x ∈ gs, x < 65536) (n : Nat) (hn : n ≤ 8) (W : World) (e : Env W) (g : Nat) (k : Blk W g 53 (uv gs).toArray) :
    Calls Tryd.prog 23 #[.slice (some (if 8 = n then ⟨g, 0, none⟩ else ⟨g, n, none⟩)) (8 - n) (8 - n)] W fun e w' => e = .returned (.string ⟨(hexes (gs.drop n)).toArray⟩) ∧ Below W.heap.size W w' :=
  row_any _ (8 - n) (8 - n) (gs.drop n) W e (fun x h => hx x (List.mem_of_mem_drop h))
    ⟨by simp [hu], Nat.le_refl _, by omega, fun h0 => ⟨g, n, by rw [if_neg (by omega)], fun j hj => by
      rw [k.cell (n + j), List.getElem?_toArray, uv, List.getElem?_map, List.getElem?_map, List.getElem?_drop]⟩⟩ (by omega) (row_len _ (by rw [List.length_drop]; omega))

set_option maxRecDepth 100000 in
set_option maxHeartbeats 4000000 in
theorem print_run (l : List UInt8) (hl : l.length = 16) (hr : 2 ≤ (runF (unflat l) 8).2) (w : World) (env : Env w) :
    Calls Tryd.prog 8 #[.agg (adC true l)] w fun e w' => e = .returned (.tuple #[.string ⟨(hexes ((unflat l).take (runF (unflat l) 8).1) ++ [58, 58] ++ hexes ((unflat l).drop ((runF (unflat l) 8).1 + (runF (unflat l) 8).2))).toArray⟩, .int .i64 0]) ∧ Below w.heap.size w w' := by
  have K := Lib.hid (Blk.new w 24 (adC true l))
  have B := Lib.hid ((Below.refl _ w).alloc (Nat.le_refl _) (.cells (adC true l) 24))
  have HM := Lib.hid (fun W => may_any true l hl W)
  rw [show mayB true l = true from rfl] at HM
  have E := Lib.hid env
  have hul := unflat_len l 8 hl
  have H8 := Lib.hid (fun W => eight_any true l hl W)
  have HRu := Lib.hid (fun W => run_any (unflat l) hul W)
  have hs := Lib.hid (show (Tryd.prog.info? 24).map (·.size) = some (adC true l).size by rw [adC_size _ _ hl]; exact adSize)
  have Q0 := Lib.hid (show (adC true l)[0]? = some (.bool true) from rfl)
  obtain ⟨cs, hcs⟩ : ∃ cs, cs = adC true l := ⟨_, rfl⟩
  rw [← hcs] at K B HM hs Q0 H8 ⊢
  have hroom := (runF_room _ hul 8 (by omega)).1
  have hult := unflat_lt l
  generalize runF (unflat l) 8 = r at *
  have hz8 := Lib.hid (show (Tryd.prog.info? 53).map (·.size) = some (uv (unflat l)).toArray.size by rw [List.size_toArray, uv_len, hul]; kernel_rfl)
  have HZ := Lib.hid (show z8.toArray.size = (uv (unflat l)).toArray.size by rw [List.size_toArray, List.size_toArray, uv_len, hul]; rfl)
  have H1 := Lib.hid (show (uv (unflat l)).toArray.toList.all (·.oneCell') = true from List.all_eq_true.2 (uv_one _))
  generalize unflat l = gs at *
  have hri : ¬ (r.2 : Int) < 2 := by omega
  have hw : IntKind.i64.wrap ((r.1 : Int) + (r.2 : Int)) = (r.1 : Int) + (r.2 : Int) := by rw [IntKind.wrap_i64]; omega
  have HA := Lib.hid (fun W (e : Env W) g k => row_ahead gs hul hult r.1 (by omega) W e g k)
  have HB := Lib.hid (fun W (e : Env W) g k => row_behind gs hul hult (r.1 + r.2) hroom W e g k)
  have hc1 := fun g W => cut8_h g r.1 r.1 (by omega) rfl W
  have hc2 := fun g W => cut8_l g (r.1 + r.2) ((r.1 : Int) + (r.2 : Int)) hroom (by omega) W
  have hla : (hexes (gs.take r.1)).length ≤ 140737488355328 := row_len _ (by rw [List.length_take]; omega)
  have hlb : (hexes (gs.drop (r.1 + r.2))).length ≤ 140737488355328 := row_len _ (by rw [List.length_drop]; omega)
  have hs1 : ¬ 9223372036854775807 < (hexes (gs.take r.1)).length + 2 := by omega
  have hs2 : ¬ 9223372036854775807 < (hexes (gs.take r.1)).length + 2 + (hexes (gs.drop (r.1 + r.2))).length := by omega
  have HS1 := Lib.hid hs1
  have HS2 := Lib.hid hs2
  have ha1 : (⟨(hexes (gs.take r.1)).toArray⟩ : ByteArray) ++ ⟨#[58, 58]⟩ = ⟨(hexes (gs.take r.1) ++ [58, 58]).toArray⟩ := ByteArray.mk_append_mk _ [58, 58]
  have ha2 : (⟨(hexes (gs.take r.1) ++ [58, 58]).toArray⟩ : ByteArray) ++ ⟨(hexes (gs.drop (r.1 + r.2))).toArray⟩ = ⟨(hexes (gs.take r.1) ++ [58, 58] ++ hexes (gs.drop (r.1 + r.2))).toArray⟩ := ByteArray.mk_append_mk _ _
  clear hult hroom hla hlb hs1 hs2
  clear hcs env hl hr hul
  go_enter Tryd.func8, Tryd.ntmps8
  go_wp2_with (refine wpList_load_blk 24 (.tmp 1) w.heap.size 24 cs _ K.out (by rfl) (by rfl) Tryd.underlying24 rfl hs.out (by rfl) ?_)
  refine (HM.out _).mono ?_
  rintro e w2 ⟨rfl, b⟩
  have B2 := Lib.hid (B.out.trans (b.mono B.out.size))
  have K2 := Lib.hid (K.out.keep b)
  have q : w2.cell? ⟨w.heap.size, 0, none⟩ = some (.bool true) := by rw [K2.out.cell 0]; exact Q0.out
  clear b K B
  go_wp2_with (refine wpList_load_blk 24 (.tmp 1) w.heap.size 24 cs _ K2.out (by rfl) (by rfl) Tryd.underlying24 rfl hs.out (by rfl) ?_)
  refine (H8.out _).mono ?_
  rintro e w3 ⟨rfl, b⟩
  have B3 := Lib.hid (B2.out.trans (b.mono B2.out.size))
  clear b K2 B2 q
  go_upto_region 6 with ((with_reducible refine at_store 53 (.tmp 4) (.tmp 19) ?_); refine wpList_store_blk 53 (.tmp 4) (.tmp 19) w3.heap.size 53 z8.toArray (uv gs).toArray (Blk.new w3 53 z8.toArray) (by rfl) (by rfl) (by rfl) (by rfl) hz8.out HZ.out H1.out (by rfl) ?_; intro w4 hk4 hg4 hs4; have K4 := Lib.hid hk4; have B4 := Lib.hid (print_world B3.out B3.out.size hg4); clear hk4 hg4 hs4)
  go_wp2_with (refine wpList_load_blk 53 (.tmp 4) w3.heap.size 53 (uv gs).toArray _ K4.out (by rfl) (by rfl) Tryd.underlying53 rfl hz8.out (by rfl) ?_)
  refine (HRu.out _).mono ?_
  rintro e w5 ⟨rfl, b⟩
  have B5 := Lib.hid (B4.out.trans (b.mono B4.out.size))
  have K5 := Lib.hid (K4.out.keep b)
  clear b K4 B4
  go_upto_region 9 with fail
  refine wp_region_held_drew (S := fun _ => True) (by kernel_rfl) trivial (fun hHeld => ?_)
  refine wpAnyH_take (i := 0) (oi := _) (v := ?_) rfl (by kernel_rfl) (by kernel_rfl) (by kernel_rfl) (fun _ _ _ h => h) (Or.inl ⟨by rfl, ?_⟩) (by assumption) ?_
  case refine_2 => (intro w hSw; go_simp <;> with_reducible rfl)
  try simp only [List.getElem_toArray, List.getElem_cons_zero, List.getElem_cons_succ, Act.put, List.setIfInBounds_toArray, List.set_cons_zero, List.set_cons_succ]
  refine wpAnyH_take (i := 1) (oi := _) (v := ?_) rfl (by kernel_rfl) (by kernel_rfl) (by kernel_rfl) (fun _ _ _ h => h) (Or.inl ⟨by rfl, ?_⟩) (by assumption) ?_
  case refine_2 => (intro w hSw; go_simp <;> with_reducible rfl)
  try simp only [List.getElem_toArray, List.getElem_cons_zero, List.getElem_cons_succ, Act.put, List.setIfInBounds_toArray, List.set_cons_zero, List.set_cons_succ]
  refine wpAnyH_take (i := 4) (oi := _) (v := ?_) rfl (by kernel_rfl) (by kernel_rfl) (by kernel_rfl) (fun _ _ _ h => h) (Or.inl ⟨by rfl, ?_⟩) (by assumption) ?_
  case refine_2 => (intro w hSw; go_simp <;> with_reducible rfl)
  try simp only [List.getElem_toArray, List.getElem_cons_zero, List.getElem_cons_succ, Act.put, List.setIfInBounds_toArray, List.set_cons_zero, List.set_cons_succ]
  refine wpAnyH_take (i := 5) (oi := _) (v := ?_) rfl (by kernel_rfl) (by kernel_rfl) (by kernel_rfl) (fun _ _ _ h => h) (Or.inl ⟨by rfl, ?_⟩) (by assumption) ?_
  case refine_2 => (intro w hSw; go_simp <;> with_reducible rfl)
  try simp only [List.getElem_toArray, List.getElem_cons_zero, List.getElem_cons_succ, Act.put, List.setIfInBounds_toArray, List.set_cons_zero, List.set_cons_succ]
  refine wpAnyH_take (i := 6) (oi := _) (v := ?_) rfl (by kernel_rfl) (by kernel_rfl) (by kernel_rfl) (fun _ _ _ h => h) (Or.inl ⟨by rfl, ?_⟩) (by assumption) ?_
  case refine_2 => (intro w hSw; go_simp <;> with_reducible rfl)
  try simp only [List.getElem_toArray, List.getElem_cons_zero, List.getElem_cons_succ, Act.put, List.setIfInBounds_toArray, List.set_cons_zero, List.set_cons_succ]
  refine wpAnyH_take (i := 7) (oi := _) (v := ?_) rfl (by kernel_rfl) (by kernel_rfl) (by kernel_rfl) (fun _ _ _ h => h) (Or.inl ⟨by rfl, ?_⟩) (by assumption) ?_
  case refine_2 => (intro w hSw; go_simp <;> with_reducible rfl)
  try simp only [List.getElem_toArray, List.getElem_cons_zero, List.getElem_cons_succ, Act.put, List.setIfInBounds_toArray, List.set_cons_zero, List.set_cons_succ]
  refine wpAnyH_ready (rs := [2]) (by kernel_rfl) (by simp) ?_
  refine AllReadyH.cons (o := _) rfl (fun K hK => ?_) AllReadyH.nil
  simp only [List.getElem_toArray, List.getElem_cons_zero, List.getElem_cons_succ]
  go_simp
  refine (HA.out _ (E.out.below (below_drew B5.out)) w3.heap.size K5.out.drew).mono ?_
  rintro e w6 ⟨rfl, b⟩
  have B6 := Lib.hid ((below_drew B5.out).trans (b.mono B5.out.size))
  have K6 := Lib.hid (K5.out.drew.keep b)
  clear b
  go_simp
  refine hK.out _ _ trivial (fun hHeld2 => ?_)
  clear hK K hHeld
  have hHeld := hHeld2
  clear hHeld2
  have hs1 := HS1.out
  try simp only [List.getElem_toArray, List.getElem_cons_zero, List.getElem_cons_succ, Act.put, List.setIfInBounds_toArray, List.set_cons_zero, List.set_cons_succ]
  refine wpAnyH_take (i := 3) (oi := _) (v := ?_) rfl (by kernel_rfl) (by kernel_rfl) (by kernel_rfl) (fun _ _ _ h => h) (Or.inl ⟨by rfl, ?_⟩) (by assumption) ?_
  case refine_2 => (intro w hSw; go_simp <;> with_reducible rfl)
  try simp only [List.getElem_toArray, List.getElem_cons_zero, List.getElem_cons_succ, Act.put, List.setIfInBounds_toArray, List.set_cons_zero, List.set_cons_succ]
  refine wpAnyH_ready (rs := [8]) (by kernel_rfl) (by simp) ?_
  refine AllReadyH.cons (o := _) rfl (fun K hK => ?_) AllReadyH.nil
  simp only [List.getElem_toArray, List.getElem_cons_zero, List.getElem_cons_succ]
  go_simp
  refine (HB.out _ (E.out.below B6.out) w3.heap.size K6.out).mono ?_
  rintro e w7 ⟨rfl, b⟩
  have B7 := Lib.hid (B6.out.trans (b.mono B6.out.size))
  clear b
  go_simp
  refine hK.out _ _ trivial (fun hHeld2 => ?_)
  clear hK K hHeld
  have hHeld := hHeld2
  clear hHeld2
  have hs2 := HS2.out
  try simp only [List.getElem_toArray, List.getElem_cons_zero, List.getElem_cons_succ, Act.put, List.setIfInBounds_toArray, List.set_cons_zero, List.set_cons_succ]
  refine wpAnyH_take (i := 9) (oi := _) (v := ?_) rfl (by kernel_rfl) (by kernel_rfl) (by kernel_rfl) (fun _ _ _ h => h) (Or.inl ⟨by rfl, ?_⟩) (by assumption) ?_
  case refine_2 => (intro w hSw; go_simp <;> with_reducible rfl)
  try simp only [List.getElem_toArray, List.getElem_cons_zero, List.getElem_cons_succ, Act.put, List.setIfInBounds_toArray, List.set_cons_zero, List.set_cons_succ]
  refine wpAnyH_take (i := 10) (oi := _) (v := ?_) rfl (by kernel_rfl) (by kernel_rfl) (by kernel_rfl) (fun _ _ _ h => h) (Or.inl ⟨by rfl, ?_⟩) (by assumption) ?_
  case refine_2 => (intro w hSw; go_simp <;> with_reducible rfl)
  try simp only [List.getElem_toArray, List.getElem_cons_zero, List.getElem_cons_succ, Act.put, List.setIfInBounds_toArray, List.set_cons_zero, List.set_cons_succ]
  refine wpAnyH_take (i := 11) (oi := _) (v := ?_) rfl (by kernel_rfl) (by kernel_rfl) (by kernel_rfl) (fun _ _ _ h => h) (Or.inl ⟨by rfl, ?_⟩) (by assumption) ?_
  case refine_2 => (intro w hSw; go_simp <;> with_reducible rfl)
  try simp only [List.getElem_toArray, List.getElem_cons_zero, List.getElem_cons_succ, Act.put, List.setIfInBounds_toArray, List.set_cons_zero, List.set_cons_succ]
  refine wpAnyH_done (by kernel_rfl) ?_ _
  clear hHeld hs1 hs2
  go_wp2_with fail
  all_goals (go_ret2; exact ⟨rfl, B7.out⟩)

/-- addr.Print at every address. -/
def printV (v6 : Bool) (l : List UInt8) : Value := if mayB v6 l then .tuple #[.string ⟨(printT v6 l).toArray⟩, .int .i64 0] else .tuple #[.string ⟨#[]⟩, .int .i64 2]
theorem print_any (v6 : Bool) (l : List UInt8) (hl : l.length = 16) (w : World) (env : Env w) :
    Calls Tryd.prog 8 #[.agg (adC v6 l)] w fun e w' => e = .returned (printV v6 l) ∧ Below w.heap.size w w' := by
  cases v6
  · cases hm : mayB false l
    · rw [printV, hm]
      exact print_no l hl hm w
    · rw [printV, hm]
      exact print_four l hl hm w env
  · rw [printV, show mayB true l = true from rfl]
    by_cases hr : (runF (unflat l) 8).2 < 2
    · rw [if_pos rfl, printT, if_pos rfl, if_pos hr]
      exact print_all l hl hr w env
    · rw [if_pos rfl, printT, if_pos rfl, if_neg hr]
      exact print_run l hl (by omega) w env
end Go.Proofs.YtgdnckglfhabnaaDoor
