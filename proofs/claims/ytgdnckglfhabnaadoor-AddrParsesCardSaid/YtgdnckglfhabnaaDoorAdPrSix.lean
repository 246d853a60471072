/- addr.Print at an IPv6 address without a long run of noughts. -/
import Derived.Test.YtgdnckglfhabnaaDoorAdPrint
namespace Go.Proofs.YtgdnckglfhabnaaDoor
open Go.RowKit Go.Shelf

theorem hex_len (n : Nat) : (hex n).length ≤ 4 := by
  unfold hex
  split
  · simp
  · split
    · simp
    · split <;> simp
theorem unflat_lt : ∀ (l : List UInt8), ∀ x ∈ unflat l, x < 65536
  | a :: b :: r, x, h => by
    have ha := a.toNat_lt
    have hb := b.toNat_lt
    rcases List.mem_cons.1 h with rfl | h
    · omega
    · exact unflat_lt r x h
  | [a], x, h => by cases h
  | [], x, h => by cases h
theorem row_len (gs : List Nat) (h : gs.length ≤ 16) : (Lib.join (gs.map hex) [58]).length ≤ 140737488355328 := by
  have := join_len 58 4 (gs.map hex) (fun x hx => by
    obtain ⟨n, _, rfl⟩ := List.mem_map.1 hx
    exact hex_len n)
  rw [List.length_map] at this
  omega
theorem print_world {w w2 w4 : World} {g : Nat} (B : Below g w w2) (hg : g ≤ w2.heap.size) {o : Obj} (G : (w2.alloc o).grownBy w4 (some w2.heap.size)) : Below g w w4 :=
  (B.alloc hg o).grown G (by simp; omega) (fun k e => by cases e; exact hg)

set_option maxRecDepth 100000 in
set_option maxHeartbeats 4000000 in
theorem print_all (l : List UInt8) (hl : l.length = 16) (hr : (runF (unflat l) 8).2 < 2) (w : World) (env : Env w) :
    Calls Tryd.prog 8 #[.agg (adC true l)] w fun e w' => e = .returned (.tuple #[.string ⟨(Lib.join ((unflat l).map hex) [58]).toArray⟩, .int .i64 0]) ∧ Below w.heap.size w w' := by
  have K := Lib.hid (Blk.new w 24 (adC true l))
  have B := Lib.hid ((Below.refl _ w).alloc (Nat.le_refl _) (.cells (adC true l) 24))
  have HM := Lib.hid (fun W => may_any true l hl W)
  rw [show mayB true l = true from rfl] at HM
  have E := Lib.hid env
  have hul := unflat_len l 8 hl
  have H8 := Lib.hid (fun W => eight_any true l hl W)
  have HRu := Lib.hid (fun W => run_any (unflat l) hul W)
  have hs := Lib.hid (show (Tryd.prog.info? 24).map (·.size) = some (adC true l).size by rw [adC_size _ _ hl]; exact adSize)
  have Q0 := Lib.hid (show (adC true l)[0]? = some (.bool true) from rfl)
  have HF := Lib.hid (fun (W : World) (e : Env W) (g : Nat) (k : Blk W g 53 (uv (unflat l)).toArray) => row_any (some ⟨g, 0, none⟩) 8 8 (unflat l) W e (unflat_lt l)
    ⟨by simp [hul], by omega, by omega, fun _ => ⟨g, 0, rfl, fun j hj => by rw [k.cell (0 + j), Nat.zero_add, List.getElem?_toArray]; rfl⟩⟩ (by omega) (row_len _ (by omega)))
  obtain ⟨cs, hcs⟩ : ∃ cs, cs = adC true l := ⟨_, rfl⟩
  rw [← hcs] at K B HM hs Q0 H8 ⊢
  generalize runF (unflat l) 8 = r at *
  have hz8 := Lib.hid (show (Tryd.prog.info? 53).map (·.size) = some (uv (unflat l)).toArray.size by rw [List.size_toArray, uv_len, hul]; kernel_rfl)
  have HZ := Lib.hid (show z8.toArray.size = (uv (unflat l)).toArray.size by rw [List.size_toArray, List.size_toArray, uv_len, hul]; rfl)
  have H1 := Lib.hid (show (uv (unflat l)).toArray.toList.all (·.oneCell') = true from List.all_eq_true.2 (uv_one _))
  generalize unflat l = gs at *
  have hri : (r.2 : Int) < 2 := by omega
  clear hcs env hl hr hul
  go_enter Tryd.func8, Tryd.ntmps8
  go_wp2_with (refine wpList_load_blk 24 (.tmp 1) w.heap.size 24 cs _ K.out (by rfl) (by rfl) Tryd.underlying24 rfl hs.out (by rfl) ?_)
  refine (HM.out _).mono ?_
  rintro e w2 ⟨rfl, b⟩
  have B2 := Lib.hid (B.out.trans (b.mono B.out.size))
  have K2 := Lib.hid (K.out.keep b)
  have q : w2.cell? ⟨w.heap.size, 0, none⟩ = some (.bool true) := by rw [K2.out.cell 0]; exact Q0.out
  clear b K B
  go_wp2_with (refine wpList_load_blk 24 (.tmp 1) w.heap.size 24 cs _ K2.out (by rfl) (by rfl) Tryd.underlying24 rfl hs.out (by rfl) ?_)
  refine (H8.out _).mono ?_
  rintro e w3 ⟨rfl, b⟩
  have B3 := Lib.hid (B2.out.trans (b.mono B2.out.size))
  clear b K2 B2 q
  go_upto_region 6 with ((with_reducible refine at_store 53 (.tmp 4) (.tmp 19) ?_); refine wpList_store_blk 53 (.tmp 4) (.tmp 19) w3.heap.size 53 z8.toArray (uv gs).toArray (Blk.new w3 53 z8.toArray) (by rfl) (by rfl) (by rfl) (by rfl) hz8.out HZ.out H1.out (by rfl) ?_; intro w4 hk4 hg4 hs4; have K4 := Lib.hid hk4; have B4 := Lib.hid (print_world B3.out B3.out.size hg4); clear hk4 hg4 hs4)
  go_wp2_with (refine wpList_load_blk 53 (.tmp 4) w3.heap.size 53 (uv gs).toArray _ K4.out (by rfl) (by rfl) Tryd.underlying53 rfl hz8.out (by rfl) ?_)
  refine (HRu.out _).mono ?_
  rintro e w5 ⟨rfl, b⟩
  have B5 := Lib.hid (B4.out.trans (b.mono B4.out.size))
  have K5 := Lib.hid (K4.out.keep b)
  have HF2 := Lib.hid (HF.out w5 (E.out.below B5.out) w3.heap.size K5.out)
  clear b K4 B4 HF
  go_wp2_with fail
  refine HF2.out.mono ?_
  rintro e w6 ⟨rfl, b⟩
  have B6 := Lib.hid (B5.out.trans (b.mono B5.out.size))
  clear b
  go_wp2_with fail
  go_ret2
  exact ⟨rfl, B6.out⟩
end Go.Proofs.YtgdnckglfhabnaaDoor
