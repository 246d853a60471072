/- horologelaw05.known: the chapter's rows hold. -/
import Derived.Test.YtgdnckglfhabnaaDoorAdPEnds
namespace Go.Proofs.YtgdnckglfhabnaaDoor
open Go.RowKit Go.Shelf

def kb1 : List UInt8 := [32, 1, 13, 184, 0, 0, 0, 0, 0, 1, 0, 0, 0, 0, 0, 1]
theorem kn_parse1 : parseV [50, 48, 48, 49, 58, 100, 98, 56, 58, 48, 58, 48, 58, 49, 58, 48, 58, 48, 58, 49] = .tuple #[.agg (adC true kb1), .int .i64 0] := by
  have h : parseA [50, 48, 48, 49, 58, 100, 98, 56, 58, 48, 58, 48, 58, 49, 58, 48, 58, 48, 58, 49] = some (true, kb1) := by decide +kernel
  rw [parseV, h]
def kb2 : List UInt8 := [0, 0, 0, 0, 0, 0, 0, 0, 0, 0, 255, 255, 1, 2, 3, 4]
theorem kn_parse2 : parseV [58, 58, 102, 102, 102, 102, 58, 49, 46, 50, 46, 51, 46, 52] = .tuple #[.agg (adC true kb2), .int .i64 0] := by
  have h : parseA [58, 58, 102, 102, 102, 102, 58, 49, 46, 50, 46, 51, 46, 52] = some (true, kb2) := by decide +kernel
  rw [parseV, h]
def kb3 : List UInt8 := [0, 0, 0, 0, 0, 0, 0, 0, 0, 0, 0, 0, 0, 0, 0, 1]
theorem kn_parse3 : parseV [58, 58, 49] = .tuple #[.agg (adC true kb3), .int .i64 0] := by
  have h : parseA [58, 58, 49] = some (true, kb3) := by decide +kernel
  rw [parseV, h]
theorem kn_print1 : printV true kb1 = .tuple #[.string ⟨#[50, 48, 48, 49, 58, 100, 98, 56, 58, 58, 49, 58, 48, 58, 48, 58, 49]⟩, .int .i64 0] := by
  have h : printT true kb1 = [50, 48, 48, 49, 58, 100, 98, 56, 58, 58, 49, 58, 48, 58, 48, 58, 49] := by decide +kernel
  rw [printV, h]
  rfl
theorem kn_print2 : printV true kb2 = .tuple #[.string ⟨#[58, 58, 102, 102, 102, 102, 58, 49, 48, 50, 58, 51, 48, 52]⟩, .int .i64 0] := by
  have h : printT true kb2 = [58, 58, 102, 102, 102, 102, 58, 49, 48, 50, 58, 51, 48, 52] := by decide +kernel
  rw [printV, h]
  rfl
theorem kn_ends : endsV true kb3 123 = .tuple #[.string ⟨#[91, 58, 58, 49, 93, 58, 49, 50, 51]⟩, .int .i64 0] := by
  have h : endsT true kb3 123 = [91, 58, 58, 49, 93, 58, 49, 50, 51] := by decide +kernel
  rw [endsV, h]
  rfl
def knBad : List (List UInt8) := [[49, 46, 50, 46, 51], [49, 58, 58, 50, 58, 58, 51], [48, 49, 46, 50, 46, 51, 46, 52], [49, 58, 50, 58, 51, 58, 52, 58, 53, 58, 54, 58, 55, 58, 56, 58, 58], [], [58], [49, 58, 50], [58, 58, 58]]
theorem kn_bad : ∀ s ∈ knBad, parseA s = none := by decide +kernel
theorem kn_badV (k : Nat) (h : k < 8) : parseV ((knBad[k]?).getD []) = .tuple #[.agg (adC false z16), .int .i64 9] := by
  have h8 : k < knBad.length := h
  have hm : knBad[k] ∈ knBad := List.getElem_mem h8
  rw [List.getElem?_eq_getElem h8, Option.getD_some, parseV, kn_bad _ hm]
theorem kn_len (k : Nat) (h : k < 8) : ((knBad[k]?).getD []).length < 4294967281 := by
  have : ∀ s ∈ knBad, s.length < 4294967281 := by decide
  have h8 : k < knBad.length := h
  rw [List.getElem?_eq_getElem h8, Option.getD_some]
  exact this _ (List.getElem_mem h8)
def knC : Array Value := (knBad.map fun s => Value.string ⟨s.toArray⟩).toArray
theorem kn_cell (k : Nat) (h : k < 8) : knC[k]? = some (.string ⟨((knBad[k]?).getD []).toArray⟩) := by
  have h8 : k < knBad.length := h
  rw [knC, List.getElem?_toArray, List.getElem?_map, List.getElem?_eq_getElem h8]
  rfl
def kz : List UInt8 := [0, 0, 0, 0, 0, 0, 0, 0, 0, 0, 0, 0, 0, 0, 0, 1]

set_option maxRecDepth 100000 in
set_option maxHeartbeats 8000000 in
theorem known_any (w : World) (env : Env w) :
    Calls Tryd.prog 7 #[] w fun e w' => e = .returned (.bool true) ∧ Below w.heap.size w w' := by
  have E := Lib.hid env
  clear env
  have B0 := Lib.hid (Below.refl w.heap.size w)
  have HSA := Lib.hid (fun v (l : List UInt8) (h : l.length = 16) => (show (Tryd.prog.info? 24).map (·.size) = some (adC v l).size by rw [adC_size _ _ h]; exact adSize))
  have HSZ := Lib.hid (fun v (l : List UInt8) (h : l.length = 16) => (show (adC false z16).size = (adC v l).size by rw [adC_size _ _ h]; rfl))
  go_enter Tryd.func7, Tryd.ntmps7
  go_wp2_with fail
  refine (parse_any ⟨#[50, 48, 48, 49, 58, 100, 98, 56, 58, 48, 58, 48, 58, 49, 58, 48, 58, 48, 58, 49]⟩ (by decide) _ (E.out.below B0.out)).mono ?_
  rintro e w2 ⟨rfl, b⟩
  rw [show (⟨#[50, 48, 48, 49, 58, 100, 98, 56, 58, 48, 58, 48, 58, 49, 58, 48, 58, 48, 58, 49]⟩ : ByteArray).data.toList = [50, 48, 48, 49, 58, 100, 98, 56, 58, 48, 58, 48, 58, 49, 58, 48, 58, 48, 58, 49] from rfl, kn_parse1]
  have Bw2 := Lib.hid (B0.out.trans (b.mono B0.out.size))
  clear b
  go_upto_region 2 with ((with_reducible refine at_store 24 (.tmp 1) (.tmp 19) ?_); refine wpList_store_blk 24 (.tmp 1) (.tmp 19) w2.heap.size 24 (adC false z16) (adC true kb1) (Blk.new w2 24 (adC false z16)) (by rfl) (by rfl) (by rfl) (by rfl) (HSA.out _ kb1 (by rfl)) (HSZ.out _ kb1 (by rfl)) (adC_one _ _) (by rfl) ?_; intro w3 hk hg hs; have Kw3 := Lib.hid hk; have Bw3 := Lib.hid (print_world Bw2.out Bw2.out.size hg); clear hk hg hs)
  go_wp2_with (refine wpList_load_blk 24 (.tmp 1) w2.heap.size 24 (adC true kb1) _ Kw3.out (by rfl) (by rfl) Tryd.underlying24 rfl (HSA.out _ kb1 (by rfl)) (by rfl) ?_)
  refine (print_any true kb1 (by rfl) _ (E.out.below Bw3.out)).mono ?_
  rintro e w4 ⟨rfl, b⟩
  rw [kn_print1]
  have Bw4 := Lib.hid (Bw3.out.trans (b.mono Bw3.out.size))
  clear b Bw2 Kw3
  go_wp2_with fail
  refine (parse_any ⟨#[58, 58, 102, 102, 102, 102, 58, 49, 46, 50, 46, 51, 46, 52]⟩ (by decide) _ (E.out.below Bw4.out)).mono ?_
  rintro e w5 ⟨rfl, b⟩
  rw [show (⟨#[58, 58, 102, 102, 102, 102, 58, 49, 46, 50, 46, 51, 46, 52]⟩ : ByteArray).data.toList = [58, 58, 102, 102, 102, 102, 58, 49, 46, 50, 46, 51, 46, 52] from rfl, kn_parse2]
  have Bw5 := Lib.hid (Bw4.out.trans (b.mono Bw4.out.size))
  clear b
  go_upto_region 4 with ((with_reducible refine at_store 24 (.tmp 5) (.tmp 28) ?_); refine wpList_store_blk 24 (.tmp 5) (.tmp 28) w5.heap.size 24 (adC false z16) (adC true kb2) (Blk.new w5 24 (adC false z16)) (by rfl) (by rfl) (by rfl) (by rfl) (HSA.out _ kb2 (by rfl)) (HSZ.out _ kb2 (by rfl)) (adC_one _ _) (by rfl) ?_; intro w6 hk hg hs; have Kw6 := Lib.hid hk; have Bw6 := Lib.hid (print_world Bw5.out Bw5.out.size hg); clear hk hg hs)
  go_wp2_with (refine wpList_load_blk 24 (.tmp 5) w5.heap.size 24 (adC true kb2) _ Kw6.out (by rfl) (by rfl) Tryd.underlying24 rfl (HSA.out _ kb2 (by rfl)) (by rfl) ?_)
  refine (print_any true kb2 (by rfl) _ (E.out.below Bw6.out)).mono ?_
  rintro e w7 ⟨rfl, b⟩
  rw [kn_print2]
  have Bw7 := Lib.hid (Bw6.out.trans (b.mono Bw6.out.size))
  clear b Bw5 Kw6 Bw3 Bw4 Bw6
  go_wp2_with fail
  have I0 := Lib.hid (And.intro (Bw7.out.alloc Bw7.out.size (.cells knC 9)) (Blk.new w7 9 knC))
  have hg := Bw7.out.size
  generalize w7.heap.size = g at *
  obtain ⟨w8, hw8⟩ : ∃ w8, w8 = w7.alloc (.cells knC 9) := ⟨_, rfl⟩
  rw [← hw8] at I0
  have hw8' : w7.alloc (.cells #[.string ⟨#[49, 46, 50, 46, 51]⟩, .string ⟨#[49, 58, 58, 50, 58, 58, 51]⟩, .string ⟨#[48, 49, 46, 50, 46, 51, 46, 52]⟩, .string ⟨#[49, 58, 50, 58, 51, 58, 52, 58, 53, 58, 54, 58, 55, 58, 56, 58, 58]⟩, .string ⟨#[]⟩, .string ⟨#[58]⟩, .string ⟨#[49, 58, 50]⟩, .string ⟨#[58, 58, 58]⟩] 9) = w8 := hw8.symm
  rw [hw8']
  clear hw8 hw8' Bw7
  go_loopw [37] (fun i wr => ∃ k : Nat, k ≤ 8 ∧ i = .int .i64 k ∧ Hid (Below w.heap.size w wr ∧ Blk wr g 9 knC)) (fun i _ => 8 - (intOf i).toNat)
  case atStart => exact ⟨0, by omega, rfl, I0⟩
  case round =>
    clear I0
    obtain ⟨k, hk, rfl, I⟩ := hrel
    by_cases hlt : k < 8
    · have q : wr.cell? ⟨g, k, none⟩ = some (.string ⟨((knBad[k]?).getD []).toArray⟩) := (I.out.2.cell k).trans (kn_cell k hlt)
      have HP := Lib.hid (fun W (e : Env W) => parse_any ⟨((knBad[k]?).getD []).toArray⟩ (kn_len k hlt) W e)
      have HV := Lib.hid (kn_badV k hlt)
      generalize ((knBad[k]?).getD []) = x at *
      have HB := Lib.hid (show Tryd.prog.built 24 [] = some (adC false z16) by kernel_rfl)
      have hz : ∀ W : World, (Op.equalIn 10000 24 (.agg (adC false z16)) (.agg (adC false z16))).run Tryd.prog W = .ok true W := fun W => (eq_addr false false z16 z16 rfl rfl W).trans (by simp)
      go_wp2_with fail
      refine (HP.out _ (E.out.below I.out.1)).mono ?_
      rintro e w9 ⟨rfl, b⟩
      rw [HV.out]
      have Bw9 := Lib.hid (I.out.1.trans (b.mono I.out.1.size))
      have Kg := Lib.hid (I.out.2.keep b)
      clear b I q
      go_upto_region 9 with ((with_reducible refine at_store 24 (.tmp 11) (.tmp 44) ?_); refine wpList_store_blk 24 (.tmp 11) (.tmp 44) w9.heap.size 24 (adC false z16) (adC false z16) (Blk.new w9 24 (adC false z16)) (by rfl) (by rfl) (by rfl) (by rfl) (HSA.out _ z16 (by rfl)) (HSZ.out _ z16 (by rfl)) (adC_one _ _) (by rfl) ?_; intro w10 hk hg hs; have Kw10 := Lib.hid hk; have Bw10 := Lib.hid (print_world Bw9.out Bw9.out.size hg); have Kg2 := Lib.hid ((Kg.out.alloc _).grown hg (fun e => by have := Option.some.inj e; have := Kg.out.lt; omega)); clear hk hg hs)
      have I2 := Lib.hid (And.intro Bw10.out Kg2.out)
      go_wp2_with (first | (refine wpList_load_blk 24 (.tmp 11) w9.heap.size 24 (adC false z16) _ Kw10.out (by rfl) (by rfl) Tryd.underlying24 rfl (HSA.out _ z16 (by rfl)) (by rfl) ?_) | ((with_reducible refine at_build 24 #[] ?_); refine wpList_build_eq 24 #[] (adC false z16) (by rfl) HB.out (by rfl) ?_))
      go_roundw
      case rel => exact ⟨k + 1, by omega, by go_num, I2⟩
      case measure => simp [intOf]; omega
    · obtain rfl : k = 8 := by omega
      have Bw9 := Lib.hid I.out.1
      clear I
      go_wp2_with fail
      refine (parse_any ⟨#[58, 58, 49]⟩ (by decide) _ (E.out.below Bw9.out)).mono ?_
      rintro e w10 ⟨rfl, b⟩
      rw [show (⟨#[58, 58, 49]⟩ : ByteArray).data.toList = [58, 58, 49] from rfl, kn_parse3]
      have Bw10 := Lib.hid (Bw9.out.trans (b.mono Bw9.out.size))
      clear b
      go_upto_region 13 with ((with_reducible refine at_store 24 (.tmp 13) (.tmp 56) ?_); refine wpList_store_blk 24 (.tmp 13) (.tmp 56) w10.heap.size 24 (adC false z16) (adC true kb3) (Blk.new w10 24 (adC false z16)) (by rfl) (by rfl) (by rfl) (by rfl) (HSA.out _ kb3 (by rfl)) (HSZ.out _ kb3 (by rfl)) (adC_one _ _) (by rfl) ?_; intro w11 hk hg hs; have Kw11 := Lib.hid hk; have Bw11 := Lib.hid (print_world Bw10.out Bw10.out.size hg); clear hk hg hs)
      have HBU := Lib.hid (built_en true kb3 123 rfl)
      have HM := Lib.hid (fun W => may_any false kz rfl W)
      rw [show mayB false kz = false by decide] at HM
      have HB2 := Lib.hid (show Tryd.prog.built 22 [(15, .int .u8 1)] = some (bv kz).toArray by kernel_rfl)
      have HB3 := Lib.hid (show Tryd.prog.built 24 [(1, .agg (bv kz).toArray)] = some (adC false kz) by kernel_rfl)
      go_wp2_with (first | (refine wpList_load_blk 24 (.tmp 13) w10.heap.size 24 (adC true kb3) _ Kw11.out (by rfl) (by rfl) Tryd.underlying24 rfl (HSA.out _ kb3 (by rfl)) (by rfl) ?_) | ((with_reducible refine at_build 32 #[(0, .tmp 59), (1, .const (.int .u16 123))] ?_); refine wpList_build_eq 32 #[(0, .tmp 59), (1, .const (.int .u16 123))] (enC true kb3 123) (by rfl) HBU.out (by rfl) ?_))
      refine (ends_any true kb3 123 (by rfl) (by omega) _ (E.out.below Bw11.out)).mono ?_
      rintro e w12 ⟨rfl, b⟩
      rw [kn_ends]
      have Bw12 := Lib.hid (Bw11.out.trans (b.mono Bw11.out.size))
      clear b
      go_wp2_with (first | ((with_reducible refine at_build 22 #[(15, .const (.int .u8 1))] ?_); refine wpList_build_eq 22 #[(15, .const (.int .u8 1))] (bv kz).toArray (by rfl) HB2.out (by rfl) ?_) | ((with_reducible refine at_build 24 #[(1, .tmp 99)] ?_); refine wpList_build_eq 24 #[(1, .tmp 99)] (adC false kz) (by rfl) HB3.out (by rfl) ?_))
      refine (HM.out _).mono ?_
      rintro e w13 ⟨rfl, b⟩
      have Bw13 := Lib.hid (Bw12.out.trans (b.mono Bw12.out.size))
      clear b
      go_wp2_with fail
      go_ret
      exact ⟨rfl, Bw13.out⟩
end Go.Proofs.YtgdnckglfhabnaaDoor
