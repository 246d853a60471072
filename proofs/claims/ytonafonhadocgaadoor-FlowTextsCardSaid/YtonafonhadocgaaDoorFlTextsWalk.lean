/- The walk of horologelaw28.FlowTexts. -/
import Derived.Test.YtonafonhadocgaaDoorQM
import Derived.Test.YtonafonhadocgaaDoorQO
namespace Go.Proofs.YtonafonhadocgaaDoor
open Go.RowKit Go.Shelf

set_option maxRecDepth 100000 in
set_option maxHeartbeats 8000000 in
theorem texts_walk (k : Ky) (hk : KyOk k) (w : World) (env : Env w) :
    Calls Tryd.prog 3 #[.agg (kyC k)] w fun e w' => e = .returned (.bool true) ∧ Below w.heap.size w w' := by
  obtain ⟨⟨a, b⟩, x⟩ := k
  have E := Lib.hid env
  have K1 := Lib.hid (Blk.new w 32 (keC a b x))
  have B1 := Lib.hid ((Below.refl _ w).alloc (Nat.le_refl _) (.cells (keC a b x) 32))
  have HT := Lib.hid (fun W (e : Env W) => text_any a b hk.la hk.lb hk.pa hk.pb W e)
  have HK := Lib.hid (fun W (e : Env W) => ktext_any a b x hk.la hk.lb hk.pa hk.pb hk.x W e)
  have HM := Lib.hid (fun W => fmay_any a b hk.la hk.lb W)
  have HRT := Lib.hid (fun W => rtext_any a b hk.la hk.lb hk.pa hk.pb W)
  have HRK := Lib.hid (fun W => rktext_any a b x hk.la hk.lb hk.pa hk.pb hk.x W)
  have HF := Lib.hid (keC_flow a b x)
  have HI := Lib.hid (fl_info a b hk.la hk.lb)
  have HKS := Lib.hid (show (Tryd.prog.info? 32).map (·.size) = some (keC a b x).size from by rw [kySize]; exact congrArg some (kyC_size hk).symm)
  have HV := Lib.hid (show flowV a b = if mayB a.1 a.2.1 && mayB b.1 b.2.1 then .tuple #[.string ⟨(flowT a b).toArray⟩, .int .i64 0] else .tuple #[.string ⟨#[]⟩, .int .i64 2] from rfl)
  have HW := Lib.hid (show keyV a b x = if mayB a.1 a.2.1 && mayB b.1 b.2.1 then .tuple #[.string ⟨(keyT a b x).toArray⟩, .int .i64 0] else .tuple #[.string ⟨#[]⟩, .int .i64 2] from rfl)
  show Calls Tryd.prog 3 #[.agg (keC a b x)] w _
  clear env hk
  generalize keC a b x = cs at *
  generalize flC a b = cf at *
  generalize flowV a b = fv at *
  generalize keyV a b x = kv at *
  generalize flowT a b = t at *
  generalize keyT a b x = kt at *
  generalize (mayB a.1 a.2.1 && mayB b.1 b.2.1) = m at *
  cases m with
  | false =>
    obtain rfl := HV.out
    obtain rfl := HW.out
    clear HV HW
    go_enter Tryd.func3, Tryd.ntmps3
    go_wp2_with (refine wpList_load_part 29 (.tmp 8) w.heap.size 0 32 cs cf.toList _ K1.out HF.out (by rfl) (by rfl) Tryd.underlying29 rfl HI.out (by rfl) ?_)
    refine (HT.out _ (E.out.below B1.out)).mono ?_
    rintro e w2 ⟨rfl, b⟩
    have B2 := Lib.hid (B1.out.trans (b.mono B1.out.size))
    have K2 := Lib.hid (K1.out.keep b)
    clear b B1 K1
    go_wp2_with (refine wpList_load_blk 32 (.tmp 1) w.heap.size 32 cs _ K2.out (by rfl) (by rfl) Tryd.underlying32 rfl HKS.out (by rfl) ?_)
    refine (HK.out _ (E.out.below B2.out)).mono ?_
    rintro e w3 ⟨rfl, b⟩
    have B3 := Lib.hid (B2.out.trans (b.mono B2.out.size))
    have K3 := Lib.hid (K2.out.keep b)
    clear b B2 K2
    go_wp2_with (refine wpList_load_part 29 (.tmp 18) w.heap.size 0 32 cs cf.toList _ K3.out HF.out (by rfl) (by rfl) Tryd.underlying29 rfl HI.out (by rfl) ?_)
    refine (HM.out _).mono ?_
    rintro e w4 ⟨rfl, b⟩
    have B4 := Lib.hid (B3.out.trans (b.mono B3.out.size))
    have K4 := Lib.hid (K3.out.keep b)
    clear b B3 K3
    go_wp2_with fail
    refine (works_any _ (E.out.below B4.out)).mono ?_
    rintro e w5 ⟨rfl, b⟩
    have B5 := Lib.hid (B4.out.trans (b.mono B4.out.size))
    clear b B4
    go_wp2_with fail
    go_ret
    exact ⟨rfl, B5.out⟩
  | true =>
    obtain rfl := HV.out
    obtain rfl := HW.out
    clear HV HW
    go_enter Tryd.func3, Tryd.ntmps3
    go_wp2_with (refine wpList_load_part 29 (.tmp 8) w.heap.size 0 32 cs cf.toList _ K1.out HF.out (by rfl) (by rfl) Tryd.underlying29 rfl HI.out (by rfl) ?_)
    refine (HT.out _ (E.out.below B1.out)).mono ?_
    rintro e w2 ⟨rfl, b⟩
    have B2 := Lib.hid (B1.out.trans (b.mono B1.out.size))
    have K2 := Lib.hid (K1.out.keep b)
    clear b B1 K1
    go_wp2_with (refine wpList_load_blk 32 (.tmp 1) w.heap.size 32 cs _ K2.out (by rfl) (by rfl) Tryd.underlying32 rfl HKS.out (by rfl) ?_)
    refine (HK.out _ (E.out.below B2.out)).mono ?_
    rintro e w3 ⟨rfl, b⟩
    have B3 := Lib.hid (B2.out.trans (b.mono B2.out.size))
    have K3 := Lib.hid (K2.out.keep b)
    clear b B2 K2
    go_wp2_with (refine wpList_load_part 29 (.tmp 18) w.heap.size 0 32 cs cf.toList _ K3.out HF.out (by rfl) (by rfl) Tryd.underlying29 rfl HI.out (by rfl) ?_)
    refine (HM.out _).mono ?_
    rintro e w4 ⟨rfl, b⟩
    have B4 := Lib.hid (B3.out.trans (b.mono B3.out.size))
    have K4 := Lib.hid (K3.out.keep b)
    clear b B3 K3
    go_wp2_with (refine wpList_load_part 29 (.tmp 40) w.heap.size 0 32 cs cf.toList _ K4.out HF.out (by rfl) (by rfl) Tryd.underlying29 rfl HI.out (by rfl) ?_)
    refine (HRT.out _).mono ?_
    rintro e w5 ⟨rfl, b⟩
    have B5 := Lib.hid (B4.out.trans (b.mono B4.out.size))
    have K5 := Lib.hid (K4.out.keep b)
    clear b B4 K4
    go_wp2_with (refine wpList_load_blk 32 (.tmp 1) w.heap.size 32 cs _ K5.out (by rfl) (by rfl) Tryd.underlying32 rfl HKS.out (by rfl) ?_)
    refine (HRK.out _).mono ?_
    rintro e w6 ⟨rfl, b⟩
    have B6 := Lib.hid (B5.out.trans (b.mono B5.out.size))
    have K6 := Lib.hid (K5.out.keep b)
    clear b B5 K5
    go_wp2_with fail
    refine (works_any _ (E.out.below B6.out)).mono ?_
    rintro e w7 ⟨rfl, b⟩
    have B7 := Lib.hid (B6.out.trans (b.mono B6.out.size))
    clear b B6
    go_wp2_with fail
    go_ret
    exact ⟨rfl, B7.out⟩
end Go.Proofs.YtonafonhadocgaaDoor
