/- The walk of horologelaw05.AddrPrints. -/
import Derived.Test.YtgdnckglfhabnaaDoorAdKnown
import Derived.Test.YtgdnckglfhabnaaDoorAdOrder
import Derived.Test.YtgdnckglfhabnaaDoorRfEnds
import Derived.Outline
namespace Go.Proofs.YtgdnckglfhabnaaDoor
open Go.RowKit Go.Shelf

theorem bytesLess_eq : ∀ a b : List UInt8, Op.bytesLess a b = decide (Lib.compareBytes a b < 0)
  | [], [] => rfl
  | [], _ :: _ => rfl
  | _ :: _, [] => rfl
  | x :: a, y :: b => by
    have ih := bytesLess_eq a b
    unfold Op.bytesLess Lib.compareBytes
    simp only [u8_lt] at ih ⊢
    by_cases h1 : x.toNat < y.toNat
    · simp [h1]
    · by_cases h2 : y.toNat < x.toNat
      · have h3 : ¬ x = y := fun e => by rw [e] at h2; omega
        simp [h1, h2, h3]
      · have h3 : x = y := UInt8.toNat_inj.1 (by omega)
        simp [h1, h2, h3, ih]

/-- Two boxed addresses in a world. -/
structure PHeld (g : Nat) (c1 c2 : Array Value) (w : World) : Prop where
  a : Blk w g 24 c1
  b : Blk w (g + 1) 24 c2
theorem PHeld.keep {g : Nat} {c1 c2 : Array Value} {w w' : World} (h : PHeld g c1 c2 w) (hb : Below w.heap.size w w') : PHeld g c1 c2 w' := ⟨h.a.keep hb, h.b.keep hb⟩
theorem PHeld.box (w : World) (c1 c2 : Array Value) : PHeld w.heap.size c1 c2 ((w.alloc (.cells c1 24)).alloc (.cells c2 24)) := by
  have e1 : (w.alloc (.cells c1 24)).heap.size = w.heap.size + 1 := by simp
  have k2 := Blk.new (w.alloc (.cells c1 24)) 24 c2
  rw [e1] at k2
  exact ⟨(Blk.new w 24 c1).alloc _, k2⟩
theorem PHeld.below (w : World) (c1 c2 : Array Value) : Below w.heap.size w ((w.alloc (.cells c1 24)).alloc (.cells c2 24)) :=
  ((Below.refl _ w).alloc (Nat.le_refl _) _).alloc (by simp) _
theorem addr_rd {w : World} {g : Nat} {u : Bool} {l : List UInt8} (h : Blk w g 24 (adC u l)) (hl : l.length = 16) : Rd w (some ⟨g, 1, none⟩) 16 16 l :=
  ⟨hl, Nat.le_refl _, by omega, fun _ => ⟨g, 1, rfl, fun k hk => by rw [h.cell, adC_get u l k (by omega)]⟩⟩

set_option maxRecDepth 100000 in
set_option maxHeartbeats 16000000 in
theorem prints_walk (u v : Bool) (l m : List UInt8) (p : Nat) (hl : l.length = 16) (hm : m.length = 16) (hp : p < 65536) (w : World) (env : Env w) :
    Calls Tryd.prog 3 #[.agg (adC u l), .agg (adC v m), .int .u16 p] w fun e w' => e = .returned (.bool true) ∧ Below w.heap.size w w' := by
  have E := Lib.hid env
  clear env
  have B0 := Lib.hid (PHeld.below w (adC u l) (adC v m))
  have H0 := Lib.hid (PHeld.box w (adC u l) (adC v m))
  have HS1 := Lib.hid (show (Tryd.prog.info? 24).map (·.size) = some (adC u l).size by rw [adC_size _ _ hl]; exact adSize)
  have HS2 := Lib.hid (show (Tryd.prog.info? 24).map (·.size) = some (adC v m).size by rw [adC_size _ _ hm]; exact adSize)
  have HPA := Lib.hid (fun W (e : Env W) => print_any u l hl W e)
  have HEN := Lib.hid (fun W (e : Env W) => ends_any u l p hl hp W e)
  have HRP := Lib.hid (fun W => rprint_any u l hl W)
  have HRE := Lib.hid (fun W => rends_any u l p hl hp W)
  have HLS := Lib.hid (fun W => less_any u v l m hl hm W)
  have HMY := Lib.hid (fun W => may_any u l hl W)
  have HRM := Lib.hid (fun W => rmay_any u l hl W)
  have HBU := Lib.hid (built_en u l p hl)
  have HRA := Lib.hid (fun W (h : Blk W w.heap.size 24 (adC u l)) => addr_rd h hl)
  have HRB := Lib.hid (fun W (h : Blk W (w.heap.size + 1) 24 (adC v m)) => addr_rd h hm)
  have HV1 := Lib.hid (show (adC u l)[0]? = some (.bool u) from rfl)
  have HV2 := Lib.hid (show (adC v m)[0]? = some (.bool v) from rfl)
  have HPV := Lib.hid (show printV u l = if mayB u l then .tuple #[.string ⟨(printT u l).toArray⟩, .int .i64 0] else .tuple #[.string ⟨#[]⟩, .int .i64 2] from rfl)
  have HEV := Lib.hid (show endsV u l p = if mayB u l then .tuple #[.string ⟨(endsT u l p).toArray⟩, .int .i64 0] else .tuple #[.string ⟨#[]⟩, .int .i64 2] from rfl)
  have HLB := Lib.hid (show lessB u l v m = if u = v then Op.bytesLess l m else v by rw [lessB, bytesLess_eq])
  generalize adC u l = c1 at *
  generalize adC v m = c2 at *
  generalize enC u l p = ce at *
  generalize printT u l = pt at *
  generalize endsT u l p = et at *
  generalize printV u l = pv at *
  generalize endsV u l p = ev at *
  generalize lessB u l v m = lb at *
  generalize mayB u l = mb at *
  clear hl hm
  go_enter Tryd.func3, Tryd.ntmps3
  go_wp2_with fail
  refine (known_any _ (E.out.below B0.out)).mono ?_
  rintro e w1 ⟨rfl, b⟩
  have HH := Lib.hid (H0.out.keep b)
  have BB := Lib.hid (B0.out.trans (b.mono B0.out.size))
  clear b H0 B0
  go_wp2_with (refine wpList_load_blk 24 (.tmp 3) w.heap.size 24 c1 _ HH.out.a (by rfl) (by rfl) Tryd.underlying24 rfl HS1.out (by rfl) ?_)
  refine (HPA.out _ (E.out.below BB.out)).mono ?_
  rintro e w2 ⟨rfl, b⟩
  have HH2 := Lib.hid (HH.out.keep b)
  have BB2 := Lib.hid (BB.out.trans (b.mono BB.out.size))
  clear b HH BB
  -- the texts that came, whatever they are
  obtain ⟨sp, ep, hpv⟩ : ∃ (sp : ByteArray) (ep : Int), pv = .tuple #[.string sp, .int .i64 ep] := by rw [HPV.out]; split <;> exact ⟨_, _, rfl⟩
  obtain ⟨se, ee, hev⟩ : ∃ (se : ByteArray) (ee : Int), ev = .tuple #[.string se, .int .i64 ee] := by rw [HEV.out]; split <;> exact ⟨_, _, rfl⟩
  subst hpv hev
  go_wp2_with (first | (refine wpList_load_blk 24 (.tmp 3) w.heap.size 24 c1 _ HH2.out.a (by rfl) (by rfl) Tryd.underlying24 rfl HS1.out (by rfl) ?_) | ((with_reducible refine at_build 32 #[(0, .tmp 20), (1, .tmp 21)] ?_); refine wpList_build_eq 32 #[(0, .tmp 20), (1, .tmp 21)] ce (by rfl) HBU.out (by rfl) ?_))
  refine (HEN.out _ (E.out.below BB2.out)).mono ?_
  rintro e w3 ⟨rfl, b⟩
  have HH3 := Lib.hid (HH2.out.keep b)
  have BB3 := Lib.hid (BB2.out.trans (b.mono BB2.out.size))
  clear b HH2 BB2
  go_upto_region 5 with fail
  go_cut [11] from 26 to 48 (fun s wx => s = .bool lb ∧ Below w.heap.size w wx ∧ PHeld w.heap.size c1 c2 wx)
  case first =>
    have q1 : w3.cell? ⟨w.heap.size, 0, none⟩ = some (.bool u) := by rw [HH3.out.a.cell]; exact HV1.out
    have q2 : w3.cell? ⟨w.heap.size + 1, 0, none⟩ = some (.bool v) := by rw [HH3.out.b.cell]; exact HV2.out
    have hva := fun n => conv_str (P := Tryd.prog) ((HRA.out w3 HH3.out.a).drewN n) 33 9 Tryd.underlying33 Tryd.underlying5 Tryd.underlying9
    have hvb := fun n => conv_str (P := Tryd.prog) ((HRB.out w3 HH3.out.b).drewN n) 33 9 Tryd.underlying33 Tryd.underlying5 Tryd.underlying9
    have hlb := HLB.out
    cases u <;> cases v
    all_goals simp only [if_true, Bool.false_eq_true, Bool.true_eq_false, if_false] at hlb
    all_goals go_quiet (fail)
    all_goals go_wp2_with fail
    all_goals (go_meet; exact ⟨congrArg Value.bool hlb.symm, below_drewN BB3.out _, ⟨HH3.out.a, HH3.out.b⟩⟩)
  case rest =>
  obtain ⟨rfl, hb4, hh4⟩ := hcut
  have BB4 := Lib.hid hb4
  have HH4 := Lib.hid hh4
  clear hb4 hh4 BB3 HH3 HRA HRB HV1 HV2 HLB
  go_upto_region 6 with fail
  go_cut [60] from 49 to 59 (fun s wx => s = .bool false ∧ Below w.heap.size w wx ∧ PHeld w.heap.size c1 c2 wx)
  case first =>
    clear HRP HRE HPA HEN HPV HEV HBU
    cases lb <;> cases mb
    all_goals
      refine wp_region_held_drew (S := PHeld w.heap.size c1 c2) (by kernel_rfl) (⟨HH4.out.a, HH4.out.b⟩) (fun hHeld => ?_)
      have BB := Lib.hid (below_drew BB4.out)
      clear BB4 HH4
      refine wpAnyH_take (i := 0) (oi := _) (v := .agg c1) rfl (by kernel_rfl) (by kernel_rfl) (by kernel_rfl) (fun _ _ _ h => h) (yieldsIf_load_blk 24 (.tmp 3) w.heap.size 24 c1 _ (fun w h => PHeld.a h) (by rfl) (by rfl) Tryd.underlying24 rfl (HS1.out) (by rfl)) (by assumption) ?_
      try simp only [List.getElem_toArray, List.getElem_cons_zero, Act.put, List.setIfInBounds_toArray, List.set_cons_zero, List.set_cons_succ]
      refine wpAnyH_take (i := 1) (oi := _) (v := .agg c2) rfl (by kernel_rfl) (by kernel_rfl) (by kernel_rfl) (fun _ _ _ h => h) (yieldsIf_load_blk 24 (.tmp 4) (w.heap.size + 1) 24 c2 _ (fun w h => PHeld.b h) (by rfl) (by rfl) Tryd.underlying24 rfl (HS2.out) (by rfl)) (by assumption) ?_
      try simp only [List.getElem_toArray, List.getElem_cons_zero, List.getElem_cons_succ, Act.put, List.setIfInBounds_toArray, List.set_cons_zero, List.set_cons_succ]
      refine wpAnyH_take (i := 3) (oi := _) (v := ?_) rfl (by kernel_rfl) (by kernel_rfl) (by kernel_rfl) (fun _ _ _ h => h) (Or.inl ⟨by rfl, ?_⟩) (by assumption) ?_
      case refine_2 => (intro w hSw; go_simp <;> with_reducible rfl)
      try simp only [List.getElem_toArray, List.getElem_cons_zero, List.getElem_cons_succ, Act.put, List.setIfInBounds_toArray, List.set_cons_zero, List.set_cons_succ]
      refine wpAnyH_ready (rs := [2]) (by kernel_rfl) (by simp) ?_
      refine AllReadyH.cons (o := _) rfl (fun K hK => ?_) AllReadyH.nil
      simp only [List.getElem_toArray, List.getElem_cons_zero, List.getElem_cons_succ]
      go_simp
      refine (HLS.out _).mono ?_
      rintro e wn ⟨rfl, b⟩
      have Bn := Lib.hid (BB.out.trans (b.mono BB.out.size))
      have hH := hHeld.keep b
      clear b BB
      go_simp
      refine hK.out _ _ hH (fun hHeld2 => ?_)
      clear hK K hHeld hH
      have hHeld := hHeld2
      have BB := Bn
      clear hHeld2 Bn
      try simp only [List.getElem_toArray, List.getElem_cons_zero, List.getElem_cons_succ, Act.put, List.setIfInBounds_toArray, List.set_cons_zero, List.set_cons_succ]
      refine wpAnyH_take (i := 4) (oi := _) (v := ?_) rfl (by kernel_rfl) (by kernel_rfl) (by kernel_rfl) (fun _ _ _ h => h) (Or.inl ⟨by rfl, ?_⟩) (by assumption) ?_
      case refine_2 => (intro w hSw; go_simp <;> with_reducible rfl)
      try simp only [List.getElem_toArray, List.getElem_cons_zero, List.getElem_cons_succ, Act.put, List.setIfInBounds_toArray, List.set_cons_zero, List.set_cons_succ]
      refine wpAnyH_take (i := 5) (oi := _) (v := ?_) rfl (by kernel_rfl) (by kernel_rfl) (by kernel_rfl) (fun _ _ _ h => h) (Or.inl ⟨by rfl, ?_⟩) (by assumption) ?_
      case refine_2 => (intro w hSw; go_simp <;> with_reducible rfl)
      try simp only [List.getElem_toArray, List.getElem_cons_zero, List.getElem_cons_succ, Act.put, List.setIfInBounds_toArray, List.set_cons_zero, List.set_cons_succ]
      refine wpAnyH_take (i := 6) (oi := _) (v := .agg c1) rfl (by kernel_rfl) (by kernel_rfl) (by kernel_rfl) (fun _ _ _ h => h) (yieldsIf_load_blk 24 (.tmp 3) w.heap.size 24 c1 _ (fun w h => PHeld.a h) (by rfl) (by rfl) Tryd.underlying24 rfl (HS1.out) (by rfl)) (by assumption) ?_
      try simp only [List.getElem_toArray, List.getElem_cons_zero, List.getElem_cons_succ, Act.put, List.setIfInBounds_toArray, List.set_cons_zero, List.set_cons_succ]
      refine wpAnyH_take (i := 8) (oi := _) (v := .agg c1) rfl (by kernel_rfl) (by kernel_rfl) (by kernel_rfl) (fun _ _ _ h => h) (yieldsIf_load_blk 24 (.tmp 3) w.heap.size 24 c1 _ (fun w h => PHeld.a h) (by rfl) (by rfl) Tryd.underlying24 rfl (HS1.out) (by rfl)) (by assumption) ?_
      try simp only [List.getElem_toArray, List.getElem_cons_zero, List.getElem_cons_succ, Act.put, List.setIfInBounds_toArray, List.set_cons_zero, List.set_cons_succ]
      refine wpAnyH_ready (rs := [7]) (by kernel_rfl) (by simp) ?_
      refine AllReadyH.cons (o := _) rfl (fun K hK => ?_) AllReadyH.nil
      simp only [List.getElem_toArray, List.getElem_cons_zero, List.getElem_cons_succ]
      go_simp
      refine (HMY.out _).mono ?_
      rintro e wn ⟨rfl, b⟩
      have Bn := Lib.hid (BB.out.trans (b.mono BB.out.size))
      have hH := hHeld.keep b
      clear b BB
      go_simp
      refine hK.out _ _ hH (fun hHeld2 => ?_)
      clear hK K hHeld hH
      have hHeld := hHeld2
      have BB := Bn
      clear hHeld2 Bn
      try simp only [List.getElem_toArray, List.getElem_cons_zero, List.getElem_cons_succ, Act.put, List.setIfInBounds_toArray, List.set_cons_zero, List.set_cons_succ]
      refine wpAnyH_ready (rs := [9]) (by kernel_rfl) (by simp) ?_
      refine AllReadyH.cons (o := _) rfl (fun K hK => ?_) AllReadyH.nil
      simp only [List.getElem_toArray, List.getElem_cons_zero, List.getElem_cons_succ]
      go_simp
      refine (HRM.out _).mono ?_
      rintro e wn ⟨rfl, b⟩
      have Bn := Lib.hid (BB.out.trans (b.mono BB.out.size))
      have hH := hHeld.keep b
      clear b BB
      go_simp
      refine hK.out _ _ hH (fun hHeld2 => ?_)
      clear hK K hHeld hH
      have hHeld := hHeld2
      have BB := Bn
      clear hHeld2 Bn
      try simp only [List.getElem_toArray, List.getElem_cons_zero, List.getElem_cons_succ, Act.put, List.setIfInBounds_toArray, List.set_cons_zero, List.set_cons_succ]
      refine wpAnyH_take (i := 10) (oi := _) (v := ?_) rfl (by kernel_rfl) (by kernel_rfl) (by kernel_rfl) (fun _ _ _ h => h) (Or.inl ⟨by rfl, ?_⟩) (by assumption) ?_
      case refine_2 => (intro w hSw; go_simp <;> with_reducible rfl)
      try simp only [List.getElem_toArray, List.getElem_cons_zero, List.getElem_cons_succ, Act.put, List.setIfInBounds_toArray, List.set_cons_zero, List.set_cons_succ]
      refine wpAnyH_take (i := 11) (oi := _) (v := ?_) rfl (by kernel_rfl) (by kernel_rfl) (by kernel_rfl) (fun _ _ _ h => h) (Or.inl ⟨by rfl, ?_⟩) (by assumption) ?_
      case refine_2 => (intro w hSw; go_simp <;> with_reducible rfl)
      try simp only [List.getElem_toArray, List.getElem_cons_zero, List.getElem_cons_succ, Act.put, List.setIfInBounds_toArray, List.set_cons_zero, List.set_cons_succ]
      have HHx := Lib.hid hHeld
      refine wpAnyH_done (by kernel_rfl) ?_ _
      clear hHeld
      go_wp2_with fail
      go_meet
      exact ⟨rfl, BB.out, HHx.out⟩
  case rest =>
  obtain ⟨rfl, hb5, hh5⟩ := hcut
  have BB5 := Lib.hid hb5
  have HH5 := Lib.hid hh5
  clear hb5 hh5 BB4 HH4 HLS HMY
  go_wp2_with (refine wpList_load_blk 24 (.tmp 3) w.heap.size 24 c1 _ HH5.out.a (by rfl) (by rfl) Tryd.underlying24 rfl HS1.out (by rfl) ?_)
  refine (HRM.out _).mono ?_
  rintro e w6 ⟨rfl, b⟩
  have HH6 := Lib.hid (HH5.out.keep b)
  have BB6 := Lib.hid (BB5.out.trans (b.mono BB5.out.size))
  clear b HH5 BB5 HRM
  cases mb with
  | false =>
    have h1 := HPV.out
    have h2 := HEV.out
    simp only [Bool.false_eq_true, if_false] at h1 h2
    injection h1 with h1
    injection h2 with h2
    simp at h1 h2
    obtain ⟨rfl, rfl⟩ := h1
    obtain ⟨rfl, rfl⟩ := h2
    clear HPV HEV
    go_wp2_with fail
    go_ret
    exact ⟨rfl, BB6.out⟩
  | true =>
    have h1 := HPV.out
    have h2 := HEV.out
    simp only [if_true] at h1 h2
    injection h1 with h1
    injection h2 with h2
    simp at h1 h2
    obtain ⟨rfl, rfl⟩ := h1
    obtain ⟨rfl, rfl⟩ := h2
    clear HPV HEV
    go_wp2_with (refine wpList_load_blk 24 (.tmp 3) w.heap.size 24 c1 _ HH6.out.a (by rfl) (by rfl) Tryd.underlying24 rfl HS1.out (by rfl) ?_)
    refine (HRP.out _).mono ?_
    rintro e w7 ⟨rfl, b⟩
    have HH7 := Lib.hid (HH6.out.keep b)
    have BB7 := Lib.hid (BB6.out.trans (b.mono BB6.out.size))
    clear b HH6 BB6
    go_wp2_with (first | (refine wpList_load_blk 24 (.tmp 3) w.heap.size 24 c1 _ HH7.out.a (by rfl) (by rfl) Tryd.underlying24 rfl HS1.out (by rfl) ?_) | ((with_reducible refine at_build 32 #[(0, .tmp 92), (1, .tmp 93)] ?_); refine wpList_build_eq 32 #[(0, .tmp 92), (1, .tmp 93)] ce (by rfl) HBU.out (by rfl) ?_))
    refine (HRE.out _).mono ?_
    rintro e w8 ⟨rfl, b⟩
    have BB8 := Lib.hid (BB7.out.trans (b.mono BB7.out.size))
    clear b HH7 BB7
    go_wp2_with fail
    go_ret
    exact ⟨rfl, BB8.out⟩
end Go.Proofs.YtgdnckglfhabnaaDoor
