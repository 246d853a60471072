/- Laws and walks that the claim's last text leans on, joined: each part says above itself what it proves. -/
import Derived.Test.YtonafonhadocgaaDoorQL
import Derived.Test.YtonafonhadocgaaDoorQM
import Derived.Test.YtonafonhadocgaaDoorQN
import Derived.Test.YtonafonhadocgaaDoorQG
import Derived.ProofKit
import Derived.OpenShut
import Derived.ShutString
import Derived.ChangeOld
import Derived.Lib.SmallJoins
import Derived.Test.YtonafonhadocgaaDoorQI
import Derived.Stop.LaidErr
import Derived.Lib.LaidU8
import Derived.LaidHandle
import Derived.Handed
import Derived.Deep.Slices
import Derived.MakeChecks
import Derived.Lib.LaidIn
import Derived.Lib.LaidU8T
import Derived.LaidLaws
import Derived.RowKitTokens

/- The reference's May, Text, KeyText of chapter 28. -/
namespace Go.Proofs.YtonafonhadocgaaDoor
open Go.RowKit Go.Shelf

theorem flC_ad1 (a b : En) (ha : a.2.1.length = 16) : ((flC a b).toList.drop 0).take (adC a.1 a.2.1).toList.length = (adC a.1 a.2.1).toList := by
  obtain ⟨u, l, p⟩ := a
  obtain ⟨b0, b1, b2, b3, b4, b5, b6, b7, b8, b9, b10, b11, b12, b13, b14, b15, rfl⟩ := sixteen l ha
  rfl
theorem flC_ad2 (a b : En) (ha : a.2.1.length = 16) (hb : b.2.1.length = 16) : ((flC a b).toList.drop 18).take (adC b.1 b.2.1).toList.length = (adC b.1 b.2.1).toList := by
  obtain ⟨u, l, p⟩ := a
  obtain ⟨v, m, q⟩ := b
  obtain ⟨b0, b1, b2, b3, b4, b5, b6, b7, b8, b9, b10, b11, b12, b13, b14, b15, rfl⟩ := sixteen l ha
  obtain ⟨c0, c1, c2, c3, c4, c5, c6, c7, c8, c9, c10, c11, c12, c13, c14, c15, rfl⟩ := sixteen m hb
  rfl
theorem ad_info (e : En) (h : e.2.1.length = 16) : (Tryd.prog.info? 24).map (·.size) = some (adC e.1 e.2.1).toList.length := by rw [adSize, Array.length_toList, adC_size _ _ h]

set_option maxRecDepth 100000 in
set_option maxHeartbeats 8000000 in
theorem fmay_any (a b : En) (ha : a.2.1.length = 16) (hb : b.2.1.length = 16) (w : World) :
    Calls Tryd.prog 9 #[.agg (flC a b)] w fun e w' => e = .returned (.bool (mayB a.1 a.2.1 && mayB b.1 b.2.1)) ∧ Below w.heap.size w w' := by
  have K := Lib.hid (Blk.new w 29 (flC a b))
  have B := Lib.hid ((Below.refl _ w).alloc (Nat.le_refl _) (.cells (flC a b) 29))
  have HA := Lib.hid (fun W => rmay_any a.1 a.2.1 ha W)
  have HB := Lib.hid (fun W => rmay_any b.1 b.2.1 hb W)
  have H1 := Lib.hid (flC_ad1 a b ha)
  have H2 := Lib.hid (flC_ad2 a b ha hb)
  have HI := Lib.hid (ad_info a ha)
  have HJ := Lib.hid (ad_info b hb)
  generalize flC a b = cs at *
  generalize adC a.1 a.2.1 = ca at *
  generalize adC b.1 b.2.1 = cb at *
  generalize mayB a.1 a.2.1 = ma at *
  generalize mayB b.1 b.2.1 = mb at *
  clear ha hb
  go_enter Tryd.func9, Tryd.ntmps9
  go_wp2_with (refine wpList_load_part 24 (.tmp 4) w.heap.size 0 29 cs ca.toList _ K.out H1.out (by rfl) (by rfl) Tryd.underlying24 rfl HI.out (by rfl) ?_)
  refine (HA.out _).mono ?_
  rintro e w2 ⟨rfl, b⟩
  have B2 := Lib.hid (B.out.trans (b.mono B.out.size))
  have K2 := Lib.hid (K.out.keep b)
  clear b K B HA H1 HI
  cases ma with
  | false =>
    go_wp2_with fail
    go_ret
    exact ⟨rfl, B2.out⟩
  | true =>
    go_wp2_with (refine wpList_load_part 24 (.tmp 9) w.heap.size 18 29 cs cb.toList _ K2.out H2.out (by rfl) (by rfl) Tryd.underlying24 rfl HJ.out (by rfl) ?_)
    refine (HB.out _).mono ?_
    rintro e w3 ⟨rfl, b⟩
    have B3 := Lib.hid (B2.out.trans (b.mono B2.out.size))
    clear b K2 B2 HB H2 HJ
    go_wp2_with fail
    go_ret
    exact ⟨rfl, B3.out⟩

set_option maxRecDepth 100000 in
set_option maxHeartbeats 8000000 in
theorem rtext_any (a b : En) (ha : a.2.1.length = 16) (hb : b.2.1.length = 16) (pa : a.2.2 < 65536) (pb : b.2.2 < 65536) (w : World) :
    Calls Tryd.prog 11 #[.agg (flC a b)] w fun e w' => e = .returned (.string ⟨(flowT a b).toArray⟩) ∧ Below w.heap.size w w' := by
  have K := Lib.hid (Blk.new w 29 (flC a b))
  have B := Lib.hid ((Below.refl _ w).alloc (Nat.le_refl _) (.cells (flC a b) 29))
  have HA := Lib.hid (fun W => rends_any a.1 a.2.1 a.2.2 ha pa W)
  have HB := Lib.hid (fun W => rends_any b.1 b.2.1 b.2.2 hb pb W)
  have HC := Lib.hid (flC_client a b)
  have HS := Lib.hid (flC_server a b ha)
  have HI := Lib.hid (en_info a ha)
  have HJ := Lib.hid (en_info b hb)
  have la := enT_len a ha pa
  have lb := enT_len b hb pb
  have HV := Lib.hid (show flowT a b = enT a ++ (arrow ++ enT b) from rfl)
  rw [show endsT a.1 a.2.1 a.2.2 = enT a from rfl] at HA
  rw [show endsT b.1 b.2.1 b.2.2 = enT b from rfl] at HB
  generalize flC a b = cs at *
  generalize (enC a.1 a.2.1 a.2.2) = ca at *
  generalize (enC b.1 b.2.1 b.2.2) = cb at *
  generalize flowT a b = ft at *
  generalize enT a = ta at *
  generalize enT b = tb at *
  clear ha hb pa pb
  have hs1 : ¬ 9223372036854775807 < ta.length + 3 := by omega
  have hs2 : ¬ 9223372036854775807 < ta.length + 3 + tb.length := by omega
  have C := Lib.hid (And.intro hs1 hs2)
  clear la lb hs1 hs2
  go_enter Tryd.func11, Tryd.ntmps11
  go_upto_region 1 with fail
  refine wp_region_held_drew (S := fun W => Blk W w.heap.size 29 cs) (by kernel_rfl) (K.out) (fun hHeld => ?_)
  have BB := Lib.hid (below_drew B.out)
  clear B K
  refine wpAnyH_take (i := 0) (oi := _) (v := ?_) rfl (by kernel_rfl) (by kernel_rfl) (by kernel_rfl) (fun _ _ _ h => h) (Or.inl ⟨by rfl, ?_⟩) (by assumption) ?_
  case refine_2 => (intro w hSw; go_simp <;> with_reducible rfl)
  try simp only [List.getElem_toArray, List.getElem_cons_zero, Act.put, List.setIfInBounds_toArray, List.set_cons_zero, List.set_cons_succ]
  refine wpAnyH_take (i := 1) (oi := _) (v := .agg ca.toList.toArray) rfl (by kernel_rfl) (by kernel_rfl) (by kernel_rfl) (fun _ _ _ h => h) (yieldsIf_load_part 27 (.tmp 3) w.heap.size 0 29 cs ca.toList _ (fun w h => h) HC.out (by rfl) (by rfl) Tryd.underlying27 rfl HI.out (by rfl)) (by assumption) ?_
  try simp only [List.getElem_toArray, List.getElem_cons_zero, List.getElem_cons_succ, Act.put, List.setIfInBounds_toArray, List.set_cons_zero, List.set_cons_succ]
  refine wpAnyH_take (i := 4) (oi := _) (v := ?_) rfl (by kernel_rfl) (by kernel_rfl) (by kernel_rfl) (fun _ _ _ h => h) (Or.inl ⟨by rfl, ?_⟩) (by assumption) ?_
  case refine_2 => (intro w hSw; go_simp <;> with_reducible rfl)
  try simp only [List.getElem_toArray, List.getElem_cons_zero, List.getElem_cons_succ, Act.put, List.setIfInBounds_toArray, List.set_cons_zero, List.set_cons_succ]
  refine wpAnyH_take (i := 5) (oi := _) (v := .agg cb.toList.toArray) rfl (by kernel_rfl) (by kernel_rfl) (by kernel_rfl) (fun _ _ _ h => h) (yieldsIf_load_part 27 (.tmp 7) w.heap.size 18 29 cs cb.toList _ (fun w h => h) HS.out (by rfl) (by rfl) Tryd.underlying27 rfl HJ.out (by rfl)) (by assumption) ?_
  try simp only [List.getElem_toArray, List.getElem_cons_zero, List.getElem_cons_succ, Act.put, List.setIfInBounds_toArray, List.set_cons_zero, List.set_cons_succ]
  clear HC HS HI HJ
  refine wpAnyH_ready (rs := [2]) (by kernel_rfl) (by simp) ?_
  refine AllReadyH.cons (o := _) rfl (fun K hK => ?_) AllReadyH.nil
  simp only [List.getElem_toArray, List.getElem_cons_zero, List.getElem_cons_succ]
  go_simp
  refine (HA.out _).mono ?_
  rintro e wn ⟨rfl, b⟩
  have Bn := Lib.hid (BB.out.trans (b.mono BB.out.size))
  have hH := hHeld.keep b
  clear b BB
  go_simp
  refine hK.out _ _ hH (fun hHeld2 => ?_)
  clear hK K hHeld hH
  have hHeld := hHeld2
  have BB := Bn
  clear hHeld2 Bn
  try simp only [List.getElem_toArray, List.getElem_cons_zero, List.getElem_cons_succ, Act.put, List.setIfInBounds_toArray, List.set_cons_zero, List.set_cons_succ]
  obtain ⟨hs1, hs2⟩ := C.out
  refine wpAnyH_take (i := 3) (oi := _) (v := ?_) rfl (by kernel_rfl) (by kernel_rfl) (by kernel_rfl) (fun _ _ _ h => h) (Or.inl ⟨by rfl, ?_⟩) (by assumption) ?_
  case refine_2 => (intro w hSw; go_simp <;> with_reducible rfl)
  try simp only [List.getElem_toArray, List.getElem_cons_zero, List.getElem_cons_succ, Act.put, List.setIfInBounds_toArray, List.set_cons_zero, List.set_cons_succ]
  clear hs1 hs2
  refine wpAnyH_ready (rs := [6]) (by kernel_rfl) (by simp) ?_
  refine AllReadyH.cons (o := _) rfl (fun K hK => ?_) AllReadyH.nil
  simp only [List.getElem_toArray, List.getElem_cons_zero, List.getElem_cons_succ]
  go_simp
  refine (HB.out _).mono ?_
  rintro e wn ⟨rfl, b⟩
  have Bn := Lib.hid (BB.out.trans (b.mono BB.out.size))
  have hH := hHeld.keep b
  clear b BB
  go_simp
  refine hK.out _ _ hH (fun hHeld2 => ?_)
  clear hK K hHeld hH
  have hHeld := hHeld2
  have BB := Bn
  clear hHeld2 Bn
  try simp only [List.getElem_toArray, List.getElem_cons_zero, List.getElem_cons_succ, Act.put, List.setIfInBounds_toArray, List.set_cons_zero, List.set_cons_succ]
  obtain ⟨hs1, hs2⟩ := C.out
  refine wpAnyH_take (i := 7) (oi := _) (v := ?_) rfl (by kernel_rfl) (by kernel_rfl) (by kernel_rfl) (fun _ _ _ h => h) (Or.inl ⟨by rfl, ?_⟩) (by assumption) ?_
  case refine_2 => (intro w hSw; go_simp <;> with_reducible rfl)
  try simp only [List.getElem_toArray, List.getElem_cons_zero, List.getElem_cons_succ, Act.put, List.setIfInBounds_toArray, List.set_cons_zero, List.set_cons_succ]
  refine wpAnyH_take (i := 8) (oi := _) (v := ?_) rfl (by kernel_rfl) (by kernel_rfl) (by kernel_rfl) (fun _ _ _ h => h) (Or.inl ⟨by rfl, ?_⟩) (by assumption) ?_
  case refine_2 => (intro w hSw; go_simp <;> with_reducible rfl)
  try simp only [List.getElem_toArray, List.getElem_cons_zero, List.getElem_cons_succ, Act.put, List.setIfInBounds_toArray, List.set_cons_zero, List.set_cons_succ]
  clear hs1 hs2
  refine wpAnyH_done (by kernel_rfl) ?_ _
  clear hHeld
  go_wp2_with fail
  rw [flow_cat]
  go_ret
  exact ⟨by rw [HV.out]; rfl, BB.out⟩

/-- One digit more, ahead. -/
theorem dig_cat (c : UInt8) (t : List UInt8) : (⟨[c].toArray⟩ : ByteArray) ++ ⟨t.toArray⟩ = ⟨(c :: t).toArray⟩ := by
  rw [ByteArray.mk_append_mk]
  simp

set_option maxRecDepth 100000 in
set_option maxHeartbeats 8000000 in
theorem rktext_any (a b : En) (x : Nat) (ha : a.2.1.length = 16) (hb : b.2.1.length = 16) (pa : a.2.2 < 65536) (pb : b.2.2 < 65536) (hx : x < 18446744073709551616) (w : World) :
    Calls Tryd.prog 12 #[.agg (keC a b x)] w fun e w' => e = .returned (.string ⟨(keyT a b x).toArray⟩) ∧ Below w.heap.size w w' := by
  have I0 := Lib.hid (And.intro ((Below.refl _ w).alloc (Nat.le_refl _) (.cells (keC a b x) 32)) (Blk.new w 32 (keC a b x)))
  have HT := Lib.hid (fun W => rtext_any a b ha hb pa pb W)
  have HF := Lib.hid (keC_flow a b x)
  have HI := Lib.hid (fl_info a b ha hb)
  have q36 : (w.alloc (.cells (keC a b x) 32)).cell? ⟨w.heap.size, 36, none⟩ = some (.int .u64 (x : Int)) := (I0.out.2.cell 36).trans (keC_xmit a b x ha hb)
  have la := enT_len a ha pa
  have lb := enT_len b hb pb
  have lt : (flowT a b).length ≤ 300 := by unfold flowT; simp; omega
  have HW := Lib.hid (show keyT a b x = flowT a b ++ 32 :: digK x 16 by rw [digK_hex]; rfl)
  have HS := Lib.hid (show ¬ 9223372036854775807 < (flowT a b).length + 1 ∧ ¬ 9223372036854775807 < (flowT a b).length + 1 + (digK x 16).length by rw [digK_len]; omega)
  clear la lb lt
  generalize keC a b x = cs at *
  generalize flC a b = cf at *
  generalize flowT a b = t at *
  generalize keyT a b x = kt at *
  clear ha hb pa pb
  go_enter Tryd.func12, Tryd.ntmps12
  go_wp2_with fail
  clear q36
  go_loopw [3, 4, 5] (fun s n i wr => ∃ k : Nat, k ≤ 16 ∧ i = .int .i64 k ∧ s = .string ⟨(digK x k).toArray⟩ ∧ n = .int .u64 ((x / 16 ^ k : Nat) : Int) ∧ Hid (Below w.heap.size w wr ∧ Blk wr w.heap.size 32 cs)) (fun _ _ i _ => 16 - (intOf i).toNat)
  case atStart => exact ⟨0, by omega, rfl, rfl, by rw [Nat.pow_zero, Nat.div_one], I0⟩
  case round =>
    clear I0
    obtain ⟨k, hk, rfl, rfl, rfl, I⟩ := hrel
    by_cases hlt : k < 16
    · have hq : x / 16 ^ k < 18446744073709551616 := Nat.lt_of_le_of_lt (Nat.div_le_self _ _) hx
      have HN := Lib.hid (show x / 16 ^ (k + 1) = x / 16 ^ k / 16 by rw [Nat.pow_succ, Nat.div_div_eq_div_mul])
      have HD := Lib.hid (show digK x (k + 1) = hxd (x / 16 ^ k % 16) :: digK x k from rfl)
      have HL := Lib.hid (digK_len x k)
      generalize x / 16 ^ k = q at *
      obtain ⟨r, hrd⟩ : ∃ r, r = q % 16 := ⟨_, rfl⟩
      obtain ⟨q', hqd⟩ : ∃ q', q' = q / 16 := ⟨_, rfl⟩
      rw [← hrd] at HD
      rw [← hqd] at HN
      have hr16 : r < 16 := by omega
      have hq1 : (q : Int) / 16 = (q' : Int) := by omega
      have hr1 : (q : Int) % 16 = (r : Int) := by omega
      have hw3 : IntKind.u64.wrap (48 + (r : Int)) = 48 + (r : Int) := by simp [IntKind.wrap, IntKind.bits, IntKind.signed]; omega
      have hw4 : IntKind.u64.wrap (87 + (r : Int)) = 87 + (r : Int) := by simp [IntKind.wrap, IntKind.bits, IntKind.signed]; omega
      have HWQ := Lib.hid (show IntKind.u64.wrap (q' : Int) = (q' : Int) by simp [IntKind.wrap, IntKind.bits, IntKind.signed]; omega)
      have hw1 : IntKind.u8.wrap (48 + (r : Int)) = 48 + (r : Int) := by simp [IntKind.wrap, IntKind.bits, IntKind.signed]; omega
      have hw2 : IntKind.u8.wrap (87 + (r : Int)) = 87 + (r : Int) := by simp [IntKind.wrap, IntKind.bits, IntKind.signed]; omega
      have hc : ((hxd r).toNat : Int) = if r < 10 then 48 + (r : Int) else 87 + (r : Int) := by
        unfold hxd
        by_cases h : r < 10
        · rw [if_pos h, if_pos h, UInt8.toNat_ofNat']; omega
        · rw [if_neg h, if_neg h, UInt8.toNat_ofNat']; omega
      have B1 := Lib.hid (And.intro (I.out.1.alloc I.out.1.size (.cells (bv [hxd r]).toArray 5)) (I.out.2.alloc (.cells (bv [hxd r]).toArray 5)))
      have hv := conv_str (P := Tryd.prog) (w := wr.alloc (.cells (bv [hxd r]).toArray 5)) (A := some ⟨wr.heap.size, 0, none⟩) (n := 1) (c := 1) (l := [hxd r]) ⟨rfl, Nat.le_refl _, by omega, fun _ => ⟨wr.heap.size, 0, rfl, fun k hk => by
        obtain rfl : k = 0 := by omega
        rw [World.cell?_alloc_new]; rfl⟩⟩ 57 9 Tryd.underlying57 Tryd.underlying5 Tryd.underlying9
      rw [show (bv [hxd r]).toArray = #[.int .u8 ((hxd r).toNat : Int)] from rfl] at hv B1
      have hs : ¬ 9223372036854775807 < 1 + (digK x k).length := by rw [HL.out]; omega
      have HC := Lib.hid (dig_cat (hxd r) (digK x k))
      have HE := Lib.hid (show (⟨(digK x (k + 1)).toArray⟩ : ByteArray) = ⟨(hxd r :: digK x k).toArray⟩ by rw [HD.out])
      generalize digK x k = dk at *
      generalize hxd r = cc at *
      clear hrd hqd hq I HD HL
      by_cases h10 : r < 10
      · have h10' : (r : Int) < 10 := by omega
        rw [if_pos h10] at hc
        rw [hc] at hv B1
        clear hc h10 hr16
        go_wp2
        go_roundw
        case rel => exact ⟨k + 1, by omega, by go_num, by rw [HE.out, ← HC.out], by rw [HN.out, HWQ.out], B1⟩
        case measure => simp [intOf]; omega
      · have h10' : ¬ (r : Int) < 10 := by omega
        rw [if_neg h10] at hc
        rw [hc] at hv B1
        clear hc h10 hr16
        go_wp2
        go_roundw
        case rel => exact ⟨k + 1, by omega, by go_num, by rw [HE.out, ← HC.out], by rw [HN.out, HWQ.out], B1⟩
        case measure => simp [intOf]; omega
    · obtain rfl : k = 16 := by omega
      have I2 := I
      clear I
      obtain ⟨hs1, hs2⟩ := HS.out
      generalize digK x 16 = dk at *
      go_wp2_with (refine wpList_load_part 29 (.tmp 33) w.heap.size 0 32 cs cf.toList _ I2.out.2 HF.out (by rfl) (by rfl) Tryd.underlying29 rfl HI.out (by rfl) ?_)
      refine (HT.out _).mono ?_
      rintro e w2 ⟨rfl, b⟩
      have B2 := Lib.hid (I2.out.1.trans (b.mono I2.out.1.size))
      clear b I2 HT
      go_wp2_with fail
      rw [key_cat]
      go_ret
      exact ⟨by rw [HW.out]; rfl, B2.out⟩
end Go.Proofs.YtonafonhadocgaaDoor

/- Arguments opened to what the walks are told of them. -/
namespace Go.Proofs.YtonafonhadocgaaDoor
open Go.ChangeShapes Go.WideShapes Go.ChangeAt Go.RowKit

theorem own : ownKnob Tryd.prog.godebug = none := by kernel_rfl
theorem laidOut : laidOutB Tryd.prog = true := by kernel_rfl

section
variable {H : Type} {enc : TypeId × Value → H} {W : World} {base : Nat} {held : Bool}

theorem rd_of_trod {fuel : Nat} {v : Value} {x : DataW H × List MemPlace} (h : DataW.trod enc Tryd.prog W base (fun _ => true) held fuel 57 [v] = some x) :
    ∃ A n c l, v = .slice A n c ∧ Rd W A n c l := by
  rcases open_ints Tryd.underlying57 Tryd.underlying5 (by kernel_rfl) h with ⟨hcs, _⟩ | ⟨a, n, c, zs, hcs, _, hl, hm, hz, _, hcell, hwz⟩
  · injection hcs with hv _
    exact ⟨none, 0, 0, [], hv, Rd.nil W⟩
  · injection hcs with hv _
    refine ⟨some a, n, c, (zs.take n).map fun z => UInt8.ofNat z.toNat, hv, ?_⟩
    have hzl : zs.length = c := by simpa using hz
    refine ⟨by simp; omega, hl, by simpa [maxLen] using hm, fun hn => ?_⟩
    have hc0 := hcell 0 (by omega)
    obtain ⟨b, off, spot⟩ := a
    have hspot : spot = none := by simpa [Addr.add] using World.cell?_spot hc0
    subst hspot
    refine ⟨b, off, rfl, fun k hk => ?_⟩
    have e := hcell k (by omega)
    have hadd : (⟨b, off, none⟩ : Addr).add k = ⟨b, off + k, none⟩ := by unfold Addr.add; split <;> simp_all
    rw [hadd] at e
    rw [e]
    have hkz : k < zs.length := by omega
    have hw := bounds_u8 (hwz (zs[k]) (List.getElem_mem hkz))
    simp only [List.getD, List.getElem?_eq_getElem hkz, Option.getD_some]
    have h2 : ((zs.take n).map fun z => UInt8.ofNat z.toNat)[k]? = some (UInt8.ofNat (zs[k]).toNat) := by
      rw [List.getElem?_map, List.getElem?_take, if_pos hk, List.getElem?_eq_getElem hkz]
      rfl
    rw [h2]
    congr 2
    simp only [Option.getD_some, UInt8.toNat_ofNat']
    omega

theorem int_of_trod {fuel : Nat} {t : TypeId} {k : IntKind} {v : Value} {x : DataW H × List MemPlace} (ht : Tryd.prog.underlying t = some (.int k)) (h : DataW.trod enc Tryd.prog W base (fun _ => true) held fuel t [v] = some x) :
    ∃ z, v = .int k z ∧ (Lit.int k z).wf = true := by
  obtain ⟨z, hv, _, hw⟩ := DataW.trod_int ht h
  injection hv with hv _
  exact ⟨z, hv, hw⟩
theorem bool_of_trod {fuel : Nat} {t : TypeId} {v : Value} {x : DataW H × List MemPlace} (ht : Tryd.prog.underlying t = some .bool) (h : DataW.trod enc Tryd.prog W base (fun _ => true) held fuel t [v] = some x) :
    ∃ z, v = .bool z := by
  obtain ⟨z, hv, _⟩ := DataW.trod_bool ht h
  injection hv with hv _
  exact ⟨z, hv⟩
end
end Go.Proofs.YtonafonhadocgaaDoor

/- An address as an argument: its cells. What the row's own condition gives of the library's variables. The wrap that keeps the world's shape. -/
namespace Go.Proofs.YtonafonhadocgaaDoor
open Go.ChangeShapes Go.WideShapes Go.ChangeAt Go.RowKit Go.Shelf

section
variable {H : Type} {enc : TypeId × Value → H}

/-- An array of integers that reads: its cells. -/
theorem ints_of_array {P : Program} {w : World} {base : Nat} {sp : Nat → Bool} {held : Bool} {fuel : Nat} {t e : TypeId} {n : Nat} {k : IntKind} {cs : List Value} {x : DataW H × List MemPlace}
    (ht : P.underlying t = some (.array n e)) (he : P.underlying e = some (.int k)) (hce : P.cellsOf e = 1) (_hl : cs.length = n)
    (h : DataW.trod enc P w base sp held fuel t cs = some x) : ∀ i, i < n → ∃ z, cs[i]? = some (.int k z) ∧ (Lit.int k z).wf = true := by
  cases fuel with
  | zero => simp [DataW.trod] at h
  | succ fuel =>
    simp only [DataW.trod, ht, hce, Nat.mul_one] at h
    split at h
    · obtain ⟨xs, hm, hx⟩ := Option.map_eq_some_iff.1 h
      intro i hi
      obtain ⟨b, hb, hf⟩ := Lib.mapM_at hm i i (by simp [hi])
      obtain ⟨z, hc, _, hw⟩ := DataW.trod_int he hf
      refine ⟨z, ?_, hw⟩
      have := congrArg (·[0]?) hc
      simpa [List.getElem?_take, List.getElem?_drop] using this
    · cases h
/-- Cells that are bytes all. -/
theorem bytes_of_cells (cs : List Value) (n : Nat) (hl : cs.length = n) (h : ∀ i, i < n → ∃ z, cs[i]? = some (.int .u8 z) ∧ (Lit.int .u8 z).wf = true) : ∃ l : List UInt8, l.length = n ∧ cs = bv l := by
  induction cs generalizing n with
  | nil => exact ⟨[], hl, rfl⟩
  | cons c r ih =>
    simp only [List.length_cons] at hl
    obtain ⟨z, hz, hw⟩ := h 0 (by omega)
    rw [List.getElem?_cons_zero] at hz
    injection hz with hz
    obtain ⟨l, hl', hr⟩ := ih (n - 1) (by omega) (fun i hi => by
      have := h (i + 1) (by omega)
      rw [List.getElem?_cons_succ] at this
      exact this)
    have hb := bounds_u8 hw
    refine ⟨UInt8.ofNat z.toNat :: l, by simp; omega, ?_⟩
    rw [hz, hr, bv, bv, List.map_cons, UInt8.toNat_ofNat']
    congr 2
    omega

variable {W : World} {base : Nat} {held : Bool}
set_option maxRecDepth 100000 in
theorem addr_of_trod {fuel : Nat} {cs : List Value} {x : DataW H × List MemPlace} (hsz : cs.length = 17) (h : DataW.trod enc Tryd.prog W base (fun _ => true) held fuel 24 cs = some x) :
    ∃ (u : Bool) (l : List UInt8), cs = (adC u l).toList ∧ l.length = 16 := by
  obtain ⟨xs, n, _, _, _, hlen, hg⟩ := DataW.trod_struct Tryd.underlying24 h
  have hxs : xs.length = 2 := hlen
  have C1 : Tryd.prog.cellsOf 4 = 1 := by kernel_rfl
  have C16 : Tryd.prog.cellsOf 22 = 16 := by kernel_rfl
  have C8 : Tryd.prog.cellsOf 5 = 1 := by kernel_rfl
  match xs, hxs with
  | [y0, y1], _ =>
    have h0 := hg 0 _ rfl
    have h1 := hg 1 _ rfl
    simp [C1] at h0
    simp [C16] at h1
    cases cs with
    | nil => cases hsz
    | cons c0 r =>
      have hr : r.length = 16 := by simpa using hsz
      simp only [List.take_succ_cons, List.take_zero] at h0
      obtain ⟨u, hu, _⟩ := DataW.trod_bool Tryd.underlying4 h0
      injection hu with hu
      subst hu
      rw [List.tail_cons, List.take_of_length_le (by omega)] at h1
      obtain ⟨l, hl, rfl⟩ := bytes_of_cells r 16 hr (ints_of_array Tryd.underlying22 Tryd.underlying5 C8 hr h1)
      exact ⟨u, l, rfl, hl⟩
set_option maxRecDepth 100000 in
theorem open_addr {r : Reach} {b0 : Nat} {v : Value} {d : DataW H} {pl : List MemPlace} (hv : Value.okWide Tryd.prog W r b0 24 v) (h : DataW.Trod enc Tryd.prog W base (fun _ => true) held 24 v d pl) :
    ∃ (u : Bool) (l : List UInt8), v = .agg (adC u l) ∧ l.length = 16 := by
  obtain ⟨cs, rfl, hsz⟩ := okWide_struct Tryd.underlying24 hv
  have hC : Tryd.prog.cellsOf 24 = 17 := by kernel_rfl
  obtain ⟨fuel, hf⟩ := h
  obtain ⟨L⟩ := cs
  obtain ⟨u, l, e, hl⟩ := addr_of_trod (hsz.trans hC) (by simpa [Value.cells] using hf)
  exact ⟨u, l, by rw [show L = (adC u l).toList from e], hl⟩
end

/-! ### The library's variables -/
theorem lib_pow : Tryd.prog.globalNamed "internal/strconv.uint64pow10" = some 1 := by kernel_rfl
theorem lib_bru : Tryd.prog.globalNamed "math/bits.deBruijn64tab" = some 5 := by kernel_rfl
theorem lib_syn : Tryd.prog.globalNamed "strconv.ErrSyntax" = some 2 := by kernel_rfl
theorem lib_rng : Tryd.prog.globalNamed "strconv.ErrRange" = some 3 := by kernel_rfl
end Go.Proofs.YtonafonhadocgaaDoor

/- Flows and keys as arguments, and rows of them: their cells. -/
namespace Go.Proofs.YtonafonhadocgaaDoor
open Go.ChangeShapes Go.WideShapes Go.ChangeAt Go.RowKit Go.Shelf

theorem u16_bd {n : Int} (h : (Lit.int .u16 n).wf = true) : 0 ≤ n ∧ n ≤ 65535 := by
  simp [Lit.wf, IntKind.min, IntKind.max, IntKind.signed, IntKind.bits] at h
  omega
theorem u64_bd {n : Int} (h : (Lit.int .u64 n).wf = true) : 0 ≤ n ∧ n ≤ 18446744073709551615 := by
  simp [Lit.wf, IntKind.min, IntKind.max, IntKind.signed, IntKind.bits] at h
  omega
theorem kc64 : Tryd.prog.cellsOf 30 = 1 := by kernel_rfl
theorem kcK : Tryd.prog.cellsOf 32 = 37 := by kernel_rfl
section
variable {H : Type} {enc : TypeId × Value → H} {W : World} {base : Nat} {held : Bool}
set_option maxRecDepth 100000 in
theorem ends_of_trod {fuel : Nat} {cs : List Value} {x : DataW H × List MemPlace} (hsz : cs.length = 18) (h : DataW.trod enc Tryd.prog W base (fun _ => true) held fuel 27 cs = some x) :
    ∃ e : En, cs = enL e ∧ e.2.1.length = 16 ∧ e.2.2 < 65536 := by
  obtain ⟨xs, n, _, _, _, hlen, hg⟩ := DataW.trod_struct Tryd.underlying27 h
  have hxs : xs.length = 2 := hlen
  match xs, hxs with
  | [y0, y1], _ =>
    have h0 : DataW.trod enc Tryd.prog W base (fun _ => true) held n 24 ((cs.drop 0).take (Tryd.prog.cellsOf 24)) = some y0 := hg 0 _ rfl
    have h1 : DataW.trod enc Tryd.prog W base (fun _ => true) held n 25 ((cs.drop 17).take (Tryd.prog.cellsOf 25)) = some y1 := hg 1 _ rfl
    rw [kcA, List.drop_zero] at h0
    rw [kc16] at h1
    obtain ⟨u, l, e1, hl⟩ := addr_of_trod (by rw [List.length_take]; omega) h0
    obtain ⟨z, e2, _, hw⟩ := DataW.trod_int Tryd.underlying25 h1
    have hb := u16_bd hw
    refine ⟨(u, l, z.toNat), ?_, hl, by dsimp only; omega⟩
    rw [List.take_of_length_le (by rw [List.length_drop, hsz]; decide)] at e2
    rw [← List.take_append_drop 17 cs, e1, e2]
    show Value.bool u :: bv l ++ [Value.int .u16 z] = Value.bool u :: (bv l ++ [Value.int .u16 (z.toNat : Int)])
    rw [show ((z.toNat : Nat) : Int) = z by omega]
    rfl
set_option maxRecDepth 100000 in
theorem flow_of_trod {fuel : Nat} {cs : List Value} {x : DataW H × List MemPlace} (hsz : cs.length = 36) (h : DataW.trod enc Tryd.prog W base (fun _ => true) held fuel 29 cs = some x) :
    ∃ f : En × En, cs = (flC f.1 f.2).toList ∧ FlOk f := by
  obtain ⟨xs, n, _, _, _, hlen, hg⟩ := DataW.trod_struct Tryd.underlying29 h
  have hxs : xs.length = 2 := hlen
  match xs, hxs with
  | [y0, y1], _ =>
    have h0 : DataW.trod enc Tryd.prog W base (fun _ => true) held n 27 ((cs.drop 0).take (Tryd.prog.cellsOf 27)) = some y0 := hg 0 _ rfl
    have h1 : DataW.trod enc Tryd.prog W base (fun _ => true) held n 27 ((cs.drop 18).take (Tryd.prog.cellsOf 27)) = some y1 := hg 1 _ rfl
    rw [kcE, List.drop_zero] at h0
    rw [kcE] at h1
    obtain ⟨a, e1, la, pa⟩ := ends_of_trod (by rw [List.length_take]; omega) h0
    rw [List.take_of_length_le (by rw [List.length_drop, hsz]; decide)] at h1
    obtain ⟨b, e2, lb, pb⟩ := ends_of_trod (by rw [List.length_drop, hsz]) h1
    refine ⟨(a, b), ?_, ⟨la, lb, pa, pb⟩⟩
    rw [← List.take_append_drop 18 cs, e1]
    show enL a ++ _ = enL a ++ enL b
    rw [← e2]
set_option maxRecDepth 100000 in
theorem key_of_trod {fuel : Nat} {cs : List Value} {x : DataW H × List MemPlace} (hsz : cs.length = 37) (h : DataW.trod enc Tryd.prog W base (fun _ => true) held fuel 32 cs = some x) :
    ∃ k : Ky, cs = (kyC k).toList ∧ KyOk k := by
  obtain ⟨xs, n, _, _, _, hlen, hg⟩ := DataW.trod_struct Tryd.underlying32 h
  have hxs : xs.length = 2 := hlen
  match xs, hxs with
  | [y0, y1], _ =>
    have h0 : DataW.trod enc Tryd.prog W base (fun _ => true) held n 29 ((cs.drop 0).take (Tryd.prog.cellsOf 29)) = some y0 := hg 0 _ rfl
    have h1 : DataW.trod enc Tryd.prog W base (fun _ => true) held n 30 ((cs.drop 36).take (Tryd.prog.cellsOf 30)) = some y1 := hg 1 _ rfl
    rw [kcF, List.drop_zero] at h0
    rw [kc64] at h1
    obtain ⟨f, e1, hf⟩ := flow_of_trod (by rw [List.length_take]; omega) h0
    obtain ⟨z, e2, _, hw⟩ := DataW.trod_int Tryd.underlying30 h1
    have hb := u64_bd hw
    refine ⟨(f, z.toNat), ?_, ⟨hf.la, hf.lb, hf.pa, hf.pb, by dsimp only; omega⟩⟩
    rw [List.take_of_length_le (by rw [List.length_drop, hsz]; decide)] at e2
    rw [← List.take_append_drop 36 cs, e1]
    show enL f.1 ++ enL f.2 ++ _ = enL f.1 ++ enL f.2 ++ [Value.int .u64 (z.toNat : Int)]
    rw [show ((z.toNat : Nat) : Int) = z by omega, ← e2]
set_option maxRecDepth 100000 in
theorem open_flow {r : Reach} {b0 : Nat} {v : Value} {d : DataW H} {pl : List MemPlace} (hv : Value.okWide Tryd.prog W r b0 29 v) (h : DataW.Trod enc Tryd.prog W base (fun _ => true) held 29 v d pl) :
    ∃ f : En × En, v = .agg (flC f.1 f.2) ∧ FlOk f := by
  obtain ⟨cs, rfl, hsz⟩ := okWide_struct Tryd.underlying29 hv
  obtain ⟨fuel, hf⟩ := h
  obtain ⟨L⟩ := cs
  obtain ⟨f, e, hl⟩ := flow_of_trod (hsz.trans kcF) (by simpa [Value.cells] using hf)
  exact ⟨f, by rw [show L = (flC f.1 f.2).toList from e], hl⟩
set_option maxRecDepth 100000 in
theorem open_key {r : Reach} {b0 : Nat} {v : Value} {d : DataW H} {pl : List MemPlace} (hv : Value.okWide Tryd.prog W r b0 32 v) (h : DataW.Trod enc Tryd.prog W base (fun _ => true) held 32 v d pl) :
    ∃ k : Ky, v = .agg (kyC k) ∧ KyOk k := by
  obtain ⟨cs, rfl, hsz⟩ := okWide_struct Tryd.underlying32 hv
  obtain ⟨fuel, hf⟩ := h
  obtain ⟨L⟩ := cs
  obtain ⟨k, e, hl⟩ := key_of_trod (hsz.trans kcK) (by simpa [Value.cells] using hf)
  exact ⟨k, by rw [show L = (kyC k).toList from e], hl⟩

/-! ### rows -/
/-- What each place holds, as one list. -/
theorem list_of_each {α : Type} (n : Nat) (p : Nat → α → Prop) (h : ∀ i, i < n → ∃ a, p i a) : ∃ l : List α, l.length = n ∧ ∀ i a, l[i]? = some a → p i a := by
  induction n with
  | zero => exact ⟨[], rfl, fun i a ha => by cases ha⟩
  | succ n ih =>
    obtain ⟨l, hl, hp⟩ := ih fun i hi => h i (by omega)
    obtain ⟨a, ha⟩ := h n (by omega)
    refine ⟨l ++ [a], by rw [List.length_append, hl]; rfl, fun i b hb => ?_⟩
    by_cases hi : i < l.length
    · rw [List.getElem?_append_left hi] at hb
      exact hp i b hb
    · have hi2 := (List.getElem?_eq_some_iff.1 hb).1
      rw [List.length_append] at hi2
      simp at hi2
      have e : i = l.length := by omega
      subst e
      rw [List.getElem?_append_right (Nat.le_refl _), Nat.sub_self] at hb
      injection hb with hb
      rw [← hb, hl]
      exact ha
theorem add_plain (b o m : Nat) : (⟨b, o, none⟩ : Addr).add m = ⟨b, o + m, none⟩ := by unfold Addr.add; split <;> simp_all
theorem cells_range {b off n j : Nat} {cs : List Value} (h : W.cells? base ((⟨b, off, none⟩ : Addr).add j) n = some cs) (hn : 0 < n) : b < W.heap.size ∧ W.rangeAt b (off + j) cs := by
  obtain ⟨_, hl, hc⟩ := World.cells?_some h
  have hb := World.cells?_block h hn
  rw [add_plain] at hb
  refine ⟨hb, fun i v hv => ?_⟩
  have hi := (List.getElem?_eq_some_iff.1 hv).1
  have := hc i (by omega)
  rw [add_plain, add_plain] at this
  rw [this, hv]
theorem cells_head {a : Addr} {n : Nat} {cs : List Value} (h : W.cells? base (a.add 0) n = some cs) (hn : 0 < n) : ∃ b off, a = ⟨b, off, none⟩ := by
  obtain ⟨_, hl, hc⟩ := World.cells?_some h
  have h0 := hc 0 hn
  rw [List.getElem?_eq_getElem (by omega)] at h0
  have hz : ∀ x : Addr, x.add 0 = x := fun x => by unfold Addr.add; rw [if_pos rfl]
  rw [hz, hz] at h0
  obtain ⟨b, off, spot⟩ := a
  have : spot = none := World.cell?_spot h0
  subst this
  exact ⟨b, off, rfl⟩
theorem keys_of_trod {fuel : Nat} {v : Value} {x : DataW H × List MemPlace} (h : DataW.trod enc Tryd.prog W base (fun _ => true) held fuel 42 [v] = some x) :
    ∃ A n c ks, v = .slice A n c ∧ RdK W A n c ks ∧ (∀ k ∈ ks, KyOk k) ∧ c ≤ 9223372036854775807 := by
  rcases Go.Deep.open_slice Tryd.underlying42 h with ⟨hcs, _⟩ | ⟨a, n, c, m, q, D, Pl, hcs, _, hl, hm, hmm, _, hi⟩
  · injection hcs with hv _
    exact ⟨none, 0, 0, [], hv, ⟨rfl, Nat.le_refl _, fun h => absurd h (by omega)⟩, fun k hk => (by cases hk), by omega⟩
  · injection hcs with hv _
    have hmc : m = c := by simpa using hmm
    obtain ⟨ks, hkl, hk⟩ := list_of_each n (fun i (k : Ky) => KyOk k ∧ W.cells? base (a.add (i * 37)) 37 = some (kyC k).toList) fun i hin => by
      obtain ⟨cs, h1, h2⟩ := hi i (by omega)
      rw [kcK] at h1
      obtain ⟨_, hcl, _⟩ := World.cells?_some h1
      obtain ⟨k, e, hk⟩ := key_of_trod hcl h2
      exact ⟨k, hk, by rw [h1, e]⟩
    refine ⟨some a, n, c, ks, hv, ⟨hkl, hl, fun hn => ?_⟩, fun k hkm => ?_, by simpa [maxLen] using hm⟩
    · obtain ⟨k0, hk0⟩ : ∃ k0, ks[0]? = some k0 := ⟨ks[0]'(by omega), List.getElem?_eq_getElem _⟩
      have h0 := (hk 0 k0 hk0).2
      rw [Nat.zero_mul] at h0
      obtain ⟨b, off, rfl⟩ := cells_head h0 (by omega)
      exact ⟨b, off, rfl, (cells_range h0 (by omega)).1, fun j k hj => (cells_range (hk j k hj).2 (by omega)).2⟩
    · obtain ⟨i, hi'⟩ := List.getElem?_of_mem hkm
      exact (hk i k hi').1
end
end Go.Proofs.YtonafonhadocgaaDoor

/- What the row's own condition gives of the library's variables; the wrap that keeps the world's shape. -/
namespace Go.Proofs.YtonafonhadocgaaDoor
open Go.ChangeShapes Go.WideShapes Go.ChangeAt Go.RowKit Go.Shelf

theorem star : "*" ++ "errors.errorString" = "*errors.errorString" := by decide
theorem row_es (u : TypeId) (h : Tryd.prog.typeName? 3 u = some "*errors.errorString") : u = 156 :=
  typeName_ptr_named (nm := "errors.errorString") (by rw [star]; kernel_rfl) (by kernel_rfl) (by decide) u (by rw [star]; exact h)

abbrev dR : String × DataW Unit := ("strconv.ErrRange", Rows.laid_strconv_ErrRange)
abbrev dS : String × DataW Unit := ("strconv.ErrSyntax", Rows.laid_strconv_ErrSyntax)
abbrev d0 : String × DataW Unit := ("math/bits.deBruijn32tab", Rows.laid_math_bits_deBruijn32tab)
abbrev d1 : String × DataW Unit := ("math/bits.deBruijn64tab", Rows.laid_math_bits_deBruijn64tab)
abbrev d2 : String × DataW Unit := ("internal/strconv.uint64pow10", Rows.laid_internal_strconv_uint64pow10)
abbrev d3 : String × DataW Unit := ("unicode/utf8.acceptRanges", Rows.laid_unicode_utf8_acceptRanges)

theorem env_of_laid {W : World} (r : List (String × DataW Unit)) (hsh : W.ShapedOpen Tryd.prog) (h : laidMet Tryd.prog (d0 :: d1 :: d2 :: d3 :: dR :: dS :: r) W) : Env W := by
  have h2 := h.tail
  have h3 := h2.tail
  have h5 := h3.tail.tail
  have h6 := h5.tail
  obtain ⟨a0, s0, hv0, -, -, -⟩ := laid_sentinel h5 lib_rng (by kernel_rfl) Tryd.underlying81 row_es Tryd.underlying156 Tryd.underlying158 rfl rfl Tryd.underlying9 (by kernel_rfl) (by kernel_rfl)
  obtain ⟨a1, s1, hv1, -, -, -⟩ := laid_sentinel h6 lib_syn (by kernel_rfl) Tryd.underlying81 row_es Tryd.underlying156 Tryd.underlying158 rfl rfl Tryd.underlying9 (by kernel_rfl) (by kernel_rfl)
  have hb : Lib.TabIs Tryd.prog W "math/bits.deBruijn64tab" .u8 (Lib.deBruijn64tab.map fun n : Nat => (n : Int)) :=
    Lib.tabIs_of_head lib_bru (by kernel_rfl) Tryd.underlying160 Tryd.underlying5 (by kernel_rfl) (by kernel_rfl) h2
  refine ⟨lays146.s1_3 W hsh, Lib.tabIs_of_head lib_pow (by kernel_rfl) Tryd.underlying142 Tryd.underlying30 (by kernel_rfl) (by kernel_rfl) h3, fun j hj => ?_, ⟨_, _, hv1⟩, ⟨_, _, hv0⟩⟩
  have := hb.cell lib_bru j (by simpa using hj)
  rw [this]
  simp [List.getD, hj]

/-- The wrap of a row that lists variables, the world's shape kept. -/
theorem returnsInHanded_and_shaped {H : Type} {enc : TypeId × Value → H} {a : Assume} {C : Checked} {os : Os} {f : FuncId} {fn : Func} {s : ChangeSpec} {conds : List PathCond} {apart fresh handsOn again : Bool} {X : World → Array Value → Prop}
    (hX : ∀ (w w' : World) (args : Array Value), w.heap = w'.heap → X w args → X w' args)
    (own : ownKnob C.prog.godebug = none) (started : os.Started) (noInit : C.prog.inits.idxOf? f = none) (hfn : C.prog.funcs[f]? = some fn)
    (witness : ∃ (w : World) (tape : Tape) (i : Input), w.os = os ∧ (w.forCall tape i).Shaped C.prog ∧ i.vars = [] ∧ Input.okWide C.prog (w.forCall tape i) .any w.heap.size f i ∧
      ((s.pre enc C.prog fn conds apart (w.forCall tape i).memory i.args ∧ X (w.forCall tape i).memory i.args) ∧ sizedMet enc C.prog fn (OpenSpec.ofChange s) apart (w.forCall tape i).memory i.args) ∧ a.holds C.prog (lone (Frame.enter C.prog f i.args .normal) [] (w.forCall tape i)))
    (contract : ∀ (W : World) (base : Nat) (args : Array Value) (ds gs : List (DataW H)) (before : List MemPlace),
      (∀ (j : Nat) t v, fn.params[j]? = some t → args[j]? = some v → Value.okWide C.prog W .any base t v) →
      DataW.Whole enc C.prog fn.params.toList s.vars apart W args.toList ds gs before →
      conds.all (PathCond.test C.prog ⟨fn.params.toList, ds, s.plain.varTypes C.prog, gs⟩) = true →
      (DataW.weightsEach C.prog (fn.params.toList ++ s.plain.varTypes C.prog) (ds ++ gs)).all (· ≤ reachBytes) = true → X W args →
      W.ShapedOpen C.prog →
      Calls C.prog f args W fun e W' => ∃ v, e = .returned v ∧ s.post enc C.prog fn apart fresh handsOn again W args v W') :
    ReturnsInHanded a C os f .any (fun w args => (s.pre enc C.prog fn conds apart w args ∧ X w args) ∧ sizedMet enc C.prog fn (OpenSpec.ofChange s) apart w args) (s.post enc C.prog fn apart fresh handsOn again) := by
  refine returnsInHanded_of_calls own started noInit witness ?_
  intro w tape i _ hsh _ hok hpre _
  obtain ⟨_, _, _, fn', hfn', _, _, _, _, hval⟩ := hok
  have e : fn' = fn := Option.some.inj (hfn'.symm.trans hfn)
  subst e
  obtain ⟨⟨⟨ds, gs, before, hw, hc⟩, hx⟩, hz⟩ := hpre
  have hw' := DataW.Whole.of_heap (w' := w.forCall tape i) (by rfl) hw
  refine (contract (w.forCall tape i) w.heap.size i.args ds gs before hval hw' hc (hz.weights hw) (hX _ _ _ (by rfl) hx) hsh).mono fun e W' ⟨v, he, hp⟩ => ?_
  subst he
  exact ChangeSpec.post_blind hp

/-! ### A world that meets the condition -/
abbrev synS : ByteArray := { data := #[105, 110, 118, 97, 108, 105, 100, 32, 115, 121, 110, 116, 97, 120] }
abbrev rngS : ByteArray := { data := #[118, 97, 108, 117, 101, 32, 111, 117, 116, 32, 111, 102, 32, 114, 97, 110, 103, 101] }
/-- So many blocks has the settled world. -/
noncomputable def low : Nat := (World.holding Tryd.prog default ⟨#[], #[], []⟩).heap.size
/-- The settled world with two blocks more, each an error's text; the variables' cells laid. -/
noncomputable def laidWorld (os : Os) : World :=
  let w0 := World.holding Tryd.prog os ⟨#[.cells #[.string synS] 158, .cells #[.string rngS] 158], #[], []⟩
  let put (h : Array Obj) (g : Nat) (cs : Array Value) : Array Obj := h.modify g fun
    | .cells _ t frozen => .cells cs t frozen
    | o => o
  let h1 := put w0.heap 6 (Lib.firstTab.map fun z => Value.int .u8 z).toArray
  let h2 := put h1 7 ((List.range 16).flatMap fun i => [Value.int .u8 (Lib.accLo i), Value.int .u8 (Lib.accHi i)]).toArray
  let h3 := put h2 1 (Lib.pow10Tab.map fun z => Value.int .u64 z).toArray
  let h4 := put h3 5 (Lib.deBruijn64tab.map fun n : Nat => Value.int .u8 (n : Int)).toArray
  let h5 := put h4 4 ([0, 1, 28, 2, 29, 14, 24, 3, 30, 22, 20, 15, 25, 17, 4, 8, 31, 27, 13, 23, 21, 19, 16, 7, 26, 12, 18, 6, 11, 5, 10, 9].map fun z : Int => Value.int .u8 z).toArray
  let h6 := put h5 2 #[.iface 156 (.pointer (some ⟨low, 0, none⟩))]
  let h7 := put h6 3 #[.iface 156 (.pointer (some ⟨low + 1, 0, none⟩))]
  { w0 with heap := h7 }
abbrev d6 : String × DataW Unit := ("unicode/utf8.first", Rows.laid_unicode_utf8_first)
set_option maxRecDepth 100000 in
theorem laidWorld_met (os : Os) (args : Array Value) : laidMetH Tryd.prog [d0, d1, d2, d3, dR, dS, d6] ((laidWorld os).forCall (fun _ _ => 0) ⟨#[], args, []⟩).memory :=
  laidMetH_of_parts (LaidIn.of_run (l := [d0, d1, d2, d3, dR, dS, d6]) [4, 5, 1, 7, 3, 2, 6, low, low + 1] 8 (by kernel_rfl) (by kernel_rfl) (by kernel_rfl) (by kernel_rfl)).met (by kernel_rfl)
end Go.Proofs.YtonafonhadocgaaDoor
