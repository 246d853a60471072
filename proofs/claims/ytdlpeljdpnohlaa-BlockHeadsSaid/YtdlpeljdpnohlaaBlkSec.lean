/- The walks of block's Sec.Block and of the reference's Body. -/
import Derived.Test.YtdlpeljdpnohlaaPut
import Derived.Test.YtdlpeljdpnohlaaRef7
import Derived.Test.YtdlpeljdpnohlaaPad
import Derived.Test.YtdlpeljdpnohlaaAppZ
import Derived.Deep.RegionLaw
import Derived.Deep.RegionHeld3
import Derived.Deep.RegionWith
import Derived.Deep.DeepCutAuto
import Derived.Handy
namespace Go.Proofs.Ytdlpeljdpnohlaa
open Go.RowKit

def padOf (n : Nat) : Nat := (4 - n % 4) % 4
/-- The body of a section's head. -/
def bodyOf (L : Bool) (ma mi ln : Nat) (l : List UInt8) : List UInt8 :=
  bytesOf L 4 439041101 ++ bytesOf L 2 ma ++ bytesOf L 2 mi ++ bytesOf L 8 ln ++ l ++ List.replicate (padOf l.length) 0

set_option maxRecDepth 100000 in
set_option maxHeartbeats 3200000 in
theorem sec_block (A : Option Addr) (n c : Nat) (L : Bool) (ma mi ln : Int) (l : List UInt8) (w : World) (hr : Rd w A n c l) (hn : n ≤ 1048576)
    (ha : 0 ≤ ma ∧ ma ≤ 65535) (hi : 0 ≤ mi ∧ mi ≤ 65535) :
    Calls Try.prog 12 #[.agg #[.int .u16 ma, .int .u16 mi, .int .i64 ln, .slice A n c], .bool L] w fun e w' =>
      ∃ A' c', e = .returned (.agg #[.int .u32 168627466, .slice A' (16 + n + padOf n) c']) ∧ Below w.heap.size w w' ∧
        Own w' w.heap.size (.slice A' (16 + n + padOf n) c') (bodyOf L ma.toNat mi.toNat (IntKind.u64.wrap ln).toNat l) := by
  obtain ⟨i0, hi0, hz0, hz1, hz2⟩ := info_parts info_u8
  obtain ⟨ha0, ha1⟩ := ha
  obtain ⟨hi0', hi1⟩ := hi
  have hln0 : 0 ≤ IntKind.u64.wrap ln := by rw [IntKind.wrap_u64]; omega
  have hwa : IntKind.u64.wrap ma = ma := by rw [IntKind.wrap_u64]; omega
  have hwi : IntKind.u64.wrap mi = mi := by rw [IntKind.wrap_u64]; omega
  have HN := Lib.hid hr.1
  have HR := Lib.hid hr
  clear hr
  go_enter Try.func12, Try.ntmps12
  go_wp2_with fail
  have k1 := (Blk.new w 35 #[.int .u16 ma, .int .u16 mi, .int .i64 ln, .slice A n c]).alloc (.cells #[.int .u32 0, .slice none 0 0] 32)
  have k2 := Blk.new (w.alloc (.cells #[.int .u16 ma, .int .u16 mi, .int .i64 ln, .slice A n c] 35)) 32 #[.int .u32 0, .slice none 0 0]
  have b1 := ((Below.refl w.heap.size w).alloc (Nat.le_refl _) (.cells #[.int .u16 ma, .int .u16 mi, .int .i64 ln, .slice A n c] 35)).alloc (by simp) (.cells #[.int .u32 0, .slice none 0 0] 32)
  have hz1 : ((w.alloc (.cells #[.int .u16 ma, .int .u16 mi, .int .i64 ln, .slice A n c] 35)).alloc (.cells #[.int .u32 0, .slice none 0 0] 32)).heap.size = w.heap.size + 2 := by simp
  simp only [World.size_alloc] at k2
  generalize (w.alloc (.cells #[.int .u16 ma, .int .u16 mi, .int .i64 ln, .slice A n c] 35)).alloc (.cells #[.int .u32 0, .slice none 0 0] 32) = w1 at *
  have q0 := k1.cell 0
  have q1 := k1.cell 1
  have q2 := k1.cell 2
  have q3 := k1.cell 3
  have K1 := Lib.hid k1
  have K2 := Lib.hid k2
  have B1 := Lib.hid b1
  have HZ1 := Lib.hid hz1
  have hlt1 : w.heap.size < w1.heap.size := by omega
  have hlt2 : w.heap.size + 1 < w1.heap.size := by omega
  simp at q0 q1 q2 q3
  clear k1 k2 b1 hz1
  go_upto_region 1 with (fail)
  go_cut [5] (fun s wx => ∃ g A' c', s = .pointer (some ⟨g, 0, none⟩) ∧ Blk wx g 55 #[.slice A' 16 c', .bool L] ∧ w1.heap.size ≤ g ∧ some g ≠ (Value.slice A' 16 c').ownBlock ∧
     Own wx w1.heap.size (.slice A' 16 c') (bytesOf L 4 439041101 ++ bytesOf L 2 ma.toNat ++ bytesOf L 2 mi.toNat ++ bytesOf L 8 (IntKind.u64.wrap ln).toNat) ∧ Below w1.heap.size w1 wx)
  case first =>
    go_region_held3 (fun w' => w'.cell? ⟨w.heap.size, 0, none⟩ = some (.int .u16 ma) ∧ w'.cell? ⟨w.heap.size, 1, none⟩ = some (.int .u16 mi) ∧ w'.cell? ⟨w.heap.size, 2, none⟩ = some (.int .i64 ln)) (first | assumption | exact Xa.out | exact Xb.out | exact Xd.out | exact Xf.out | go_keep | exact carry3set (by simp; omega) _ (carry3set (by simp; omega) _ Xf.out))
      (first
        | (go_at_call_of 20 (Value.int IntKind.u64 439041101); refine (put_any none 0 0 L _ 4 4 _ _ (Rd.nil _) (by omega) (by omega) (by omega) (by omega) (by omega)).mono ?_; rintro e wa ⟨Aa, ca, rfl, hba, hoa⟩; obtain ⟨hca, hfa⟩ := bcell hba; have hza := hba.size; (try simp only [World.size_alloc, World.size_drew] at hza); have sa := carry3 (b := w.heap.size) (v0 := .int .u16 ma) (v1 := .int .u16 mi) (v2 := .int .i64 ln) hba (by first | assumption | go_keep); have Xa := Lib.hid sa; have ya : w.heap.size < wa.heap.size := World.block_lt_of_cell? wa _ sa.1; have va : w1.heap.size ≤ wa.heap.size := (by have := hba.size; (try simp at this); omega); have La : Below w1.heap.size w1 wa := (by first | exact (Below.refl w1.heap.size w1).drew.trans (hba.mono (Nat.le_refl _)) | exact ((Below.refl w1.heap.size w1).alloc (Nat.le_refl _) _).drew.trans (hba.mono (by simp))); have HLa := Lib.hid La; clear La; (try (have gw1a := (Blk.new w1 55 #[.slice none 0 0, .bool false]).drew.keep hba; have gw1a0 := gw1a.cell 0; have gw1a1 := gw1a.cell 1; have gw1a2 := gw1a.frozen 0; have gw1a3 := gw1a.frozen 1; simp at gw1a0 gw1a1; have Gw1a := Lib.hid gw1a; clear gw1a)))
        | (go_at_call_of 20 (Value.int IntKind.u64 ma); refine (put_any Aa 4 ca L _ 2 6 _ _ (by first | exact hoa.rd | exact hoa.rd.alloc _ | exact hoa.rd.drew) (by omega) (by omega) (by omega) (by omega) (by omega)).mono ?_; rintro e wb ⟨Ab, cb, rfl, hbb, hob⟩; obtain ⟨hcb, hfb⟩ := bcell hbb; have hzb := hbb.size; (try simp only [World.size_alloc] at hzb); have sb := carry3 (b := w.heap.size) (v0 := .int .u16 ma) (v1 := .int .u16 mi) (v2 := .int .i64 ln) hbb (by first | assumption | go_keep); have Xb := Lib.hid sb; have yb : w.heap.size < wb.heap.size := World.block_lt_of_cell? wb _ sb.1; have vb : w1.heap.size ≤ wb.heap.size := (by have := hbb.size; (try simp at this); omega); have Lb : Below w1.heap.size w1 wb := (by first | exact HLa.out.trans (hbb.mono va) | exact (HLa.out.alloc va _).trans (hbb.mono (by simp; omega))); have HLb := Lib.hid Lb; clear Lb; (try (have gwab := (Blk.new wa 55 #[.slice none 0 0, .bool false]).keep hbb; have gwab0 := gwab.cell 0; have gwab1 := gwab.cell 1; have gwab2 := gwab.frozen 0; have gwab3 := gwab.frozen 1; simp at gwab0 gwab1; have Gwab := Lib.hid gwab; clear gwab)); (try (have gw1b := Gw1a.out.keep hbb; have gw1b0 := gw1b.cell 0; have gw1b1 := gw1b.cell 1; have gw1b2 := gw1b.frozen 0; have gw1b3 := gw1b.frozen 1; simp at gw1b0 gw1b1; have Gw1b := Lib.hid gw1b; clear gw1b)))
        | (go_at_call_of 20 (Value.int IntKind.u64 mi); refine (put_any Ab 6 cb L _ 2 8 _ _ (by first | exact hob.rd | exact hob.rd.alloc _ | exact hob.rd.drew) (by omega) (by omega) (by omega) (by omega) (by omega)).mono ?_; rintro e wd ⟨Ad, cd, rfl, hbd, hod⟩; obtain ⟨hcd, hfd⟩ := bcell hbd; have hzd := hbd.size; (try simp only [World.size_alloc] at hzd); have sd := carry3 (b := w.heap.size) (v0 := .int .u16 ma) (v1 := .int .u16 mi) (v2 := .int .i64 ln) hbd (by first | assumption | go_keep); have Xd := Lib.hid sd; have yd : w.heap.size < wd.heap.size := World.block_lt_of_cell? wd _ sd.1; have vd : w1.heap.size ≤ wd.heap.size := (by have := hbd.size; (try simp at this); omega); have Ld : Below w1.heap.size w1 wd := (by first | exact HLb.out.trans (hbd.mono vb) | exact (HLb.out.alloc vb _).trans (hbd.mono (by simp; omega))); have HLd := Lib.hid Ld; clear Ld; (try (have gwbd := (Blk.new wb 55 #[.slice none 0 0, .bool false]).keep hbd; have gwbd0 := gwbd.cell 0; have gwbd1 := gwbd.cell 1; have gwbd2 := gwbd.frozen 0; have gwbd3 := gwbd.frozen 1; simp at gwbd0 gwbd1; have Gwbd := Lib.hid gwbd; clear gwbd)); (try (have gw1d := Gw1b.out.keep hbd; have gw1d0 := gw1d.cell 0; have gw1d1 := gw1d.cell 1; have gw1d2 := gw1d.frozen 0; have gw1d3 := gw1d.frozen 1; simp at gw1d0 gw1d1; have Gw1d := Lib.hid gw1d; clear gw1d)); (try (have gwad := Gwab.out.keep hbd; have gwad0 := gwad.cell 0; have gwad1 := gwad.cell 1; have gwad2 := gwad.frozen 0; have gwad3 := gwad.frozen 1; simp at gwad0 gwad1; have Gwad := Lib.hid gwad; clear gwad)))
        | (go_at_call_of 20 (Value.int IntKind.u64 (IntKind.u64.wrap ln)); refine (put_any Ad 8 cd L _ 8 16 _ _ (by first | exact hod.rd | exact hod.rd.alloc _ | exact hod.rd.drew) (by omega) (by omega) (by omega) (by omega) (by omega)).mono ?_; rintro e wf ⟨Af, cf, rfl, hbf, hof⟩; obtain ⟨hcf, hff⟩ := bcell hbf; have hzf := hbf.size; (try simp only [World.size_alloc] at hzf); have sf := carry3 (b := w.heap.size) (v0 := .int .u16 ma) (v1 := .int .u16 mi) (v2 := .int .i64 ln) hbf (by first | assumption | go_keep); have Xf := Lib.hid sf; have yf : w.heap.size < wf.heap.size := World.block_lt_of_cell? wf _ sf.1; have vf : w1.heap.size ≤ wf.heap.size := (by have := hbf.size; (try simp at this); omega); have Lf : Below w1.heap.size w1 wf := (by first | exact HLd.out.trans (hbf.mono vd) | exact (HLd.out.alloc vd _).trans (hbf.mono (by simp; omega))); have HLf := Lib.hid Lf; clear Lf; (try (have gwdf := (Blk.new wd 55 #[.slice none 0 0, .bool false]).keep hbf; have gwdf0 := gwdf.cell 0; have gwdf1 := gwdf.cell 1; have gwdf2 := gwdf.frozen 0; have gwdf3 := gwdf.frozen 1; simp at gwdf0 gwdf1; have Gwdf := Lib.hid gwdf; clear gwdf)); (try (have gw1f := Gw1d.out.keep hbf; have gw1f0 := gw1f.cell 0; have gw1f1 := gw1f.cell 1; have gw1f2 := gw1f.frozen 0; have gw1f3 := gw1f.frozen 1; simp at gw1f0 gw1f1; have Gw1f := Lib.hid gw1f; clear gw1f)); (try (have gwaf := Gwad.out.keep hbf; have gwaf0 := gwaf.cell 0; have gwaf1 := gwaf.cell 1; have gwaf2 := gwaf.frozen 0; have gwaf3 := gwaf.frozen 1; simp at gwaf0 gwaf1; have Gwaf := Lib.hid gwaf; clear gwaf)); (try (have gwbf := Gwbd.out.keep hbf; have gwbf0 := gwbf.cell 0; have gwbf1 := gwbf.cell 1; have gwbf2 := gwbf.frozen 0; have gwbf3 := gwbf.frozen 1; simp at gwbf0 gwbf1; have Gwbf := Lib.hid gwbf; clear gwbf))))
    · go_wp2_with fail
      go_meet
      refine ⟨wf.heap.size, Af, cf, rfl, Blk.new wf _ _, vf, hof.ne_ (.inl (Nat.le_refl _)), ?_, ?_⟩
      · exact (hof.alloc _).mono (by go_size)
      · exact HLf.out.alloc vf _
    · go_wp2_with fail
      go_meet
      refine ⟨wd.heap.size, Af, cf, rfl, (Gwdf.out.set_ 0 (.slice Af 16 cf)).set_ 1 (.bool L), vd, hof.ne_ (.inr (by go_size)), ?_, ?_⟩
      · exact ((hof.setFar (a := ⟨wd.heap.size, 0, none⟩) (hof.ne_ (.inr (by go_size))) _).setFar (a := ⟨wd.heap.size, 1, none⟩) (hof.ne_ (.inr (by go_size))) _).mono (by go_size)
      · exact (HLf.out.setCell (p := ⟨wd.heap.size, 0, none⟩) (vd) _).setCell (p := ⟨wd.heap.size, 1, none⟩) (vd) _
    · go_wp2_with fail
      go_meet
      refine ⟨wb.heap.size, Af, cf, rfl, (Gwbf.out.set_ 0 (.slice Af 16 cf)).set_ 1 (.bool L), vb, hof.ne_ (.inr (by go_size)), ?_, ?_⟩
      · exact ((hof.setFar (a := ⟨wb.heap.size, 0, none⟩) (hof.ne_ (.inr (by go_size))) _).setFar (a := ⟨wb.heap.size, 1, none⟩) (hof.ne_ (.inr (by go_size))) _).mono (by go_size)
      · exact (HLf.out.setCell (p := ⟨wb.heap.size, 0, none⟩) (vb) _).setCell (p := ⟨wb.heap.size, 1, none⟩) (vb) _
    · go_wp2_with fail
      go_meet
      refine ⟨wa.heap.size, Af, cf, rfl, (Gwaf.out.set_ 0 (.slice Af 16 cf)).set_ 1 (.bool L), va, hof.ne_ (.inr (by go_size)), ?_, ?_⟩
      · exact ((hof.setFar (a := ⟨wa.heap.size, 0, none⟩) (hof.ne_ (.inr (by go_size))) _).setFar (a := ⟨wa.heap.size, 1, none⟩) (hof.ne_ (.inr (by go_size))) _).mono (by go_size)
      · exact (HLf.out.setCell (p := ⟨wa.heap.size, 0, none⟩) (va) _).setCell (p := ⟨wa.heap.size, 1, none⟩) (va) _
    · go_wp2_with fail
      go_meet
      refine ⟨w1.heap.size, Af, cf, rfl, (Gw1f.out.set_ 0 (.slice Af 16 cf)).set_ 1 (.bool L), Nat.le_refl _, hof.ne_ (.inr (by go_size)), ?_, ?_⟩
      · exact ((hof.setFar (a := ⟨w1.heap.size, 0, none⟩) (hof.ne_ (.inr (by go_size))) _).setFar (a := ⟨w1.heap.size, 1, none⟩) (hof.ne_ (.inr (by go_size))) _).mono (by go_size)
      · exact (HLf.out.setCell (p := ⟨w1.heap.size, 0, none⟩) (Nat.le_refl _) _).setCell (p := ⟨w1.heap.size, 1, none⟩) (Nat.le_refl _) _
  case rest =>
  obtain ⟨g, A2, c2, rfl, kg, hg, hne, ho2, hb2⟩ := hcut
  have p0 := kg.cell 0
  have p2 := kg.frozen 0
  have kB := K1.out.below hb2 (by omega)
  have q3 := kB.cell 3
  have HKB := Lib.hid kB
  have HKR := Lib.hid (K2.out.below hb2 (by omega))
  have HKg := Lib.hid kg
  have HO2 := Lib.hid ho2
  have B2 := Lib.hid (B1.out.trans (hb2.mono (by omega)))
  have HR2 := Lib.hid (HR.out.below B2.out)
  have HS2 := Lib.hid hb2.size
  have HNE := Lib.hid hne
  have hlt3 := kg.lt
  simp at p0 q3
  clear kg hne ho2 hb2 kB K1 K2 B1 HR q0 q1 q2
  go_wp2_with (at_builtin; refine wpList_append_rd _ rfl (.tmp 22) (.tmp 24) 22 rfl w1.heap.size i0 _ Try.underlying22 hi0 hz0 hz1 hz2 rfl _ _ rfl HO2.out A n c l rfl HR2.out ?h63 HS2.out (16 + n) ?h65 ?_)
  case h63 => rw [HO2.out.len_]; omega
  case h65 => rw [HO2.out.len_]
  intro A3 c3 w3 ho3 hb3 hg3 hat3
  have kg3 := HKg.out.grown hg3 HNE.out
  have r0 := kg3.cell 0
  have r2 := kg3.frozen 0
  have hne3 := apart_after hat3 HNE.out hlt3
  have HO4 := Lib.hid (ho3.setFar (a := ⟨g, 0, none⟩) hne3 (.slice A3 (16 + n) c3))
  have kg4 := kg3.set_ 0 (.slice A3 (16 + n) c3)
  have kB4 := (HKB.out.below hb3 (by omega)).far (p := ⟨g, 0, none⟩) (by simp; omega) (.slice A3 (16 + n) c3)
  have kR4 := (HKR.out.below hb3 (by omega)).far (p := ⟨g, 0, none⟩) (by simp; omega) (.slice A3 (16 + n) c3)
  have B4 := Lib.hid ((B2.out.trans (hb3.mono (by omega))).setCell (p := ⟨g, 0, none⟩) (by simp; omega) (.slice A3 (16 + n) c3))
  have hz4 : w1.heap.size ≤ (w3.setCell ⟨g, 0, none⟩ (.slice A3 (16 + n) c3)).heap.size := by
    have h1 := hb3.size
    have h2 := HS2.out
    simp; omega
  clear kg3 hb3 hg3 hat3 ho3 HO2 HR2 B2 HS2 HKB HKR HKg q3 p0 p2 HNE
  simp at r0
  go_wp2_with fail
  have hne4 := Lib.hid hne3
  clear r0 r2 hne3
  generalize w3.setCell ⟨g, 0, none⟩ (.slice A3 (16 + n) c3) = w4 at *
  have p0 := kg4.cell 0
  have p3 := kB4.cell 3
  have p4 := kR4.cell 0
  have p5 := kR4.cell 1
  have p6 := kR4.frozen 0
  have p7 := kR4.frozen 1
  have HB4 := Lib.hid kB4
  have HR4 := Lib.hid kR4
  have hlt5 : w.heap.size + 1 < w4.heap.size := kR4.lt
  simp at p0 p3 p4 p5
  clear kg4 kB4 kR4
  obtain ⟨pd, hpd⟩ : ∃ pd : Nat, pd = padOf n := ⟨_, rfl⟩
  have hq : -(n : Int) % 4 = (pd : Int) := by rw [hpd]; unfold padOf; omega
  have hp3 : pd ≤ 3 := by rw [hpd]; unfold padOf; omega
  have HPD := Lib.hid hpd
  clear hpd
  have hz5 : w1.heap.size ≤ w4.drew.heap.size := hz4
  go_region_law (first | (refine step_append_zeros _ rfl (.tmp 28) (.tmp 32) 22 3 rfl w1.heap.size i0 Try.underlying22 Try.underlying3 hi0 hz0 hz1 hz2 A3 (16 + n) c3 _ (by simp [Act.eval]) HO4.out.drew (by omega) pd (pd : Int) rfl (by simp [Act.eval]) (by omega) hz5 (16 + n + pd) rfl ?_; intro A5 c5 w5 ho5 hb5 hg5 hat5; have HO5 := Lib.hid ho5; have HB5 := Lib.hid hb5; have p8 := (hb5.cell (p := ⟨w.heap.size + 1, 0, none⟩) hlt2).trans p4; have p9 := (hb5.cell (p := ⟨w.heap.size + 1, 1, none⟩) hlt2).trans p5; have p10 := (hb5.frozen (p := ⟨w.heap.size + 1, 0, none⟩) hlt2).trans p6; have p11 := (hb5.frozen (p := ⟨w.heap.size + 1, 1, none⟩) hlt2).trans p7; clear ho5 hb5 hg5 hat5) | (go_simp; go_at_call 22; refine (pad_any n _ (by omega) (by omega)).mono ?_; rintro e w' ⟨rfl, rfl⟩))
  all_goals
    have b5 := ((B4.out.drew.trans (HB5.out.mono (by omega))).setCell (p := ⟨w.heap.size + 1, 0, none⟩) (by simp) (.int .u32 168627466)).setCell (p := ⟨w.heap.size + 1, 1, none⟩) (by simp) (.slice A5 (16 + n + pd) c5)
    have o5 := ((HO5.out.setCell (a := ⟨w.heap.size + 1, 0, none⟩) hlt2 (.int .u32 168627466)).setCell (a := ⟨w.heap.size + 1, 1, none⟩) hlt2 (.slice A5 (16 + n + pd) c5)).mono (base' := w.heap.size) (by omega)
    have HB6 := Lib.hid b5
    have HO6 := Lib.hid o5
    clear b5 o5 HO5 HB5 B4 HO4
    go_wp2
    refine bodyPost_ret (v := .agg #[.int .u32 168627466, .slice A5 (16 + n + pd) c5]) (by simp [results, Try.results12, go_sem, p8, p9]) rfl ?_
    rw [← HPD.out]
    refine ⟨A5, c5, rfl, HB6.out, ?_⟩
    have h := HO6.out
    unfold bodyOf
    rw [HN.out, ← HPD.out]
    simp only [List.append_assoc] at h ⊢
    exact h
end Go.Proofs.Ytdlpeljdpnohlaa
