/- KissCodes, the walk. -/
import Derived.Test.YtajgnbhcgfgjjaaDoorKsWorks
import Derived.Test.YtajgnbhcgfgjjaaDoorKsRKnown
import Derived.Test.YtajgnbhcgfgjjaaDoorKsRCode
import Derived.Test.YtajgnbhcgfgjjaaDoorKsRText
import Derived.Test.YtajgnbhcgfgjjaaDoorKsAsks
import Derived.Test.YtajgnbhcgfgjjaaDoorLoad
namespace Go.Proofs.YtajgnbhcgfgjjaaDoor
open Go.RowKit Go.Shelf

theorem headSize : (Tryd.prog.info? 27).map (·.size) = some 16 := by kernel_rfl
theorem codeB_ne (m s : Int) (a b c d : UInt8) : codeB m s a b c d = decide (¬ codeS m s a b c d = ⟨#[]⟩) := by
  unfold codeS
  cases h : codeB m s a b c d
  · simp
  · have : ¬ (⟨#[a, b, c, d]⟩ : ByteArray) = ⟨#[]⟩ := fun e => by
      have := congrArg (fun x : ByteArray => x.size) e
      simp [ByteArray.size] at this
    simp [this]

set_option maxRecDepth 100000 in
set_option maxHeartbeats 4000000 in
theorem kissCodes_walk (l v m s p q rd rp : Int) (a b c d : UInt8) (rf og rc xm : Int) (hs0 : 0 ≤ s) (u : ByteArray) (w : World) :
    Calls Tryd.prog 7 #[.agg (hdC l v m s p q rd rp a.toNat b.toNat c.toNat d.toNat rf og rc xm), .string u] w fun e w' => e = .returned (.bool true) ∧ Below w.heap.size w w' := by
  have HC := Lib.hid (fun W => code_any l v m s p q rd rp a b c d rf og rc xm W)
  have HRC := Lib.hid (fun W => rcode_any l v m s p q rd rp a b c d rf og rc xm W hs0)
  have HST := Lib.hid (fun W => stops_any l v m s p q rd rp a b c d rf og rc xm W)
  have HSL := Lib.hid (fun W => slows_any l v m s p q rd rp a b c d rf og rc xm W)
  have HKU := Lib.hid (fun W => known_any u W)
  have HRU := Lib.hid (fun W => rknown_any u W)
  have HKT := Lib.hid (fun W => known_any (codeS m s a b c d) W)
  have HRT := Lib.hid (fun W => rknown_any (codeS m s a b c d) W)
  have B0 := Lib.hid ((Below.refl w.heap.size w).alloc (Nat.le_refl _) (.cells (hdC l v m s p q rd rp a.toNat b.toNat c.toNat d.toNat rf og rc xm) 27))
  have K0 := Lib.hid (Blk.new w 27 (hdC l v m s p q rd rp a.toNat b.toNat c.toNat d.toNat rf og rc xm))
  have hz : w.heap.size ≤ (w.alloc (.cells (hdC l v m s p q rd rp a.toNat b.toNat c.toNat d.toNat rf og rc xm) 27)).heap.size := by simp
  generalize hX : hdC l v m s p q rd rp a.toNat b.toNat c.toNat d.toNat rf og rc xm = X at *
  have HX := Lib.hid (show (Tryd.prog.info? 27).map (·.size) = some X.size by rw [← hX]; exact headSize)
  clear hX
  by_cases hl : 100 < (u.size : Int)
  · clear HC HRC HST HSL HKU HRU HKT HRT
    go_enter Tryd.func7, Tryd.ntmps7
    go_wp2_with fail
    refine (works_any _).mono ?_
    rintro e w1 ⟨rfl, b⟩
    have B1 := Lib.hid (B0.out.trans (b.mono B0.out.size))
    clear b B0
    go_wp2_with fail
    go_ret
    exact ⟨rfl, B1.out⟩
  rw [codeB_ne] at HC
  generalize codeS m s a b c d = t at *
  generalize knownB u = ku at *
  generalize knownB t = kt at *
  by_cases h0 : t = ⟨#[68, 69, 78, 89]⟩
  · subst h0
    rw [show decide (¬ (⟨#[68, 69, 78, 89]⟩ : ByteArray) = ⟨#[]⟩) = true by decide] at HC
    rw [show stopB ⟨#[68, 69, 78, 89]⟩ = true by decide] at HST
    rw [show slowB ⟨#[68, 69, 78, 89]⟩ = false by decide] at HSL
    go_enter Tryd.func7, Tryd.ntmps7
    go_wp2_with (refine wpList_load_blk 27 (.tmp 2) w.heap.size 27 X _ K0.out rfl rfl Tryd.underlying27 rfl HX.out rfl ?_)
    refine (HC.out _).mono ?_
    rintro e w1 ⟨rfl, b⟩
    have B1 := Lib.hid (B0.out.trans (b.mono B0.out.size))
    have K1 := Lib.hid (K0.out.keep b)
    clear b B0 K0
    go_wp2_with (refine wpList_load_blk 27 (.tmp 2) w.heap.size 27 X _ K1.out rfl rfl Tryd.underlying27 rfl HX.out rfl ?_)
    refine (HRC.out _).mono ?_
    rintro e w2 ⟨rfl, b⟩
    have B2 := Lib.hid (B1.out.trans (b.mono B1.out.size))
    have K2 := Lib.hid (K1.out.keep b)
    clear b B1 K1
    go_wp2_with (refine wpList_load_blk 27 (.tmp 2) w.heap.size 27 X _ K2.out rfl rfl Tryd.underlying27 rfl HX.out rfl ?_)
    refine (HST.out _).mono ?_
    rintro e w3 ⟨rfl, b⟩
    have B3 := Lib.hid (B2.out.trans (b.mono B2.out.size))
    have K3 := Lib.hid (K2.out.keep b)
    clear b B2 K2
    go_wp2_with (refine wpList_load_blk 27 (.tmp 2) w.heap.size 27 X _ K3.out rfl rfl Tryd.underlying27 rfl HX.out rfl ?_)
    refine (HSL.out _).mono ?_
    rintro e w4 ⟨rfl, b⟩
    have B4 := Lib.hid (B3.out.trans (b.mono B3.out.size))
    have K4 := Lib.hid (K3.out.keep b)
    clear b B3 K3
    go_wp2_with fail
    refine (HKU.out _).mono ?_
    rintro e w5 ⟨rfl, b⟩
    have B5 := Lib.hid (B4.out.trans (b.mono B4.out.size))
    have K5 := Lib.hid (K4.out.keep b)
    clear b B4 K4
    go_wp2_with fail
    refine (HRU.out _).mono ?_
    rintro e w6 ⟨rfl, b⟩
    have B6 := Lib.hid (B5.out.trans (b.mono B5.out.size))
    have K6 := Lib.hid (K5.out.keep b)
    clear b B5 K5
    go_wp2_with fail
    refine (HKT.out _).mono ?_
    rintro e w7 ⟨rfl, b⟩
    have B7 := Lib.hid (B6.out.trans (b.mono B6.out.size))
    have K7 := Lib.hid (K6.out.keep b)
    clear b B6 K6
    go_wp2_with fail
    refine (HRT.out _).mono ?_
    rintro e w8 ⟨rfl, b⟩
    have B8 := Lib.hid (B7.out.trans (b.mono B7.out.size))
    have K8 := Lib.hid (K7.out.keep b)
    clear b B7 K7
    go_wp2_with fail
    refine (works_any _).mono ?_
    rintro e w9 ⟨rfl, b⟩
    have B9 := Lib.hid (B8.out.trans (b.mono B8.out.size))
    have K9 := Lib.hid (K8.out.keep b)
    clear b B8 K8
    go_wp2_with fail
    go_ret
    exact ⟨rfl, B9.out⟩
  by_cases h1 : t = ⟨#[82, 83, 84, 82]⟩
  · subst h1
    rw [show decide (¬ (⟨#[82, 83, 84, 82]⟩ : ByteArray) = ⟨#[]⟩) = true by decide] at HC
    rw [show stopB ⟨#[82, 83, 84, 82]⟩ = true by decide] at HST
    rw [show slowB ⟨#[82, 83, 84, 82]⟩ = false by decide] at HSL
    go_enter Tryd.func7, Tryd.ntmps7
    go_wp2_with (refine wpList_load_blk 27 (.tmp 2) w.heap.size 27 X _ K0.out rfl rfl Tryd.underlying27 rfl HX.out rfl ?_)
    refine (HC.out _).mono ?_
    rintro e w1 ⟨rfl, b⟩
    have B1 := Lib.hid (B0.out.trans (b.mono B0.out.size))
    have K1 := Lib.hid (K0.out.keep b)
    clear b B0 K0
    go_wp2_with (refine wpList_load_blk 27 (.tmp 2) w.heap.size 27 X _ K1.out rfl rfl Tryd.underlying27 rfl HX.out rfl ?_)
    refine (HRC.out _).mono ?_
    rintro e w2 ⟨rfl, b⟩
    have B2 := Lib.hid (B1.out.trans (b.mono B1.out.size))
    have K2 := Lib.hid (K1.out.keep b)
    clear b B1 K1
    go_wp2_with (refine wpList_load_blk 27 (.tmp 2) w.heap.size 27 X _ K2.out rfl rfl Tryd.underlying27 rfl HX.out rfl ?_)
    refine (HST.out _).mono ?_
    rintro e w3 ⟨rfl, b⟩
    have B3 := Lib.hid (B2.out.trans (b.mono B2.out.size))
    have K3 := Lib.hid (K2.out.keep b)
    clear b B2 K2
    go_wp2_with (refine wpList_load_blk 27 (.tmp 2) w.heap.size 27 X _ K3.out rfl rfl Tryd.underlying27 rfl HX.out rfl ?_)
    refine (HSL.out _).mono ?_
    rintro e w4 ⟨rfl, b⟩
    have B4 := Lib.hid (B3.out.trans (b.mono B3.out.size))
    have K4 := Lib.hid (K3.out.keep b)
    clear b B3 K3
    go_wp2_with fail
    refine (HKU.out _).mono ?_
    rintro e w5 ⟨rfl, b⟩
    have B5 := Lib.hid (B4.out.trans (b.mono B4.out.size))
    have K5 := Lib.hid (K4.out.keep b)
    clear b B4 K4
    go_wp2_with fail
    refine (HRU.out _).mono ?_
    rintro e w6 ⟨rfl, b⟩
    have B6 := Lib.hid (B5.out.trans (b.mono B5.out.size))
    have K6 := Lib.hid (K5.out.keep b)
    clear b B5 K5
    go_wp2_with fail
    refine (HKT.out _).mono ?_
    rintro e w7 ⟨rfl, b⟩
    have B7 := Lib.hid (B6.out.trans (b.mono B6.out.size))
    have K7 := Lib.hid (K6.out.keep b)
    clear b B6 K6
    go_wp2_with fail
    refine (HRT.out _).mono ?_
    rintro e w8 ⟨rfl, b⟩
    have B8 := Lib.hid (B7.out.trans (b.mono B7.out.size))
    have K8 := Lib.hid (K7.out.keep b)
    clear b B7 K7
    go_wp2_with fail
    refine (works_any _).mono ?_
    rintro e w9 ⟨rfl, b⟩
    have B9 := Lib.hid (B8.out.trans (b.mono B8.out.size))
    have K9 := Lib.hid (K8.out.keep b)
    clear b B8 K8
    go_wp2_with fail
    go_ret
    exact ⟨rfl, B9.out⟩
  by_cases h2 : t = ⟨#[82, 65, 84, 69]⟩
  · subst h2
    rw [show decide (¬ (⟨#[82, 65, 84, 69]⟩ : ByteArray) = ⟨#[]⟩) = true by decide] at HC
    rw [show stopB ⟨#[82, 65, 84, 69]⟩ = false by decide] at HST
    rw [show slowB ⟨#[82, 65, 84, 69]⟩ = true by decide] at HSL
    go_enter Tryd.func7, Tryd.ntmps7
    go_wp2_with (refine wpList_load_blk 27 (.tmp 2) w.heap.size 27 X _ K0.out rfl rfl Tryd.underlying27 rfl HX.out rfl ?_)
    refine (HC.out _).mono ?_
    rintro e w1 ⟨rfl, b⟩
    have B1 := Lib.hid (B0.out.trans (b.mono B0.out.size))
    have K1 := Lib.hid (K0.out.keep b)
    clear b B0 K0
    go_wp2_with (refine wpList_load_blk 27 (.tmp 2) w.heap.size 27 X _ K1.out rfl rfl Tryd.underlying27 rfl HX.out rfl ?_)
    refine (HRC.out _).mono ?_
    rintro e w2 ⟨rfl, b⟩
    have B2 := Lib.hid (B1.out.trans (b.mono B1.out.size))
    have K2 := Lib.hid (K1.out.keep b)
    clear b B1 K1
    go_wp2_with (refine wpList_load_blk 27 (.tmp 2) w.heap.size 27 X _ K2.out rfl rfl Tryd.underlying27 rfl HX.out rfl ?_)
    refine (HST.out _).mono ?_
    rintro e w3 ⟨rfl, b⟩
    have B3 := Lib.hid (B2.out.trans (b.mono B2.out.size))
    have K3 := Lib.hid (K2.out.keep b)
    clear b B2 K2
    go_wp2_with (refine wpList_load_blk 27 (.tmp 2) w.heap.size 27 X _ K3.out rfl rfl Tryd.underlying27 rfl HX.out rfl ?_)
    refine (HSL.out _).mono ?_
    rintro e w4 ⟨rfl, b⟩
    have B4 := Lib.hid (B3.out.trans (b.mono B3.out.size))
    have K4 := Lib.hid (K3.out.keep b)
    clear b B3 K3
    go_wp2_with fail
    refine (HKU.out _).mono ?_
    rintro e w5 ⟨rfl, b⟩
    have B5 := Lib.hid (B4.out.trans (b.mono B4.out.size))
    have K5 := Lib.hid (K4.out.keep b)
    clear b B4 K4
    go_wp2_with fail
    refine (HRU.out _).mono ?_
    rintro e w6 ⟨rfl, b⟩
    have B6 := Lib.hid (B5.out.trans (b.mono B5.out.size))
    have K6 := Lib.hid (K5.out.keep b)
    clear b B5 K5
    go_wp2_with fail
    refine (HKT.out _).mono ?_
    rintro e w7 ⟨rfl, b⟩
    have B7 := Lib.hid (B6.out.trans (b.mono B6.out.size))
    have K7 := Lib.hid (K6.out.keep b)
    clear b B6 K6
    go_wp2_with fail
    refine (HRT.out _).mono ?_
    rintro e w8 ⟨rfl, b⟩
    have B8 := Lib.hid (B7.out.trans (b.mono B7.out.size))
    have K8 := Lib.hid (K7.out.keep b)
    clear b B7 K7
    go_wp2_with fail
    refine (works_any _).mono ?_
    rintro e w9 ⟨rfl, b⟩
    have B9 := Lib.hid (B8.out.trans (b.mono B8.out.size))
    have K9 := Lib.hid (K8.out.keep b)
    clear b B8 K8
    go_wp2_with fail
    go_ret
    exact ⟨rfl, B9.out⟩
  by_cases h3 : t = ⟨#[]⟩
  · subst h3
    rw [show decide (¬ (⟨#[]⟩ : ByteArray) = ⟨#[]⟩) = false by decide] at HC
    rw [show stopB ⟨#[]⟩ = false by decide] at HST
    rw [show slowB ⟨#[]⟩ = false by decide] at HSL
    go_enter Tryd.func7, Tryd.ntmps7
    go_wp2_with (refine wpList_load_blk 27 (.tmp 2) w.heap.size 27 X _ K0.out rfl rfl Tryd.underlying27 rfl HX.out rfl ?_)
    refine (HC.out _).mono ?_
    rintro e w1 ⟨rfl, b⟩
    have B1 := Lib.hid (B0.out.trans (b.mono B0.out.size))
    have K1 := Lib.hid (K0.out.keep b)
    clear b B0 K0
    go_wp2_with (refine wpList_load_blk 27 (.tmp 2) w.heap.size 27 X _ K1.out rfl rfl Tryd.underlying27 rfl HX.out rfl ?_)
    refine (HRC.out _).mono ?_
    rintro e w2 ⟨rfl, b⟩
    have B2 := Lib.hid (B1.out.trans (b.mono B1.out.size))
    have K2 := Lib.hid (K1.out.keep b)
    clear b B1 K1
    go_wp2_with (refine wpList_load_blk 27 (.tmp 2) w.heap.size 27 X _ K2.out rfl rfl Tryd.underlying27 rfl HX.out rfl ?_)
    refine (HST.out _).mono ?_
    rintro e w3 ⟨rfl, b⟩
    have B3 := Lib.hid (B2.out.trans (b.mono B2.out.size))
    have K3 := Lib.hid (K2.out.keep b)
    clear b B2 K2
    go_wp2_with (refine wpList_load_blk 27 (.tmp 2) w.heap.size 27 X _ K3.out rfl rfl Tryd.underlying27 rfl HX.out rfl ?_)
    refine (HSL.out _).mono ?_
    rintro e w4 ⟨rfl, b⟩
    have B4 := Lib.hid (B3.out.trans (b.mono B3.out.size))
    have K4 := Lib.hid (K3.out.keep b)
    clear b B3 K3
    go_wp2_with fail
    refine (HKU.out _).mono ?_
    rintro e w5 ⟨rfl, b⟩
    have B5 := Lib.hid (B4.out.trans (b.mono B4.out.size))
    have K5 := Lib.hid (K4.out.keep b)
    clear b B4 K4
    go_wp2_with fail
    refine (HRU.out _).mono ?_
    rintro e w6 ⟨rfl, b⟩
    have B6 := Lib.hid (B5.out.trans (b.mono B5.out.size))
    have K6 := Lib.hid (K5.out.keep b)
    clear b B5 K5
    go_wp2_with fail
    refine (HKT.out _).mono ?_
    rintro e w7 ⟨rfl, b⟩
    have B7 := Lib.hid (B6.out.trans (b.mono B6.out.size))
    have K7 := Lib.hid (K6.out.keep b)
    clear b B6 K6
    go_wp2_with fail
    refine (HRT.out _).mono ?_
    rintro e w8 ⟨rfl, b⟩
    have B8 := Lib.hid (B7.out.trans (b.mono B7.out.size))
    have K8 := Lib.hid (K7.out.keep b)
    clear b B7 K7
    go_wp2_with fail
    refine (works_any _).mono ?_
    rintro e w9 ⟨rfl, b⟩
    have B9 := Lib.hid (B8.out.trans (b.mono B8.out.size))
    have K9 := Lib.hid (K8.out.keep b)
    clear b B8 K8
    go_wp2_with fail
    go_ret
    exact ⟨rfl, B9.out⟩
  rw [show decide (¬ t = ⟨#[]⟩) = true from decide_eq_true h3] at HC
  rw [show stopB t = false by simp only [stopB, decide_eq_false h0, decide_eq_false h1]; rfl] at HST
  rw [show slowB t = false from decide_eq_false h2] at HSL
  have n0 := ne_lit [68, 69, 78, 89] h0
  have n1 := ne_lit [82, 83, 84, 82] h1
  have n2 := ne_lit [82, 65, 84, 69] h2
  have n3 := ne_str h3
  clear h0 h1 h2 h3
  go_enter Tryd.func7, Tryd.ntmps7
  go_wp2_with (refine wpList_load_blk 27 (.tmp 2) w.heap.size 27 X _ K0.out rfl rfl Tryd.underlying27 rfl HX.out rfl ?_)
  refine (HC.out _).mono ?_
  rintro e w1 ⟨rfl, b⟩
  have B1 := Lib.hid (B0.out.trans (b.mono B0.out.size))
  have K1 := Lib.hid (K0.out.keep b)
  clear b B0 K0
  go_wp2_with (refine wpList_load_blk 27 (.tmp 2) w.heap.size 27 X _ K1.out rfl rfl Tryd.underlying27 rfl HX.out rfl ?_)
  refine (HRC.out _).mono ?_
  rintro e w2 ⟨rfl, b⟩
  have B2 := Lib.hid (B1.out.trans (b.mono B1.out.size))
  have K2 := Lib.hid (K1.out.keep b)
  clear b B1 K1
  go_wp2_with (refine wpList_load_blk 27 (.tmp 2) w.heap.size 27 X _ K2.out rfl rfl Tryd.underlying27 rfl HX.out rfl ?_)
  refine (HST.out _).mono ?_
  rintro e w3 ⟨rfl, b⟩
  have B3 := Lib.hid (B2.out.trans (b.mono B2.out.size))
  have K3 := Lib.hid (K2.out.keep b)
  clear b B2 K2
  go_wp2_with (refine wpList_load_blk 27 (.tmp 2) w.heap.size 27 X _ K3.out rfl rfl Tryd.underlying27 rfl HX.out rfl ?_)
  refine (HSL.out _).mono ?_
  rintro e w4 ⟨rfl, b⟩
  have B4 := Lib.hid (B3.out.trans (b.mono B3.out.size))
  have K4 := Lib.hid (K3.out.keep b)
  clear b B3 K3
  go_wp2_with fail
  refine (HKU.out _).mono ?_
  rintro e w5 ⟨rfl, b⟩
  have B5 := Lib.hid (B4.out.trans (b.mono B4.out.size))
  have K5 := Lib.hid (K4.out.keep b)
  clear b B4 K4
  go_wp2_with fail
  refine (HRU.out _).mono ?_
  rintro e w6 ⟨rfl, b⟩
  have B6 := Lib.hid (B5.out.trans (b.mono B5.out.size))
  have K6 := Lib.hid (K5.out.keep b)
  clear b B5 K5
  go_wp2_with fail
  refine (HKT.out _).mono ?_
  rintro e w7 ⟨rfl, b⟩
  have B7 := Lib.hid (B6.out.trans (b.mono B6.out.size))
  have K7 := Lib.hid (K6.out.keep b)
  clear b B6 K6
  go_wp2_with fail
  refine (HRT.out _).mono ?_
  rintro e w8 ⟨rfl, b⟩
  have B8 := Lib.hid (B7.out.trans (b.mono B7.out.size))
  have K8 := Lib.hid (K7.out.keep b)
  clear b B7 K7
  go_wp2_with fail
  refine (works_any _).mono ?_
  rintro e w9 ⟨rfl, b⟩
  have B9 := Lib.hid (B8.out.trans (b.mono B8.out.size))
  have K9 := Lib.hid (K8.out.keep b)
  clear b B8 K8
  go_wp2_with fail
  go_ret
  exact ⟨rfl, B9.out⟩
end Go.Proofs.YtajgnbhcgfgjjaaDoor
