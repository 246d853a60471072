/- The reference's Print of an IPv4 address. -/
import Derived.Test.YtgdnckglfhabnaaDoorRfGroup
import Derived.Deep.RegionHeld3
namespace Go.Proofs.YtgdnckglfhabnaaDoor
open Go.RowKit Go.Shelf

theorem print4_eq (b0 b1 b2 b3 : UInt8) (r : List UInt8) : print4 (b0 :: b1 :: b2 :: b3 :: r) = dec b0.toNat ++ [46] ++ dec b1.toNat ++ [46] ++ dec b2.toNat ++ [46] ++ dec b3.toNat := by
  show Lib.join [dec b0.toNat, dec b1.toNat, dec b2.toNat, dec b3.toNat] [46] = _
  rw [join_two, join_two, join_two, Lib.join_one]
  simp
theorem cat7 (a b c d : List UInt8) : ((((((⟨a.toArray⟩ : ByteArray) ++ ⟨#[46]⟩) ++ ⟨b.toArray⟩) ++ ⟨#[46]⟩) ++ ⟨c.toArray⟩) ++ ⟨#[46]⟩) ++ ⟨d.toArray⟩ = ⟨(a ++ [46] ++ b ++ [46] ++ c ++ [46] ++ d).toArray⟩ := by
  rw [show (⟨#[46]⟩ : ByteArray) = ⟨([46] : List UInt8).toArray⟩ from rfl]
  simp only [ByteArray.mk_append_mk]

def Four (g : Nat) (x0 x1 x2 x3 : Nat) (w : World) : Prop := w.cell? ⟨g, 1, none⟩ = some (.int .u8 x0) ∧ w.cell? ⟨g, 2, none⟩ = some (.int .u8 x1) ∧ w.cell? ⟨g, 3, none⟩ = some (.int .u8 x2) ∧ w.cell? ⟨g, 4, none⟩ = some (.int .u8 x3)
theorem Four.keep {g x0 x1 x2 x3 : Nat} {w w' : World} (h : Four g x0 x1 x2 x3 w) (hb : Below w.heap.size w w') : Four g x0 x1 x2 x3 w' := ⟨cell_later hb h.1, cell_later hb h.2.1, cell_later hb h.2.2.1, cell_later hb h.2.2.2⟩

set_option maxRecDepth 100000 in
set_option maxHeartbeats 8000000 in
theorem rprint_four (l : List UInt8) (hl : l.length = 16) (w : World) :
    Calls Tryd.prog 13 #[.agg (adC false l)] w fun e w' => e = .returned (.string ⟨(print4 l).toArray⟩) ∧ Below w.heap.size w w' := by
  obtain ⟨b0, b1, b2, b3, b4, b5, b6, b7, b8, b9, b10, b11, b12, b13, b14, b15, rfl⟩ := sixteen l hl
  have HP := Lib.hid (print4_eq b0 b1 b2 b3 [b4, b5, b6, b7, b8, b9, b10, b11, b12, b13, b14, b15])
  have B := Lib.hid ((Below.refl _ w).alloc (Nat.le_refl _) (.cells (adC false [b0, b1, b2, b3, b4, b5, b6, b7, b8, b9, b10, b11, b12, b13, b14, b15]) 24))
  have k := Blk.new w 24 (adC false [b0, b1, b2, b3, b4, b5, b6, b7, b8, b9, b10, b11, b12, b13, b14, b15])
  have q0 : (w.alloc (.cells (adC false [b0, b1, b2, b3, b4, b5, b6, b7, b8, b9, b10, b11, b12, b13, b14, b15]) 24)).cell? ⟨w.heap.size, 0, none⟩ = some (.bool false) := k.cell 0
  have HF := Lib.hid (show Four w.heap.size b0.toNat b1.toNat b2.toNat b3.toNat (w.alloc (.cells (adC false [b0, b1, b2, b3, b4, b5, b6, b7, b8, b9, b10, b11, b12, b13, b14, b15]) 24)) from ⟨k.cell 1, k.cell 2, k.cell 3, k.cell 4⟩)
  clear k
  obtain ⟨cs, hcs⟩ : ∃ cs, cs = adC false [b0, b1, b2, b3, b4, b5, b6, b7, b8, b9, b10, b11, b12, b13, b14, b15] := ⟨_, rfl⟩
  rw [← hcs] at B q0 HF ⊢
  have h0 := b0.toNat_lt
  have h1 := b1.toNat_lt
  have h2 := b2.toNat_lt
  have h3 := b3.toNat_lt
  have HD := Lib.hid (fun (n : Nat) (h : n < 65536) W => digits10 n h W)
  have e0 := dec_len b0.toNat h0
  have e1 := dec_len b1.toNat h1
  have e2 := dec_len b2.toNat h2
  have e3 := dec_len b3.toNat h3
  have HC := Lib.hid (cat7 (dec b0.toNat) (dec b1.toNat) (dec b2.toNat) (dec b3.toNat))
  have D0 := Lib.hid (HD.out b0.toNat (by omega))
  have D1 := Lib.hid (HD.out b1.toNat (by omega))
  have D2 := Lib.hid (HD.out b2.toNat (by omega))
  have D3 := Lib.hid (HD.out b3.toNat (by omega))
  generalize print4 [b0, b1, b2, b3, b4, b5, b6, b7, b8, b9, b10, b11, b12, b13, b14, b15] = pt at *
  generalize dec b0.toNat = t0 at *
  generalize dec b1.toNat = t1 at *
  generalize dec b2.toNat = t2 at *
  generalize dec b3.toNat = t3 at *
  generalize b0.toNat = x0 at *
  generalize b1.toNat = x1 at *
  generalize b2.toNat = x2 at *
  generalize b3.toNat = x3 at *
  have c1 : ¬ 9223372036854775807 < t0.length + 1 := by omega
  have c2 : ¬ 9223372036854775807 < t0.length + 1 + t1.length := by omega
  have c3 : ¬ 9223372036854775807 < t0.length + 1 + t1.length + 1 := by omega
  have c4 : ¬ 9223372036854775807 < t0.length + 1 + t1.length + 1 + t2.length := by omega
  have c5 : ¬ 9223372036854775807 < t0.length + 1 + t1.length + 1 + t2.length + 1 := by omega
  have c6 : ¬ 9223372036854775807 < t0.length + 1 + t1.length + 1 + t2.length + 1 + t3.length := by omega
  clear hcs HD hl e0 e1 e2 e3
  have C := Lib.hid (And.intro c1 (And.intro c2 (And.intro c3 (And.intro c4 (And.intro c5 c6)))))
  clear c1 c2 c3 c4 c5 c6
  have w0 : IntKind.i64.wrap (x0 : Int) = x0 := by rw [IntKind.wrap_i64]; omega
  have w1 : IntKind.i64.wrap (x1 : Int) = x1 := by rw [IntKind.wrap_i64]; omega
  have w2 : IntKind.i64.wrap (x2 : Int) = x2 := by rw [IntKind.wrap_i64]; omega
  have w3 : IntKind.i64.wrap (x3 : Int) = x3 := by rw [IntKind.wrap_i64]; omega
  go_enter Tryd.func13, Tryd.ntmps13
  go_upto_region 2 with fail
  clear q0
  refine wp_region_held_drew (S := Four w.heap.size x0 x1 x2 x3) (by kernel_rfl) (⟨HF.out.1, HF.out.2.1, HF.out.2.2.1, HF.out.2.2.2⟩) (fun hHeld => ?_)
  have BB := Lib.hid (below_drew B.out)
  clear B HF
  refine wpAnyH_take (i := 0) (oi := _) (v := ?_) rfl (by kernel_rfl) (by kernel_rfl) (by kernel_rfl) (fun _ _ _ h => h) (Or.inl ⟨by rfl, ?_⟩) (by assumption) ?_
  case refine_2 => (intro w hSw; (try unfold Four at hSw); go_simp <;> with_reducible rfl)
  try simp only [List.getElem_toArray, List.getElem_cons_zero, Act.put, List.setIfInBounds_toArray, List.set_cons_zero, List.set_cons_succ]
  refine wpAnyH_take (i := 1) (oi := _) (v := ?_) rfl (by kernel_rfl) (by kernel_rfl) (by kernel_rfl) (fun _ _ _ h => h) (Or.inl ⟨by rfl, ?_⟩) (by assumption) ?_
  case refine_2 => (intro w hSw; (try unfold Four at hSw); go_simp <;> with_reducible rfl)
  try simp only [List.getElem_toArray, List.getElem_cons_zero, List.getElem_cons_succ, Act.put, List.setIfInBounds_toArray, List.set_cons_zero, List.set_cons_succ]
  refine wpAnyH_take (i := 2) (oi := _) (v := ?_) rfl (by kernel_rfl) (by kernel_rfl) (by kernel_rfl) (fun _ _ _ h => h) (Or.inl ⟨by rfl, ?_⟩) (by assumption) ?_
  case refine_2 => (intro w hSw; (try unfold Four at hSw); go_simp <;> with_reducible rfl)
  try simp only [List.getElem_toArray, List.getElem_cons_zero, List.getElem_cons_succ, Act.put, List.setIfInBounds_toArray, List.set_cons_zero, List.set_cons_succ]
  refine wpAnyH_take (i := 3) (oi := _) (v := ?_) rfl (by kernel_rfl) (by kernel_rfl) (by kernel_rfl) (fun _ _ _ h => h) (Or.inl ⟨by rfl, ?_⟩) (by assumption) ?_
  case refine_2 => (intro w hSw; (try unfold Four at hSw); go_simp <;> with_reducible rfl)
  try simp only [List.getElem_toArray, List.getElem_cons_zero, List.getElem_cons_succ, Act.put, List.setIfInBounds_toArray, List.set_cons_zero, List.set_cons_succ]
  refine wpAnyH_take (i := 6) (oi := _) (v := ?_) rfl (by kernel_rfl) (by kernel_rfl) (by kernel_rfl) (fun _ _ _ h => h) (Or.inl ⟨by rfl, ?_⟩) (by assumption) ?_
  case refine_2 => (intro w hSw; (try unfold Four at hSw); go_simp <;> with_reducible rfl)
  try simp only [List.getElem_toArray, List.getElem_cons_zero, List.getElem_cons_succ, Act.put, List.setIfInBounds_toArray, List.set_cons_zero, List.set_cons_succ]
  refine wpAnyH_take (i := 7) (oi := _) (v := ?_) rfl (by kernel_rfl) (by kernel_rfl) (by kernel_rfl) (fun _ _ _ h => h) (Or.inl ⟨by rfl, ?_⟩) (by assumption) ?_
  case refine_2 => (intro w hSw; (try unfold Four at hSw); go_simp <;> with_reducible rfl)
  try simp only [List.getElem_toArray, List.getElem_cons_zero, List.getElem_cons_succ, Act.put, List.setIfInBounds_toArray, List.set_cons_zero, List.set_cons_succ]
  refine wpAnyH_take (i := 8) (oi := _) (v := ?_) rfl (by kernel_rfl) (by kernel_rfl) (by kernel_rfl) (fun _ _ _ h => h) (Or.inl ⟨by rfl, ?_⟩) (by assumption) ?_
  case refine_2 => (intro w hSw; (try unfold Four at hSw); go_simp <;> with_reducible rfl)
  try simp only [List.getElem_toArray, List.getElem_cons_zero, List.getElem_cons_succ, Act.put, List.setIfInBounds_toArray, List.set_cons_zero, List.set_cons_succ]
  refine wpAnyH_take (i := 9) (oi := _) (v := ?_) rfl (by kernel_rfl) (by kernel_rfl) (by kernel_rfl) (fun _ _ _ h => h) (Or.inl ⟨by rfl, ?_⟩) (by assumption) ?_
  case refine_2 => (intro w hSw; (try unfold Four at hSw); go_simp <;> with_reducible rfl)
  try simp only [List.getElem_toArray, List.getElem_cons_zero, List.getElem_cons_succ, Act.put, List.setIfInBounds_toArray, List.set_cons_zero, List.set_cons_succ]
  refine wpAnyH_take (i := 13) (oi := _) (v := ?_) rfl (by kernel_rfl) (by kernel_rfl) (by kernel_rfl) (fun _ _ _ h => h) (Or.inl ⟨by rfl, ?_⟩) (by assumption) ?_
  case refine_2 => (intro w hSw; (try unfold Four at hSw); go_simp <;> with_reducible rfl)
  try simp only [List.getElem_toArray, List.getElem_cons_zero, List.getElem_cons_succ, Act.put, List.setIfInBounds_toArray, List.set_cons_zero, List.set_cons_succ]
  refine wpAnyH_take (i := 14) (oi := _) (v := ?_) rfl (by kernel_rfl) (by kernel_rfl) (by kernel_rfl) (fun _ _ _ h => h) (Or.inl ⟨by rfl, ?_⟩) (by assumption) ?_
  case refine_2 => (intro w hSw; (try unfold Four at hSw); go_simp <;> with_reducible rfl)
  try simp only [List.getElem_toArray, List.getElem_cons_zero, List.getElem_cons_succ, Act.put, List.setIfInBounds_toArray, List.set_cons_zero, List.set_cons_succ]
  refine wpAnyH_take (i := 15) (oi := _) (v := ?_) rfl (by kernel_rfl) (by kernel_rfl) (by kernel_rfl) (fun _ _ _ h => h) (Or.inl ⟨by rfl, ?_⟩) (by assumption) ?_
  case refine_2 => (intro w hSw; (try unfold Four at hSw); go_simp <;> with_reducible rfl)
  try simp only [List.getElem_toArray, List.getElem_cons_zero, List.getElem_cons_succ, Act.put, List.setIfInBounds_toArray, List.set_cons_zero, List.set_cons_succ]
  refine wpAnyH_take (i := 16) (oi := _) (v := ?_) rfl (by kernel_rfl) (by kernel_rfl) (by kernel_rfl) (fun _ _ _ h => h) (Or.inl ⟨by rfl, ?_⟩) (by assumption) ?_
  case refine_2 => (intro w hSw; (try unfold Four at hSw); go_simp <;> with_reducible rfl)
  try simp only [List.getElem_toArray, List.getElem_cons_zero, List.getElem_cons_succ, Act.put, List.setIfInBounds_toArray, List.set_cons_zero, List.set_cons_succ]
  refine wpAnyH_take (i := 20) (oi := _) (v := ?_) rfl (by kernel_rfl) (by kernel_rfl) (by kernel_rfl) (fun _ _ _ h => h) (Or.inl ⟨by rfl, ?_⟩) (by assumption) ?_
  case refine_2 => (intro w hSw; (try unfold Four at hSw); go_simp <;> with_reducible rfl)
  try simp only [List.getElem_toArray, List.getElem_cons_zero, List.getElem_cons_succ, Act.put, List.setIfInBounds_toArray, List.set_cons_zero, List.set_cons_succ]
  refine wpAnyH_take (i := 21) (oi := _) (v := ?_) rfl (by kernel_rfl) (by kernel_rfl) (by kernel_rfl) (fun _ _ _ h => h) (Or.inl ⟨by rfl, ?_⟩) (by assumption) ?_
  case refine_2 => (intro w hSw; (try unfold Four at hSw); go_simp <;> with_reducible rfl)
  try simp only [List.getElem_toArray, List.getElem_cons_zero, List.getElem_cons_succ, Act.put, List.setIfInBounds_toArray, List.set_cons_zero, List.set_cons_succ]
  refine wpAnyH_take (i := 22) (oi := _) (v := ?_) rfl (by kernel_rfl) (by kernel_rfl) (by kernel_rfl) (fun _ _ _ h => h) (Or.inl ⟨by rfl, ?_⟩) (by assumption) ?_
  case refine_2 => (intro w hSw; (try unfold Four at hSw); go_simp <;> with_reducible rfl)
  try simp only [List.getElem_toArray, List.getElem_cons_zero, List.getElem_cons_succ, Act.put, List.setIfInBounds_toArray, List.set_cons_zero, List.set_cons_succ]
  refine wpAnyH_take (i := 23) (oi := _) (v := ?_) rfl (by kernel_rfl) (by kernel_rfl) (by kernel_rfl) (fun _ _ _ h => h) (Or.inl ⟨by rfl, ?_⟩) (by assumption) ?_
  case refine_2 => (intro w hSw; (try unfold Four at hSw); go_simp <;> with_reducible rfl)
  try simp only [List.getElem_toArray, List.getElem_cons_zero, List.getElem_cons_succ, Act.put, List.setIfInBounds_toArray, List.set_cons_zero, List.set_cons_succ]
  refine wpAnyH_ready (rs := [4]) (by kernel_rfl) (by simp) ?_
  refine AllReadyH.cons (o := _) rfl (fun K hK => ?_) AllReadyH.nil
  simp only [List.getElem_toArray, List.getElem_cons_zero, List.getElem_cons_succ]
  go_simp
  refine (D0.out _).mono ?_
  rintro e wn ⟨rfl, b⟩
  have Bn := Lib.hid (BB.out.trans (b.mono BB.out.size))
  have hH := hHeld.keep b
  clear b BB
  go_simp
  refine hK.out _ _ hH (fun hHeld2 => ?_)
  clear hK K hHeld hH
  have hHeld := hHeld2
  have BB := Bn
  clear hHeld2 Bn
  try simp only [List.getElem_toArray, List.getElem_cons_zero, List.getElem_cons_succ, Act.put, List.setIfInBounds_toArray, List.set_cons_zero, List.set_cons_succ]
  obtain ⟨c1, c2, c3, c4, c5, c6⟩ := C.out
  refine wpAnyH_take (i := 5) (oi := _) (v := ?_) rfl (by kernel_rfl) (by kernel_rfl) (by kernel_rfl) (fun _ _ _ h => h) (Or.inl ⟨by rfl, ?_⟩) (by assumption) ?_
  case refine_2 => (intro w hSw; (try unfold Four at hSw); go_simp <;> with_reducible rfl)
  try simp only [List.getElem_toArray, List.getElem_cons_zero, List.getElem_cons_succ, Act.put, List.setIfInBounds_toArray, List.set_cons_zero, List.set_cons_succ]
  clear c1 c2 c3 c4 c5 c6
  refine wpAnyH_ready (rs := [10]) (by kernel_rfl) (by simp) ?_
  refine AllReadyH.cons (o := _) rfl (fun K hK => ?_) AllReadyH.nil
  simp only [List.getElem_toArray, List.getElem_cons_zero, List.getElem_cons_succ]
  go_simp
  refine (D1.out _).mono ?_
  rintro e wn ⟨rfl, b⟩
  have Bn := Lib.hid (BB.out.trans (b.mono BB.out.size))
  have hH := hHeld.keep b
  clear b BB
  go_simp
  refine hK.out _ _ hH (fun hHeld2 => ?_)
  clear hK K hHeld hH
  have hHeld := hHeld2
  have BB := Bn
  clear hHeld2 Bn
  try simp only [List.getElem_toArray, List.getElem_cons_zero, List.getElem_cons_succ, Act.put, List.setIfInBounds_toArray, List.set_cons_zero, List.set_cons_succ]
  obtain ⟨c1, c2, c3, c4, c5, c6⟩ := C.out
  refine wpAnyH_take (i := 11) (oi := _) (v := ?_) rfl (by kernel_rfl) (by kernel_rfl) (by kernel_rfl) (fun _ _ _ h => h) (Or.inl ⟨by rfl, ?_⟩) (by assumption) ?_
  case refine_2 => (intro w hSw; (try unfold Four at hSw); go_simp <;> with_reducible rfl)
  try simp only [List.getElem_toArray, List.getElem_cons_zero, List.getElem_cons_succ, Act.put, List.setIfInBounds_toArray, List.set_cons_zero, List.set_cons_succ]
  refine wpAnyH_take (i := 12) (oi := _) (v := ?_) rfl (by kernel_rfl) (by kernel_rfl) (by kernel_rfl) (fun _ _ _ h => h) (Or.inl ⟨by rfl, ?_⟩) (by assumption) ?_
  case refine_2 => (intro w hSw; (try unfold Four at hSw); go_simp <;> with_reducible rfl)
  try simp only [List.getElem_toArray, List.getElem_cons_zero, List.getElem_cons_succ, Act.put, List.setIfInBounds_toArray, List.set_cons_zero, List.set_cons_succ]
  clear c1 c2 c3 c4 c5 c6
  refine wpAnyH_ready (rs := [17]) (by kernel_rfl) (by simp) ?_
  refine AllReadyH.cons (o := _) rfl (fun K hK => ?_) AllReadyH.nil
  simp only [List.getElem_toArray, List.getElem_cons_zero, List.getElem_cons_succ]
  go_simp
  refine (D2.out _).mono ?_
  rintro e wn ⟨rfl, b⟩
  have Bn := Lib.hid (BB.out.trans (b.mono BB.out.size))
  have hH := hHeld.keep b
  clear b BB
  go_simp
  refine hK.out _ _ hH (fun hHeld2 => ?_)
  clear hK K hHeld hH
  have hHeld := hHeld2
  have BB := Bn
  clear hHeld2 Bn
  try simp only [List.getElem_toArray, List.getElem_cons_zero, List.getElem_cons_succ, Act.put, List.setIfInBounds_toArray, List.set_cons_zero, List.set_cons_succ]
  obtain ⟨c1, c2, c3, c4, c5, c6⟩ := C.out
  refine wpAnyH_take (i := 18) (oi := _) (v := ?_) rfl (by kernel_rfl) (by kernel_rfl) (by kernel_rfl) (fun _ _ _ h => h) (Or.inl ⟨by rfl, ?_⟩) (by assumption) ?_
  case refine_2 => (intro w hSw; (try unfold Four at hSw); go_simp <;> with_reducible rfl)
  try simp only [List.getElem_toArray, List.getElem_cons_zero, List.getElem_cons_succ, Act.put, List.setIfInBounds_toArray, List.set_cons_zero, List.set_cons_succ]
  refine wpAnyH_take (i := 19) (oi := _) (v := ?_) rfl (by kernel_rfl) (by kernel_rfl) (by kernel_rfl) (fun _ _ _ h => h) (Or.inl ⟨by rfl, ?_⟩) (by assumption) ?_
  case refine_2 => (intro w hSw; (try unfold Four at hSw); go_simp <;> with_reducible rfl)
  try simp only [List.getElem_toArray, List.getElem_cons_zero, List.getElem_cons_succ, Act.put, List.setIfInBounds_toArray, List.set_cons_zero, List.set_cons_succ]
  clear c1 c2 c3 c4 c5 c6
  refine wpAnyH_ready (rs := [24]) (by kernel_rfl) (by simp) ?_
  refine AllReadyH.cons (o := _) rfl (fun K hK => ?_) AllReadyH.nil
  simp only [List.getElem_toArray, List.getElem_cons_zero, List.getElem_cons_succ]
  go_simp
  refine (D3.out _).mono ?_
  rintro e wn ⟨rfl, b⟩
  have Bn := Lib.hid (BB.out.trans (b.mono BB.out.size))
  have hH := hHeld.keep b
  clear b BB
  go_simp
  refine hK.out _ _ hH (fun hHeld2 => ?_)
  clear hK K hHeld hH
  have hHeld := hHeld2
  have BB := Bn
  clear hHeld2 Bn
  try simp only [List.getElem_toArray, List.getElem_cons_zero, List.getElem_cons_succ, Act.put, List.setIfInBounds_toArray, List.set_cons_zero, List.set_cons_succ]
  obtain ⟨c1, c2, c3, c4, c5, c6⟩ := C.out
  refine wpAnyH_take (i := 25) (oi := _) (v := ?_) rfl (by kernel_rfl) (by kernel_rfl) (by kernel_rfl) (fun _ _ _ h => h) (Or.inl ⟨by rfl, ?_⟩) (by assumption) ?_
  case refine_2 => (intro w hSw; (try unfold Four at hSw); go_simp <;> with_reducible rfl)
  try simp only [List.getElem_toArray, List.getElem_cons_zero, List.getElem_cons_succ, Act.put, List.setIfInBounds_toArray, List.set_cons_zero, List.set_cons_succ]
  clear c1 c2 c3 c4 c5 c6
  refine wpAnyH_take (i := 26) (oi := _) (v := ?_) rfl (by kernel_rfl) (by kernel_rfl) (by kernel_rfl) (fun _ _ _ h => h) (Or.inl ⟨by rfl, ?_⟩) (by assumption) ?_
  case refine_2 => (intro w hSw; (try unfold Four at hSw); go_simp <;> with_reducible rfl)
  try simp only [List.getElem_toArray, List.getElem_cons_zero, List.getElem_cons_succ, Act.put, List.setIfInBounds_toArray, List.set_cons_zero, List.set_cons_succ]
  refine wpAnyH_done (by kernel_rfl) ?_ _
  clear hHeld
  go_wp2_with fail
  all_goals (go_ret; exact ⟨by rw [HP.out, ← HC.out]; rfl, BB.out⟩)
end Go.Proofs.YtgdnckglfhabnaaDoor
