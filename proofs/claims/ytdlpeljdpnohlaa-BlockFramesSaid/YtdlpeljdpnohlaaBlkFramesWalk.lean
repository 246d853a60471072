/- The walk of BlockFrames. -/
import Derived.Test.YtdlpeljdpnohlaaBlkKnown
import Derived.Test.YtdlpeljdpnohlaaBlkBody
import Derived.Deep.RegionHeld3
import Derived.Handy
import Derived.Outline
namespace Go.Proofs.Ytdlpeljdpnohlaa
open Go.RowKit

/-- What the two Bytes answer, in one form. -/
def BytesSaid (w : World) (n : Nat) (L : Bool) (kind : Int) (l : List UInt8) (e : Ending) (w' : World) : Prop :=
  ∃ A' n' c' x l', e = .returned (.tuple #[.slice A' n' c', .int .i64 x]) ∧ Below w.heap.size w w' ∧ Rd w' A' n' c' l' ∧
    l' = (if n % 4 = 0 then frameOf L kind.toNat l else []) ∧ x = (if n % 4 = 0 then 0 else 2)

theorem bytes_any (A : Option Addr) (n c : Nat) (L : Bool) (kind : Int) (l : List UInt8) (w : World) (hr : Rd w A n c l) (hk : 0 ≤ kind) (hk2 : kind ≤ 4294967295) (h20 : n ≤ 1048576) :
    Calls Try.prog 10 #[.agg #[.int .u32 kind, .slice A n c], .bool L] w (BytesSaid w n L kind l) := by
  by_cases h4 : n % 4 = 0
  · refine (bytes_yes A n c L kind l w hr hk hk2 h20 h4).mono fun e w' h => ?_
    obtain ⟨A', c', he, hb, ho⟩ := h
    exact ⟨A', n + 12, c', 0, _, he, hb, ho.rd, by rw [if_pos h4], by rw [if_pos h4]⟩
  · refine (bytes_no A n c L kind w h20 h4).mono fun e w' h => ?_
    exact ⟨none, 0, 0, 2, [], h.1, h.2, Rd.nil _, by rw [if_neg h4], by rw [if_neg h4]⟩
theorem rbytes_any (A : Option Addr) (n c : Nat) (L : Bool) (kind : Int) (l : List UInt8) (w : World) (hr : Rd w A n c l) (hk : 0 ≤ kind) (hk2 : kind ≤ 4294967295) (h20 : n ≤ 1048576) :
    Calls Try.prog 11 #[.int .u32 kind, .slice A n c, .bool L] w (BytesSaid w n L kind l) := by
  by_cases h4 : n % 4 = 0
  · refine (rbytes_yes A n c L kind l w hr hk hk2 h20 h4).mono fun e w' h => ?_
    obtain ⟨A', c', he, hb, ho⟩ := h
    exact ⟨A', n + 12, c', 0, _, he, hb, ho.rd, by rw [if_pos h4], by rw [if_pos h4]⟩
  · refine (rbytes_no A n c L kind w h20 h4).mono fun e w' h => ?_
    exact ⟨none, 0, 0, 2, [], h.1, h.2 ▸ Below.refl _ _, Rd.nil _, by rw [if_neg h4], by rw [if_neg h4]⟩

theorem u32_bd {n : Int} (h : (Lit.int .u32 n).wf = true) : 0 ≤ n ∧ n ≤ 4294967295 := by
  simp [Lit.wf, IntKind.min, IntKind.max, IntKind.signed, IntKind.bits] at h
  omega
theorem u16_bd {n : Int} (h : (Lit.int .u16 n).wf = true) : 0 ≤ n ∧ n ≤ 65535 := by
  simp [Lit.wf, IntKind.min, IntKind.max, IntKind.signed, IntKind.bits] at h
  omega

set_option maxRecDepth 100000 in
set_option maxHeartbeats 1600000 in
theorem frames_walk (kind : Int) (A : Option Addr) (n c : Nat) (ma mi ln : Int) (B : Option Addr) (m d : Nat) (L : Bool) (l o : List UInt8) (w : World)
    (hk : (Lit.int .u32 kind).wf = true) (hr : Rd w A n c l) (ha : (Lit.int .u16 ma).wf = true) (hi : (Lit.int .u16 mi).wf = true) (_hl : (Lit.int .i64 ln).wf = true) (hs : Rd w B m d o) :
    Calls Try.prog 4 #[.agg #[.int .u32 kind, .slice A n c], .agg #[.int .u16 ma, .int .u16 mi, .int .i64 ln, .slice B m d], .bool L] w fun e w' => e = .returned (.bool true) ∧ Below w.heap.size w w' := by
  obtain ⟨hk0, hk1⟩ := u32_bd hk
  have HA := Lib.hid (u16_bd ha)
  have HI := Lib.hid (u16_bd hi)
  have HK1 := Lib.hid hk1
  have HR := Lib.hid hr
  have HS := Lib.hid hs
  clear hk ha hi _hl hr hs hk1
  go_enter Try.func4, Try.ntmps4
  go_wp2_with fail
  refine (known_any _).mono ?_
  rintro e w1 ⟨rfl, hb1⟩
  have k1 := ((Blk.new w 32 #[.int .u32 kind, .slice A n c]).alloc (.cells #[.int .u16 ma, .int .u16 mi, .int .i64 ln, .slice B m d] 35)).keep hb1
  have k2 := (Blk.new (w.alloc (.cells #[.int .u32 kind, .slice A n c] 32)) 35 #[.int .u16 ma, .int .u16 mi, .int .i64 ln, .slice B m d]).keep hb1
  simp only [World.size_alloc] at k2
  have B1 := Lib.hid (below_box (below_box hb1))
  have q0 := k1.cell 0
  have q1 := k1.cell 1
  have q5 := k2.cell 3
  have hlt := k2.lt
  have K1 := Lib.hid k1
  have K2 := Lib.hid k2
  simp at q0 q1 q5
  clear k1 k2 hb1
  by_cases hn : 300 < n
  · go_wp2
    go_ret
    exact ⟨rfl, B1.out⟩
  by_cases hm : 300 < m
  · go_wp2
    go_ret
    exact ⟨rfl, B1.out⟩
  go_wp2_with fail
  refine (bytes_any A n c L kind l _ (HR.out.below B1.out) hk0 HK1.out (by omega)).mono ?_
  rintro e w2 ⟨A2, n2, c2, x2, l2, rfl, hb2, hr2, hl2, hx2⟩
  have HL2 := Lib.hid hl2
  have HX2 := Lib.hid hx2
  have HR2 := Lib.hid hr2
  have B2 := Lib.hid (B1.out.trans (hb2.mono B1.out.size))
  have k1 := K1.out.keep hb2
  have k2 := K2.out.keep hb2
  have q0 := k1.cell 0
  have q1 := k1.cell 1
  have q5 := k2.cell 3
  have hlt := k2.lt
  have K1' := Lib.hid k1
  have K2' := Lib.hid k2
  simp at q0 q1 q5
  clear k1 k2 hb2 hr2 hl2 hx2 K1 K2 B1
  go_wp2_with fail
  refine (rbytes_any A n c L kind l _ (HR.out.below B2.out) hk0 HK1.out (by omega)).mono ?_
  rintro e w3 ⟨A3, n3, c3, x3, l3, rfl, hb3, hr3, hl3, hx3⟩
  have hee : x2 = x3 := by rw [hx3, HX2.out]
  have hll : l2 = l3 := by rw [hl3, HL2.out]
  subst hee hll
  have HR3 := Lib.hid hr3
  have HR2' := Lib.hid (HR2.out.below hb3)
  have B3 := Lib.hid (B2.out.trans (hb3.mono B2.out.size))
  have k1 := K1'.out.keep hb3
  have k2 := K2'.out.keep hb3
  have q0 := k2.cell 0
  have q1 := k2.cell 1
  have q2 := k2.cell 2
  have q5 := k2.cell 3
  have hlt := k2.lt
  have K2 := Lib.hid k2
  simp at q0 q1 q2 q5
  clear k1 k2 hb3 hr3 hl3 hx3 K1' K2' B2 HR2 HL2 HX2
  go_wp2_with fail
  refine (sec_block B m d L ma mi ln o _ (HS.out.below B3.out) (by omega) HA.out HI.out).mono ?_
  rintro e w4 ⟨A4, c4, rfl, hb4, ho4⟩
  have HR4 := Lib.hid ho4.rd
  have HR2 := Lib.hid (HR2'.out.below hb4)
  have HR3' := Lib.hid (HR3.out.below hb4)
  have B4 := Lib.hid (B3.out.trans (hb4.mono B3.out.size))
  have k2 := K2.out.keep hb4
  have q0 := k2.cell 0
  have q1 := k2.cell 1
  have q2 := k2.cell 2
  have q5 := k2.cell 3
  have hlt := k2.lt
  have K2' := Lib.hid k2
  simp at q0 q1 q2 q5
  clear k2 hb4 ho4 K2 B3 HR2' HR3
  go_wp2_with fail
  have kb := Blk.new w4 32 #[.int .u32 168627466, .slice A4 (16 + m + padOf m) c4]
  have k2 := K2'.out.alloc (.cells #[.int .u32 168627466, .slice A4 (16 + m + padOf m) c4] 32)
  have r4 := HR4.out.alloc (.cells #[.int .u32 168627466, .slice A4 (16 + m + padOf m) c4] 32)
  have r2 := HR2.out.alloc (.cells #[.int .u32 168627466, .slice A4 (16 + m + padOf m) c4] 32)
  have r3 := HR3'.out.alloc (.cells #[.int .u32 168627466, .slice A4 (16 + m + padOf m) c4] 32)
  have hb5 := B4.out.alloc B4.out.size (.cells #[.int .u32 168627466, .slice A4 (16 + m + padOf m) c4] 32)
  generalize hgb : w4.heap.size = gb at *
  generalize w4.alloc (.cells #[.int .u32 168627466, .slice A4 (16 + m + padOf m) c4] 32) = w5 at *
  have s0 := k2.cell 0
  have s1 := k2.cell 1
  have s2 := k2.cell 2
  have s3 := k2.cell 3
  have t0 := kb.cell 0
  have t1 := kb.cell 1
  have B5 := Lib.hid hb5
  have HR5 := Lib.hid r4
  have HS5 := Lib.hid (HS.out.below hb5)
  simp at s0 s1 s2 s3 t0 t1
  have hv2 := conv_str (P := Try.prog) r2.drew 22 9 Try.underlying22 Try.underlying5 Try.underlying9
  have hv3 := conv_str (P := Try.prog) r3.drew 22 9 Try.underlying22 Try.underlying5 Try.underlying9
  have hv4 := conv_str (P := Try.prog) r4.drew 22 9 Try.underlying22 Try.underlying5 Try.underlying9
  have Hr2 := Lib.hid r2
  have Hr3 := Lib.hid r3
  clear k2 kb r2 r3 r4 hb5 B4 K2' HR4 HR2 HR3' q0 q1 q2 q5 hlt hgb HS HR
  refine wp_region_held_drew (S := (fun w' => (w'.cell? ⟨w.heap.size + 1, 0, none⟩ = some (.int .u16 ma) ∧ w'.cell? ⟨w.heap.size + 1, 1, none⟩ = some (.int .u16 mi) ∧ w'.cell? ⟨w.heap.size + 1, 2, none⟩ = some (.int .i64 ln) ∧ w'.cell? ⟨w.heap.size + 1, 3, none⟩ = some (.slice B m d) ∧ w'.cell? ⟨gb, 0, none⟩ = some (.int .u32 168627466) ∧ w'.cell? ⟨gb, 1, none⟩ = some (.slice A4 (16 + m + padOf m) c4)) ∧ Sem.run Try.prog (convert 22 9 (.slice A2 n2 c2)) w' = .ok (.string ⟨(l2).toArray⟩) w' ∧ Sem.run Try.prog (convert 22 9 (.slice A3 n3 c3)) w' = .ok (.string ⟨(l2).toArray⟩) w' ∧ Sem.run Try.prog (convert 22 9 (.slice A4 (16 + m + padOf m) c4)) w' = .ok (.string ⟨(bodyOf L ma.toNat mi.toNat (IntKind.u64.wrap ln).toNat o).toArray⟩) w')) (by kernel_rfl) (⟨⟨s0, s1, s2, s3, t0, t1⟩, hv2, hv3, hv4⟩) (fun hHeld => ?_)
  refine wpAnyH_take (i := 0) (oi := _) (v := ?_) rfl (by kernel_rfl) (by kernel_rfl) (by kernel_rfl) (fun _ _ _ h => h) (Or.inl ⟨by rfl, ?_⟩) (by assumption) ?_
  case refine_2 => (intro w hSw; (try dsimp only at hSw); go_simp <;> with_reducible rfl)
  try simp only [List.getElem_toArray, List.getElem_cons_zero, Act.put, List.setIfInBounds_toArray, List.set_cons_zero, List.set_cons_succ]
  refine wpAnyH_take (i := 1) (oi := _) (v := ?_) rfl (by kernel_rfl) (by kernel_rfl) (by kernel_rfl) (fun _ _ _ h => h) (Or.inl ⟨by rfl, ?_⟩) (by assumption) ?_
  case refine_2 => (intro w hSw; (try dsimp only at hSw); go_simp <;> with_reducible rfl)
  try simp only [List.getElem_toArray, List.getElem_cons_zero, List.getElem_cons_succ, Act.put, List.setIfInBounds_toArray, List.set_cons_zero, List.set_cons_succ]
  refine wpAnyH_take (i := 2) (oi := _) (v := ?_) rfl (by kernel_rfl) (by kernel_rfl) (by kernel_rfl) (fun _ _ _ h => h) (Or.inl ⟨by rfl, ?_⟩) (by assumption) ?_
  case refine_2 => (intro w hSw; (try dsimp only at hSw); go_simp <;> with_reducible rfl)
  try simp only [List.getElem_toArray, List.getElem_cons_zero, List.getElem_cons_succ, Act.put, List.setIfInBounds_toArray, List.set_cons_zero, List.set_cons_succ]
  refine wpAnyH_take (i := 3) (oi := _) (v := ?_) rfl (by kernel_rfl) (by kernel_rfl) (by kernel_rfl) (fun _ _ _ h => h) (Or.inl ⟨by rfl, ?_⟩) (by assumption) ?_
  case refine_2 => (intro w hSw; (try dsimp only at hSw); go_simp <;> with_reducible rfl)
  try simp only [List.getElem_toArray, List.getElem_cons_zero, List.getElem_cons_succ, Act.put, List.setIfInBounds_toArray, List.set_cons_zero, List.set_cons_succ]
  refine wpAnyH_take (i := 4) (oi := _) (v := ?_) rfl (by kernel_rfl) (by kernel_rfl) (by kernel_rfl) (fun _ _ _ h => h) (Or.inl ⟨by rfl, ?_⟩) (by assumption) ?_
  case refine_2 => (intro w hSw; (try dsimp only at hSw); go_simp <;> with_reducible rfl)
  try simp only [List.getElem_toArray, List.getElem_cons_zero, List.getElem_cons_succ, Act.put, List.setIfInBounds_toArray, List.set_cons_zero, List.set_cons_succ]
  refine wpAnyH_take (i := 5) (oi := _) (v := ?_) rfl (by kernel_rfl) (by kernel_rfl) (by kernel_rfl) (fun _ _ _ h => h) (Or.inl ⟨by rfl, ?_⟩) (by assumption) ?_
  case refine_2 => (intro w hSw; (try dsimp only at hSw); go_simp <;> with_reducible rfl)
  try simp only [List.getElem_toArray, List.getElem_cons_zero, List.getElem_cons_succ, Act.put, List.setIfInBounds_toArray, List.set_cons_zero, List.set_cons_succ]
  refine wpAnyH_take (i := 6) (oi := _) (v := ?_) rfl (by kernel_rfl) (by kernel_rfl) (by kernel_rfl) (fun _ _ _ h => h) (Or.inl ⟨by rfl, ?_⟩) (by assumption) ?_
  case refine_2 => (intro w hSw; (try dsimp only at hSw); go_simp <;> with_reducible rfl)
  try simp only [List.getElem_toArray, List.getElem_cons_zero, List.getElem_cons_succ, Act.put, List.setIfInBounds_toArray, List.set_cons_zero, List.set_cons_succ]
  refine wpAnyH_take (i := 7) (oi := _) (v := ?_) rfl (by kernel_rfl) (by kernel_rfl) (by kernel_rfl) (fun _ _ _ h => h) (Or.inl ⟨by rfl, ?_⟩) (by assumption) ?_
  case refine_2 => (intro w hSw; (try dsimp only at hSw); go_simp <;> with_reducible rfl)
  try simp only [List.getElem_toArray, List.getElem_cons_zero, List.getElem_cons_succ, Act.put, List.setIfInBounds_toArray, List.set_cons_zero, List.set_cons_succ]
  refine wpAnyH_take (i := 8) (oi := _) (v := ?_) rfl (by kernel_rfl) (by kernel_rfl) (by kernel_rfl) (fun _ _ _ h => h) (Or.inl ⟨by rfl, ?_⟩) (by assumption) ?_
  case refine_2 => (intro w hSw; (try dsimp only at hSw); go_simp <;> with_reducible rfl)
  try simp only [List.getElem_toArray, List.getElem_cons_zero, List.getElem_cons_succ, Act.put, List.setIfInBounds_toArray, List.set_cons_zero, List.set_cons_succ]
  refine wpAnyH_take (i := 9) (oi := _) (v := ?_) rfl (by kernel_rfl) (by kernel_rfl) (by kernel_rfl) (fun _ _ _ h => h) (Or.inl ⟨by rfl, ?_⟩) (by assumption) ?_
  case refine_2 => (intro w hSw; (try dsimp only at hSw); go_simp <;> with_reducible rfl)
  try simp only [List.getElem_toArray, List.getElem_cons_zero, List.getElem_cons_succ, Act.put, List.setIfInBounds_toArray, List.set_cons_zero, List.set_cons_succ]
  refine wpAnyH_take (i := 10) (oi := _) (v := ?_) rfl (by kernel_rfl) (by kernel_rfl) (by kernel_rfl) (fun _ _ _ h => h) (Or.inl ⟨by rfl, ?_⟩) (by assumption) ?_
  case refine_2 => (intro w hSw; (try dsimp only at hSw); go_simp <;> with_reducible rfl)
  try simp only [List.getElem_toArray, List.getElem_cons_zero, List.getElem_cons_succ, Act.put, List.setIfInBounds_toArray, List.set_cons_zero, List.set_cons_succ]
  refine wpAnyH_take (i := 11) (oi := _) (v := ?_) rfl (by kernel_rfl) (by kernel_rfl) (by kernel_rfl) (fun _ _ _ h => h) (Or.inl ⟨by rfl, ?_⟩) (by assumption) ?_
  case refine_2 => (intro w hSw; (try dsimp only at hSw); go_simp <;> with_reducible rfl)
  try simp only [List.getElem_toArray, List.getElem_cons_zero, List.getElem_cons_succ, Act.put, List.setIfInBounds_toArray, List.set_cons_zero, List.set_cons_succ]
  refine wpAnyH_take (i := 12) (oi := _) (v := ?_) rfl (by kernel_rfl) (by kernel_rfl) (by kernel_rfl) (fun _ _ _ h => h) (Or.inl ⟨by rfl, ?_⟩) (by assumption) ?_
  case refine_2 => (intro w hSw; (try dsimp only at hSw); go_simp <;> with_reducible rfl)
  try simp only [List.getElem_toArray, List.getElem_cons_zero, List.getElem_cons_succ, Act.put, List.setIfInBounds_toArray, List.set_cons_zero, List.set_cons_succ]
  refine wpAnyH_take (i := 13) (oi := _) (v := ?_) rfl (by kernel_rfl) (by kernel_rfl) (by kernel_rfl) (fun _ _ _ h => h) (Or.inl ⟨by rfl, ?_⟩) (by assumption) ?_
  case refine_2 => (intro w hSw; (try dsimp only at hSw); go_simp <;> with_reducible rfl)
  try simp only [List.getElem_toArray, List.getElem_cons_zero, List.getElem_cons_succ, Act.put, List.setIfInBounds_toArray, List.set_cons_zero, List.set_cons_succ]
  refine wpAnyH_take (i := 14) (oi := _) (v := ?_) rfl (by kernel_rfl) (by kernel_rfl) (by kernel_rfl) (fun _ _ _ h => h) (Or.inl ⟨by rfl, ?_⟩) (by assumption) ?_
  case refine_2 => (intro w hSw; (try dsimp only at hSw); go_simp <;> with_reducible rfl)
  try simp only [List.getElem_toArray, List.getElem_cons_zero, List.getElem_cons_succ, Act.put, List.setIfInBounds_toArray, List.set_cons_zero, List.set_cons_succ]
  refine wpAnyH_take (i := 15) (oi := _) (v := ?_) rfl (by kernel_rfl) (by kernel_rfl) (by kernel_rfl) (fun _ _ _ h => h) (Or.inl ⟨by rfl, ?_⟩) (by assumption) ?_
  case refine_2 => (intro w hSw; (try dsimp only at hSw); go_simp <;> with_reducible rfl)
  try simp only [List.getElem_toArray, List.getElem_cons_zero, List.getElem_cons_succ, Act.put, List.setIfInBounds_toArray, List.set_cons_zero, List.set_cons_succ]
  refine wpAnyH_take (i := 16) (oi := _) (v := ?_) rfl (by kernel_rfl) (by kernel_rfl) (by kernel_rfl) (fun _ _ _ h => h) (Or.inl ⟨by rfl, ?_⟩) (by assumption) ?_
  case refine_2 => (intro w hSw; (try dsimp only at hSw); go_simp <;> with_reducible rfl)
  try simp only [List.getElem_toArray, List.getElem_cons_zero, List.getElem_cons_succ, Act.put, List.setIfInBounds_toArray, List.set_cons_zero, List.set_cons_succ]
  refine wpAnyH_take (i := 17) (oi := _) (v := ?_) rfl (by kernel_rfl) (by kernel_rfl) (by kernel_rfl) (fun _ _ _ h => h) (Or.inl ⟨by rfl, ?_⟩) (by assumption) ?_
  case refine_2 => (intro w hSw; (try dsimp only at hSw); go_simp <;> with_reducible rfl)
  try simp only [List.getElem_toArray, List.getElem_cons_zero, List.getElem_cons_succ, Act.put, List.setIfInBounds_toArray, List.set_cons_zero, List.set_cons_succ]
  refine wpAnyH_take (i := 18) (oi := _) (v := ?_) rfl (by kernel_rfl) (by kernel_rfl) (by kernel_rfl) (fun _ _ _ h => h) (Or.inl ⟨by rfl, ?_⟩) (by assumption) ?_
  case refine_2 => (intro w hSw; (try dsimp only at hSw); go_simp <;> with_reducible rfl)
  try simp only [List.getElem_toArray, List.getElem_cons_zero, List.getElem_cons_succ, Act.put, List.setIfInBounds_toArray, List.set_cons_zero, List.set_cons_succ]
  refine wpAnyH_take (i := 19) (oi := _) (v := ?_) rfl (by kernel_rfl) (by kernel_rfl) (by kernel_rfl) (fun _ _ _ h => h) (Or.inl ⟨by rfl, ?_⟩) (by assumption) ?_
  case refine_2 => (intro w hSw; (try dsimp only at hSw); go_simp <;> with_reducible rfl)
  try simp only [List.getElem_toArray, List.getElem_cons_zero, List.getElem_cons_succ, Act.put, List.setIfInBounds_toArray, List.set_cons_zero, List.set_cons_succ]
  refine wpAnyH_take (i := 20) (oi := _) (v := ?_) rfl (by kernel_rfl) (by kernel_rfl) (by kernel_rfl) (fun _ _ _ h => h) (Or.inl ⟨by rfl, ?_⟩) (by assumption) ?_
  case refine_2 => (intro w hSw; (try dsimp only at hSw); go_simp <;> with_reducible rfl)
  try simp only [List.getElem_toArray, List.getElem_cons_zero, List.getElem_cons_succ, Act.put, List.setIfInBounds_toArray, List.set_cons_zero, List.set_cons_succ]
  refine wpAnyH_ready (rs := [21]) (by kernel_rfl) (by simp) ?_
  refine AllReadyH.cons (o := _) rfl (fun K hK => ?_) AllReadyH.nil
  simp only [List.getElem_toArray, List.getElem_cons_zero, List.getElem_cons_succ]
  go_simp
  refine (rbody B m d L ma mi ln o _ (HS5.out.drew) (by omega) HA.out HI.out).mono ?_
  rintro e w6 ⟨A6, c6, rfl, hb6, ho6⟩
  go_simp
  refine hK.out _ _ ⟨⟨cell_later hb6 (show World.cell? w5.drew _ = _ from s0), cell_later hb6 (show World.cell? w5.drew _ = _ from s1), cell_later hb6 (show World.cell? w5.drew _ = _ from s2), cell_later hb6 (show World.cell? w5.drew _ = _ from s3), cell_later hb6 (show World.cell? w5.drew _ = _ from t0), cell_later hb6 (show World.cell? w5.drew _ = _ from t1)⟩, conv_str (Hr2.out.drew.below hb6) 22 9 Try.underlying22 Try.underlying5 Try.underlying9, conv_str (Hr3.out.drew.below hb6) 22 9 Try.underlying22 Try.underlying5 Try.underlying9, conv_str (HR5.out.drew.below hb6) 22 9 Try.underlying22 Try.underlying5 Try.underlying9⟩ (fun hHeld2 => ?_)
  have hv6 := conv_str (P := Try.prog) ho6.rd 22 9 Try.underlying22 Try.underlying5 Try.underlying9
  have B6 := Lib.hid (B5.out.drew.trans (hb6.mono B5.out.size))
  clear hK K hHeld hb6 ho6
  have hHeld := hHeld2
  clear hHeld2
  try simp only [List.getElem_toArray, List.getElem_cons_zero, List.getElem_cons_succ, Act.put, List.setIfInBounds_toArray, List.set_cons_zero, List.set_cons_succ]
  refine wpAnyH_ready (rs := [22]) (by kernel_rfl) (by simp) ?_
  refine AllReadyH.cons (o := _) rfl (fun K hK => ?_) AllReadyH.nil
  simp only [List.getElem_toArray, List.getElem_cons_zero, List.getElem_cons_succ]
  go_simp
  refine hK.out _ _ hHeld (fun hHeld2 => ?_)
  clear hK K hHeld hv6
  have hHeld := hHeld2
  clear hHeld2
  try simp only [List.getElem_toArray, List.getElem_cons_zero, List.getElem_cons_succ, Act.put, List.setIfInBounds_toArray, List.set_cons_zero, List.set_cons_succ]
  refine wpAnyH_take (i := 23) (oi := _) (v := ?_) rfl (by kernel_rfl) (by kernel_rfl) (by kernel_rfl) (fun _ _ _ h => h) (Or.inl ⟨by rfl, ?_⟩) (by assumption) ?_
  case refine_2 => (intro w hSw; (try dsimp only at hSw); go_simp <;> with_reducible rfl)
  try simp only [List.getElem_toArray, List.getElem_cons_zero, List.getElem_cons_succ, Act.put, List.setIfInBounds_toArray, List.set_cons_zero, List.set_cons_succ]
  refine wpAnyH_take (i := 24) (oi := _) (v := ?_) rfl (by kernel_rfl) (by kernel_rfl) (by kernel_rfl) (fun _ _ _ h => h) (Or.inl ⟨by rfl, ?_⟩) (by assumption) ?_
  case refine_2 => (intro w hSw; (try dsimp only at hSw); go_simp <;> with_reducible rfl)
  try simp only [List.getElem_toArray, List.getElem_cons_zero, List.getElem_cons_succ, Act.put, List.setIfInBounds_toArray, List.set_cons_zero, List.set_cons_succ]
  refine wpAnyH_take (i := 25) (oi := _) (v := ?_) rfl (by kernel_rfl) (by kernel_rfl) (by kernel_rfl) (fun _ _ _ h => h) (Or.inl ⟨by rfl, ?_⟩) (by assumption) ?_
  case refine_2 => (intro w hSw; (try dsimp only at hSw); go_simp <;> with_reducible rfl)
  try simp only [List.getElem_toArray, List.getElem_cons_zero, List.getElem_cons_succ, Act.put, List.setIfInBounds_toArray, List.set_cons_zero, List.set_cons_succ]
  refine wpAnyH_done (by kernel_rfl) ?_ _
  clear hHeld
  go_wp2
  go_ret
  exact ⟨rfl, B6.out⟩
end Go.Proofs.Ytdlpeljdpnohlaa
