/- Laws and walks that the claim's last text leans on, joined: each part says above itself what it proves. -/
import Derived.Test.YtonafonhadocgaaDoorQJ
import Derived.Test.YtonafonhadocgaaDoorQA
import Derived.Test.YtonafonhadocgaaDoorShelf
import Derived.Shelf.Strings.Builder1
import Derived.RangeFuncBox
import Derived.RegionTactic
import Derived.ChangeAlike
import Derived.Outline
import Derived.Test.YtonafonhadocgaaDoorQD

/- flow.Text, flow.Parse. -/
namespace Go.Proofs.YtonafonhadocgaaDoor
open Go.RowKit Go.Shelf

theorem flSize : (Tryd.prog.info? 29).map (·.size) = some 36 := by kernel_rfl
theorem flC_size (a b : En) (ha : a.2.1.length = 16) (hb : b.2.1.length = 16) : (flC a b).size = 36 := by simp [flC, enL_len a ha, enL_len b hb]
theorem enL_one (e : En) : (enL e).all (·.oneCell') = true := by
  simp only [enL, List.all_cons, List.all_append, List.all_nil, Bool.and_true]
  have : (bv e.2.1).all (·.oneCell') = true := List.all_eq_true.2 fun x hx => by
    obtain ⟨_, _, rfl⟩ := List.mem_map.1 hx
    rfl
  rw [this]
  rfl
theorem flC_one (a b : En) : (flC a b).toList.all (·.oneCell') = true := by
  show (enL a ++ enL b).all (·.oneCell') = true
  rw [List.all_append, enL_one, enL_one]
  rfl
theorem flC_client (a b : En) : ((flC a b).toList.drop 0).take (enC a.1 a.2.1 a.2.2).toList.length = (enC a.1 a.2.1 a.2.2).toList := by
  show (enL a ++ enL b).take (enL a).length = enL a
  rw [List.take_left']
  rfl
theorem flC_server (a b : En) (ha : a.2.1.length = 16) : ((flC a b).toList.drop 18).take (enC b.1 b.2.1 b.2.2).toList.length = (enC b.1 b.2.1 b.2.2).toList := by
  show ((enL a ++ enL b).drop 18).take (enL b).length = enL b
  rw [List.drop_left' (enL_len a ha), List.take_of_length_le (Nat.le_refl _)]
theorem en_info (e : En) (h : e.2.1.length = 16) : (Tryd.prog.info? 27).map (·.size) = some (enC e.1 e.2.1 e.2.2).toList.length := by
  rw [enSize, Array.length_toList, enC_size _ _ _ h]
theorem flow_cat (t u : List UInt8) : (⟨t.toArray⟩ : ByteArray) ++ ⟨#[32, 62, 32]⟩ ++ ⟨u.toArray⟩ = ⟨(t ++ ([32, 62, 32] ++ u)).toArray⟩ := by
  rw [show (⟨#[32, 62, 32]⟩ : ByteArray) = ⟨([32, 62, 32] : List UInt8).toArray⟩ from rfl, ByteArray.mk_append_mk, ByteArray.mk_append_mk]
  simp
theorem enT_len (e : En) (h : e.2.1.length = 16) (hp : e.2.2 < 65536) : (enT e).length ≤ 100 := by
  have h1 := printT_len e.1 e.2.1 h
  have h2 := dec_len16 e.2.2 hp
  unfold enT endsT
  split <;> simp <;> omega
/-- What flow.Text returns. -/
def flowV (a b : En) : Value := if mayB a.1 a.2.1 && mayB b.1 b.2.1 then .tuple #[.string ⟨(flowT a b).toArray⟩, .int .i64 0] else .tuple #[.string ⟨#[]⟩, .int .i64 2]
theorem ends_two (e : En) : endsV e.1 e.2.1 e.2.2 = if mayB e.1 e.2.1 then .tuple #[.string ⟨(enT e).toArray⟩, .int .i64 0] else .tuple #[.string ⟨#[]⟩, .int .i64 2] := rfl

set_option maxRecDepth 100000 in
set_option maxHeartbeats 4000000 in
theorem text_any (a b : En) (ha : a.2.1.length = 16) (hb : b.2.1.length = 16) (pa : a.2.2 < 65536) (pb : b.2.2 < 65536) (w : World) (env : Env w) :
    Calls Tryd.prog 7 #[.agg (flC a b)] w fun e w' => e = .returned (flowV a b) ∧ Below w.heap.size w w' := by
  have K := Lib.hid (Blk.new w 29 (flC a b))
  have B := Lib.hid ((Below.refl _ w).alloc (Nat.le_refl _) (.cells (flC a b) 29))
  have E := Lib.hid env
  have HA := Lib.hid (fun W (e : Env W) => ends_any a.1 a.2.1 a.2.2 ha pa W e)
  have HB := Lib.hid (fun W (e : Env W) => ends_any b.1 b.2.1 b.2.2 hb pb W e)
  have HC := Lib.hid (flC_client a b)
  have HS := Lib.hid (flC_server a b ha)
  have HI := Lib.hid (en_info a ha)
  have HJ := Lib.hid (en_info b hb)
  have la := enT_len a ha pa
  have lb := enT_len b hb pb
  have HV := Lib.hid (show flowV a b = if mayB a.1 a.2.1 && mayB b.1 b.2.1 then .tuple #[.string ⟨(enT a ++ (arrow ++ enT b)).toArray⟩, .int .i64 0] else .tuple #[.string ⟨#[]⟩, .int .i64 2] from rfl)
  rw [ends_two a] at HA
  rw [ends_two b] at HB
  clear env
  generalize flC a b = cs at *
  generalize (enC a.1 a.2.1 a.2.2) = ca at *
  generalize (enC b.1 b.2.1 b.2.2) = cb at *
  generalize flowV a b = fv at *
  generalize enT a = ta at *
  generalize enT b = tb at *
  generalize mayB a.1 a.2.1 = ma at *
  generalize mayB b.1 b.2.1 = mb at *
  clear ha hb pa pb
  have hs1 : ¬ 9223372036854775807 < ta.length + 3 := by omega
  have hs2 : ¬ 9223372036854775807 < ta.length + 3 + tb.length := by omega
  clear la lb
  go_enter Tryd.func7, Tryd.ntmps7
  go_wp2_with (refine wpList_load_part 27 (.tmp 9) w.heap.size 0 29 cs ca.toList _ K.out HC.out (by rfl) (by rfl) Tryd.underlying27 rfl HI.out (by rfl) ?_)
  refine (HA.out _ (E.out.below B.out)).mono ?_
  rintro e w2 ⟨rfl, b⟩
  have B2 := Lib.hid (B.out.trans (b.mono B.out.size))
  have K2 := Lib.hid (K.out.keep b)
  clear b K B HA HC HI
  cases ma with
  | false =>
    go_wp2_with (refine wpList_load_part 27 (.tmp 15) w.heap.size 18 29 cs cb.toList _ K2.out HS.out (by rfl) (by rfl) Tryd.underlying27 rfl HJ.out (by rfl) ?_)
    refine (HB.out _ (E.out.below B2.out)).mono ?_
    rintro e w3 ⟨rfl, b⟩
    have B3 := Lib.hid (B2.out.trans (b.mono B2.out.size))
    clear b K2 B2 HB HS HJ
    cases mb with
    | false =>
      obtain rfl := HV.out
      go_wp2_with fail
      go_ret2
      exact ⟨rfl, B3.out⟩
    | true =>
      obtain rfl := HV.out
      go_wp2_with fail
      go_ret2
      exact ⟨rfl, B3.out⟩
  | true =>
    go_wp2_with (refine wpList_load_part 27 (.tmp 15) w.heap.size 18 29 cs cb.toList _ K2.out HS.out (by rfl) (by rfl) Tryd.underlying27 rfl HJ.out (by rfl) ?_)
    refine (HB.out _ (E.out.below B2.out)).mono ?_
    rintro e w3 ⟨rfl, b⟩
    have B3 := Lib.hid (B2.out.trans (b.mono B2.out.size))
    clear b K2 B2 HB HS HJ
    cases mb with
    | false =>
      obtain rfl := HV.out
      go_wp2_with fail
      go_ret2
      exact ⟨rfl, B3.out⟩
    | true =>
      obtain rfl := HV.out
      go_wp2_with fail
      rw [flow_cat]
      go_ret2
      exact ⟨rfl, B3.out⟩

/-! ### flow.Parse -/
theorem results_fl {fn : Func} {p t : Tmp} (h : fn.results = #[.cell p 29, .tmp t]) (tmps : Array Value) (w : World) (g : Nat) (cs : Array Value)
    (hp : tmps.getD p undef = .pointer (some ⟨g, 0, none⟩)) (hg : Blk w g 29 cs) (hi : cs.size = 36) :
    (results fn tmps).run Tryd.prog w = .ok (.tuple #[.agg cs, tmps.getD t undef]) w := by
  have hp' : tmps[p]?.getD undef = .pointer (some ⟨g, 0, none⟩) := by simpa using hp
  have hl := run_loadVar_row (P := Tryd.prog) w g 29 29 cs (0, 0) _ hg Tryd.underlying29 rfl (by rw [hi]; exact flSize)
  simp [results, h, hp', asAddr, hl]
theorem built_fl (a b : En) (ha : a.2.1.length = 16) (hb : b.2.1.length = 16) : Tryd.prog.built 29 [(0, .agg (enC a.1 a.2.1 a.2.2)), (1, .agg (enC b.1 b.2.1 b.2.2))] = some (flC a b) := by
  obtain ⟨u, l, p⟩ := a
  obtain ⟨v, m, q⟩ := b
  obtain ⟨b0, b1, b2, b3, b4, b5, b6, b7, b8, b9, b10, b11, b12, b13, b14, b15, rfl⟩ := sixteen l ha
  obtain ⟨c0, c1, c2, c3, c4, c5, c6, c7, c8, c9, c10, c11, c12, c13, c14, c15, rfl⟩ := sixteen m hb
  kernel_rfl
abbrev zE : En := (false, z16, 0)
theorem built_z : Tryd.prog.built 29 [] = some (flC zE zE) := by kernel_rfl
/-- What flow.Parse returns. -/
def flowPV (l : List UInt8) : Value := match flowP l with
  | some (a, b) => .tuple #[.agg (flC a b), .int .i64 0]
  | none => .tuple #[.agg (flC zE zE), .int .i64 9]
theorem pe_ways (x : List UInt8) : ∃ (a : En) (er : Int), a.2.1.length = 16 ∧ peV (mkB x) = .tuple #[.agg (enC a.1 a.2.1 a.2.2), .int .i64 er] ∧ ((er = 0 ∧ enP x = some a) ∨ (er = 9 ∧ enP x = none)) := by
  unfold peV enP
  cases h : peL (mkB x) with
  | none => exact ⟨zE, 9, rfl, rfl, .inr ⟨rfl, rfl⟩⟩
  | some y => exact ⟨y, 0, (enP_sound h).2.len, rfl, .inl ⟨rfl, rfl⟩⟩
theorem cut_arrow (s : ByteArray) (hs : s.size < 4294967281) (w : World) (env : Env w) :
    Calls Tryd.prog 27 #[.string s, .string ⟨#[32, 62, 32]⟩] w fun e w' => e = .returned (.tuple #[.string (mkB (Lib.cut s.data.toList arrow).1), .string (mkB (Lib.cut s.data.toList arrow).2.1), .bool (Lib.cut s.data.toList arrow).2.2]) ∧ ∃ n, w' = w.drewN n := by
  obtain ⟨m, hm⟩ := env.max
  exact Any.strings_Cut { lays145 with } s ⟨#[32, 62, 32]⟩ m w hs hm
theorem cutF_len (l : List UInt8) : (Lib.cut l arrow).1.length ≤ l.length ∧ (Lib.cut l arrow).2.1.length ≤ l.length := by
  unfold Lib.cut
  split
  · simp only [List.length_take, List.length_drop]
    omega
  · simp

set_option maxRecDepth 100000 in
set_option maxHeartbeats 8000000 in
theorem fparse_any (s : ByteArray) (hs : s.size < 4294967281) (w : World) (env : Env w) :
    Calls Tryd.prog 17 #[.string s] w fun e w' => e = .returned (flowPV s.data.toList) ∧ Below w.heap.size w w' := by
  have E := Lib.hid env
  have HCUT := Lib.hid (fun W (e : Env W) => cut_arrow s hs W e)
  have HV := Lib.hid (show flowP s.data.toList = if (Lib.cut s.data.toList arrow).2.2 then (match enP (Lib.cut s.data.toList arrow).1, enP (Lib.cut s.data.toList arrow).2.1 with | some a, some b => some (a, b) | _, _ => none) else none from rfl)
  have hlen := cutF_len s.data.toList
  have hl0 : s.data.toList.length = s.size := rfl
  obtain ⟨⟨x, t, is⟩, hcut⟩ : ∃ c, Lib.cut s.data.toList arrow = c := ⟨_, rfl⟩
  rw [hcut] at HCUT HV hlen
  dsimp only at HCUT HV hlen
  obtain ⟨a, er, la, hpa, HWA⟩ := pe_ways x
  obtain ⟨b, er2, lb, hpb, HWB⟩ := pe_ways t
  have HPA := Lib.hid (fun W (e : Env W) => parseEnds_any (mkB x) (by rw [Lib.size_eq]; show x.length < _; omega) W e)
  have HPB := Lib.hid (fun W (e : Env W) => parseEnds_any (mkB t) (by rw [Lib.size_eq]; show t.length < _; omega) W e)
  rw [hpa] at HPA
  rw [hpb] at HPB
  have WA := Lib.hid HWA
  have WB := Lib.hid HWB
  have HSA := Lib.hid (show (Tryd.prog.info? 27).map (·.size) = some (enC a.1 a.2.1 a.2.2).size by rw [enC_size _ _ _ la]; exact enSize)
  have HSZA := Lib.hid (show (enC false z16 0).size = (enC a.1 a.2.1 a.2.2).size by rw [enC_size _ _ _ la]; rfl)
  have HSB := Lib.hid (show (Tryd.prog.info? 27).map (·.size) = some (enC b.1 b.2.1 b.2.2).size by rw [enC_size _ _ _ lb]; exact enSize)
  have HSZB := Lib.hid (show (enC false z16 0).size = (enC b.1 b.2.1 b.2.2).size by rw [enC_size _ _ _ lb]; rfl)
  have HOA := Lib.hid (enC_one a.1 a.2.1 a.2.2)
  have HOB := Lib.hid (enC_one b.1 b.2.1 b.2.2)
  have HBU := Lib.hid (built_fl a b la lb)
  have HBZ := Lib.hid built_z
  have HFS := Lib.hid (show (Tryd.prog.info? 29).map (·.size) = some (flC a b).size by rw [flC_size _ _ la lb]; exact flSize)
  have HFZ := Lib.hid (show (flC zE zE).size = (flC a b).size by rw [flC_size _ _ la lb]; rfl)
  have HFO := Lib.hid (flC_one a b)
  have HFY := Lib.hid (show (Tryd.prog.info? 29).map (·.size) = some (flC zE zE).size from flSize)
  have HFN := Lib.hid (flC_size a b la lb)
  have K0 := Lib.hid (Blk.new w 29 (flC zE zE))
  have B0 := Lib.hid ((Below.refl _ w).alloc (Nat.le_refl _) (.cells (flC zE zE) 29))
  have E0 := Lib.hid (env.below B0.out)
  clear env HWA HWB hpa hpb la lb hlen hcut
  go_enter Tryd.func17, Tryd.ntmps17
  go_wp2_with fail
  refine (HCUT.out _ E0.out).mono ?_
  rintro e w1 ⟨rfl, nn, rfl⟩
  have B1 := Lib.hid (below_drewN B0.out nn)
  have E1 := Lib.hid (E0.out.drewN nn)
  have K1 := Lib.hid (show Blk ((w.alloc (.cells (flC zE zE) 29)).drewN nn) w.heap.size 29 (flC zE zE) from K0.out)
  generalize (w.alloc (.cells (flC zE zE) 29)).drewN nn = w1 at *
  clear HCUT E0 B0 K0
  go_wp2_with fail
  refine (HPA.out _ E1.out).mono ?_
  rintro e w2 ⟨rfl, b2⟩
  have B2 := Lib.hid (B1.out.trans (b2.mono B1.out.size))
  have E2 := Lib.hid (E1.out.below b2)
  have K2 := Lib.hid (K1.out.keep b2)
  clear b2 B1 E1 K1 HPA
  go_upto_region 3 with ((with_reducible refine at_store 27 (.tmp 7) (.tmp 20) ?_); refine wpList_store_blk 27 (.tmp 7) (.tmp 20) w2.heap.size 27 (enC false z16 0) (enC a.1 a.2.1 a.2.2) (Blk.new w2 27 (enC false z16 0)) (by rfl) (by rfl) (by rfl) (by rfl) HSA.out HSZA.out HOA.out (by rfl) ?_; intro w3 hk hg hs; have KA := Lib.hid hk; have B3 := Lib.hid (print_world B2.out B2.out.size hg); have E3 := Lib.hid (E2.out.below (print_world (Below.refl _ w2) (Nat.le_refl _) hg)); have K3 := Lib.hid ((K2.out.alloc _).grown hg (fun e => by have := Option.some.inj e; have := K2.out.lt; omega)); clear hk hg hs)
  clear B2 E2 K2
  go_wp2_with fail
  refine (HPB.out _ E3.out).mono ?_
  rintro e w4 ⟨rfl, b4⟩
  have B4 := Lib.hid (B3.out.trans (b4.mono B3.out.size))
  have K4 := Lib.hid (K3.out.keep b4)
  have KA4 := Lib.hid (KA.out.keep b4)
  clear b4 B3 E3 K3 KA HPB
  go_upto_region 4 with ((with_reducible refine at_store 27 (.tmp 9) (.tmp 25) ?_); refine wpList_store_blk 27 (.tmp 9) (.tmp 25) w4.heap.size 27 (enC false z16 0) (enC b.1 b.2.1 b.2.2) (Blk.new w4 27 (enC false z16 0)) (by rfl) (by rfl) (by rfl) (by rfl) HSB.out HSZB.out HOB.out (by rfl) ?_; intro w5 hk hg hs; have KB := Lib.hid hk; have B5 := Lib.hid (print_world B4.out B4.out.size hg); have K5 := Lib.hid ((K4.out.alloc _).grown hg (fun e => by have := Option.some.inj e; have := K4.out.lt; omega)); have KA5 := Lib.hid ((KA4.out.alloc _).grown hg (fun e => by have := Option.some.inj e; have := KA4.out.lt; omega)); clear hk hg hs)
  clear B4 K4 KA4
  cases is with
  | false =>
    have HR := Lib.hid (show flowPV s.data.toList = .tuple #[.agg (flC zE zE), .int .i64 9] by rw [flowPV, HV.out]; rfl)
    clear HV
    go_wp2_with (first | ((with_reducible refine at_build 29 #[] ?_); refine wpList_build_eq 29 #[] (flC zE zE) (by rfl) HBZ.out (by rfl) ?_) | ((with_reducible refine at_store 29 (.tmp 2) (.tmp 37) ?_); refine wpList_store_blk 29 (.tmp 2) (.tmp 37) w.heap.size 29 (flC zE zE) (flC zE zE) K5.out (by rfl) (by rfl) (by rfl) (by rfl) HFY.out (by rfl) (flC_one zE zE) (by rfl) ?_; intro w9 hk hg hs; have V9 := Lib.hid hk; have G9 := Lib.hid (And.intro hg hs); clear hk hg hs))
    exact bodyPost_ret (v := .tuple #[.agg (flC zE zE), .int .i64 9]) (results_fl Tryd.results17 _ _ w.heap.size (flC zE zE) rfl V9.out (flC_size zE zE rfl rfl)) rfl ⟨by rw [HR.out], B5.out.grown G9.out.1 B5.out.size (fun k e => by cases e; exact Nat.le_refl _)⟩
  | true =>
    rcases WA.out with ⟨rfl, ea⟩ | ⟨rfl, ea⟩
    rotate_left
    · rw [ea] at HV
      clear WA WB ea
      have HR := Lib.hid (show flowPV s.data.toList = .tuple #[.agg (flC zE zE), .int .i64 9] by rw [flowPV, HV.out]; rfl)
      clear HV
      go_wp2_with (first | ((with_reducible refine at_build 29 #[] ?_); refine wpList_build_eq 29 #[] (flC zE zE) (by rfl) HBZ.out (by rfl) ?_) | ((with_reducible refine at_store 29 (.tmp 2) (.tmp 37) ?_); refine wpList_store_blk 29 (.tmp 2) (.tmp 37) w.heap.size 29 (flC zE zE) (flC zE zE) K5.out (by rfl) (by rfl) (by rfl) (by rfl) HFY.out (by rfl) (flC_one zE zE) (by rfl) ?_; intro w9 hk hg hs; have V9 := Lib.hid hk; have G9 := Lib.hid (And.intro hg hs); clear hk hg hs))
      exact bodyPost_ret (v := .tuple #[.agg (flC zE zE), .int .i64 9]) (results_fl Tryd.results17 _ _ w.heap.size (flC zE zE) rfl V9.out (flC_size zE zE rfl rfl)) rfl ⟨by rw [HR.out], B5.out.grown G9.out.1 B5.out.size (fun k e => by cases e; exact Nat.le_refl _)⟩
    rcases WB.out with ⟨rfl, eb⟩ | ⟨rfl, eb⟩
    rotate_left
    · rw [ea, eb] at HV
      clear WA WB ea eb
      have HR := Lib.hid (show flowPV s.data.toList = .tuple #[.agg (flC zE zE), .int .i64 9] by rw [flowPV, HV.out]; rfl)
      clear HV
      go_wp2_with (first | ((with_reducible refine at_build 29 #[] ?_); refine wpList_build_eq 29 #[] (flC zE zE) (by rfl) HBZ.out (by rfl) ?_) | ((with_reducible refine at_store 29 (.tmp 2) (.tmp 37) ?_); refine wpList_store_blk 29 (.tmp 2) (.tmp 37) w.heap.size 29 (flC zE zE) (flC zE zE) K5.out (by rfl) (by rfl) (by rfl) (by rfl) HFY.out (by rfl) (flC_one zE zE) (by rfl) ?_; intro w9 hk hg hs; have V9 := Lib.hid hk; have G9 := Lib.hid (And.intro hg hs); clear hk hg hs))
      exact bodyPost_ret (v := .tuple #[.agg (flC zE zE), .int .i64 9]) (results_fl Tryd.results17 _ _ w.heap.size (flC zE zE) rfl V9.out (flC_size zE zE rfl rfl)) rfl ⟨by rw [HR.out], B5.out.grown G9.out.1 B5.out.size (fun k e => by cases e; exact Nat.le_refl _)⟩
    have HR := Lib.hid (show flowPV s.data.toList = .tuple #[.agg (flC a b), .int .i64 0] by rw [flowPV, HV.out, ea, eb]; rfl)
    clear HV WA WB ea eb
    go_wp2_with (first | (refine wpList_load_blk 27 (.tmp 7) w2.heap.size 27 (enC a.1 a.2.1 a.2.2) _ KA5.out (by rfl) (by rfl) Tryd.underlying27 rfl HSA.out (by rfl) ?_) | (refine wpList_load_blk 27 (.tmp 9) w4.heap.size 27 (enC b.1 b.2.1 b.2.2) _ KB.out (by rfl) (by rfl) Tryd.underlying27 rfl HSB.out (by rfl) ?_) | ((with_reducible refine at_build 29 #[(0, .tmp 38), (1, .tmp 39)] ?_); refine wpList_build_eq 29 #[(0, .tmp 38), (1, .tmp 39)] (flC a b) (by rfl) HBU.out (by rfl) ?_) | ((with_reducible refine at_store 29 (.tmp 2) (.tmp 40) ?_); refine wpList_store_blk 29 (.tmp 2) (.tmp 40) w.heap.size 29 (flC zE zE) (flC a b) K5.out (by rfl) (by rfl) (by rfl) (by rfl) HFS.out HFZ.out HFO.out (by rfl) ?_; intro w9 hk hg hs; have V9 := Lib.hid hk; have G9 := Lib.hid (And.intro hg hs); clear hk hg hs))
    exact bodyPost_ret (v := .tuple #[.agg (flC a b), .int .i64 0]) (results_fl Tryd.results17 _ _ w.heap.size (flC a b) rfl V9.out HFN.out) rfl ⟨by rw [HR.out], B5.out.grown G9.out.1 B5.out.size (fun k e => by cases e; exact Nat.le_refl _)⟩
end Go.Proofs.YtonafonhadocgaaDoor

/- A strings.Builder that the call itself has made: WriteString, Len, String. -/
namespace Go.Proofs.YtonafonhadocgaaDoor
open Go.RowKit Go.Shelf

abbrev Bld (B b : Nat) (l : List UInt8) (w : World) : Prop := Lib.IsBuilder 79 5 B b (Lib.byteCells l) w

theorem bldSize : (Tryd.prog.info? 79).map (·.size) = some 2 := by kernel_rfl
theorem bldLies : liesAt Tryd.prog Tryd.prog.depth 79 (2 / Tryd.prog.cellsOf 79) 0 79 1 = true := by kernel_rfl
theorem byteInfo : (Tryd.prog.info? 5).map (fun i => (i.zero, i.size, i.bytes)) = some (some (.int .u8 0), 1, 1) := by kernel_rfl

set_option maxRecDepth 100000 in
set_option maxHeartbeats 1000000 in
theorem copyCheck_used (b : Nat) (w : World) (h0 : w.cell? ⟨b, 0, none⟩ = some (.pointer (some ⟨b, 0, none⟩))) :
    Calls Tryd.prog 51 #[.pointer (some ⟨b, 0, none⟩)] w fun e w' => e = .returned (.tuple #[]) ∧ w = w' := by
  obtain ⟨j, hj, _⟩ := Option.map_eq_some_iff.1 bldSize
  go_enter Tryd.func51, Tryd.ntmps51
  go_wp2
  rw [Lib.run_neq_ptr_same w _ Tryd.underlying77 hj]
  go_wp2
  go_end0
  exact ⟨rfl, rfl⟩

set_option maxRecDepth 100000 in
set_option maxHeartbeats 1000000 in
theorem copyCheck_fresh (b : Nat) (w : World) (h0 : w.cell? ⟨b, 0, none⟩ = some (.pointer none)) (hsh : w.shape? b = some (79, 2)) (hfz : w.frozen? ⟨b, 0, none⟩ = false) :
    Calls Tryd.prog 51 #[.pointer (some ⟨b, 0, none⟩)] w fun e w' => e = .returned (.tuple #[]) ∧ w.setCell ⟨b, 0, none⟩ (.pointer (some ⟨b, 0, none⟩)) = w' := by
  obtain ⟨j, hj, hjs⟩ := Option.map_eq_some_iff.1 bldSize
  go_enter Tryd.func51, Tryd.ntmps51
  go_wp2
  rw [Lib.run_to_unsafe w ⟨b, 0, none⟩ Tryd.underlying77 Tryd.underlying118 hj (by rw [hjs]; decide) hsh (Nat.zero_lt_succ 1)]
  simp only [Result.andThen]
  rw [Oper.upon_value]
  go_wp2
  rw [run_callFunc_extern Tryd.func63 (by kernel_rfl) (by kernel_rfl) (by kernel_rfl) (e := Extern.AbiNoEscape.same) (by kernel_rfl)]
  rw [Lib.run_noEscape]
  simp only [Result.andThen]
  rw [Oper.upon_value]
  go_wp2
  rw [Lib.run_from_unsafe w ⟨b, 0, none⟩ Tryd.underlying118 Tryd.underlying77 hj hsh bldLies]
  simp only [Result.andThen]
  rw [Oper.upon_value]
  go_wp2
  go_end0
  exact ⟨rfl, rfl⟩

/-- A builder at block b, whose bytes are l; its row of bytes lies from base on, beyond b. -/
def BldO (base b : Nat) (p : Value) (l : List UInt8) (w : World) : Prop :=
  ∃ v, w.heap[b]? = some (.cells #[p, v] 79 (0, 0)) ∧ w.ownsRow base 5 1 v l.length (Lib.byteCells l)

section
variable {base b : Nat} {p : Value} {l : List UInt8} {w w' : World}
theorem BldO.kept (h : BldO base b p l w) {row : Option Nat} (hg : w.grownBy w' row) (hb : ∀ r, row = some r → r < base ∧ r ≠ b) : BldO base b p l w' := by
  obtain ⟨v, h1, h2⟩ := h
  refine ⟨v, (hg.block b (Array.getElem?_eq_some_iff.1 h1).1 (fun e => (hb b e.symm).2 rfl)).trans h1, h2.kept hg ?_⟩
  cases row with
  | none =>
    cases hv : v.ownBlock with
    | none => exact .inl rfl
    | some g => exact .inr (by simp)
  | some r =>
    right
    intro e
    rcases h2.2 with ⟨rfl, _⟩ | ⟨g, cap, cur, rfl, hb', _⟩
    · cases e
    · simp [Value.ownBlock] at e
      have := (hb r rfl).1
      omega
theorem BldO.fresh (w : World) (base : Nat) : BldO base w.heap.size (.pointer none) [] (w.alloc (.cells #[.pointer none, .slice none 0 0] 79)) :=
  ⟨_, heap_alloc_new w _, World.ownsRow_nil _ base _ 1⟩
theorem BldO.is (h : BldO base b p l w) (hp : p = .pointer none ∨ p = .pointer (some ⟨b, 0, none⟩)) (hb : b < base) : Lib.IsBuilder 79 5 b b (Lib.byteCells l) w := by
  obtain ⟨v, h1, h2⟩ := h
  have hne : v.ownBlock ≠ some b := fun e => by
    rcases h2.2 with ⟨rfl, _⟩ | ⟨g, cap, cur, rfl, hb', _⟩
    · cases e
    · simp [Value.ownBlock] at e
      omega
  have h3 : w.ownsRow b 5 1 v (Lib.byteCells l).length (Lib.byteCells l) := by
    rw [Lib.byteCells_length]
    refine ⟨h2.1, ?_⟩
    rcases h2.2 with hn | ⟨g, cap, cur, hv, hb', rest⟩
    · exact .inl hn
    · exact .inr ⟨g, cap, cur, hv, by omega, rest⟩
  rcases hp with rfl | rfl
  · exact .inl ⟨Nat.le_refl _, v, h1, h3, hne⟩
  · exact .inr ⟨Nat.le_refl _, v, h1, h3, hne⟩
end

set_option maxRecDepth 100000 in
set_option maxHeartbeats 1000000 in
theorem write_string (base b : Nat) (p : Value) (l : List UInt8) (s : ByteArray) (w : World) (hp : p = .pointer none ∨ p = .pointer (some ⟨b, 0, none⟩)) (h : BldO base b p l w) (hb : b < base) (hbase : base ≤ w.heap.size) (hlen : l.length + s.size ≤ 140737488355328) :
    Calls Tryd.prog 75 #[.pointer (some ⟨b, 0, none⟩), .string s] w fun e w' =>
      e = .returned (.tuple #[.int .i64 s.size, .nilIface]) ∧ BldO base b (.pointer (some ⟨b, 0, none⟩)) (l ++ s.data.toList) w' ∧ Below b w w' ∧ ∀ r, r < base → r ≠ b → w'.heap[r]? = w.heap[r]? := by
  obtain ⟨i0, hi, hz0, hz1, hz2⟩ := info_parts byteInfo
  have C : Calls Tryd.prog 51 #[.pointer (some ⟨b, 0, none⟩)] w fun e w' => e = .returned (.tuple #[]) ∧ BldO base b (.pointer (some ⟨b, 0, none⟩)) l w' ∧ w.grownBy w' (some b) := by
    have h0 := h
    obtain ⟨v, h1, h2⟩ := h
    rcases hp with rfl | rfl
    · refine (copyCheck_fresh b w ((Lib.cell_of_heap h1 0).trans rfl) (by simp [World.shape?, h1]) (Lib.frozen_of_heap h1 0)).mono ?_
      rintro e w' ⟨rfl, rfl⟩
      refine ⟨rfl, ⟨v, by simp [World.setCell, Array.getElem?_modify, h1], ?_⟩, grownBy_setCell' w b _⟩
      obtain ⟨v', h1', h2'⟩ := h0
      refine h2.kept (grownBy_setCell' w b _) (.inr fun e => ?_)
      rcases h2.2 with ⟨rfl, _⟩ | ⟨g, cap, cur, rfl, hb', _⟩
      · cases e
      · simp [Value.ownBlock] at e
        omega
    · refine (copyCheck_used b w ((Lib.cell_of_heap h1 0).trans rfl)).mono ?_
      rintro e w' ⟨rfl, rfl⟩
      exact ⟨rfl, h0, World.grownBy.refl w _⟩
  have HC := Lib.hid C
  clear C h
  go_enter Tryd.func75, Tryd.ntmps75
  go_wp2_with fail
  refine HC.out.mono ?_
  rintro e w1 ⟨rfl, ⟨v, hbk, hown⟩, hg1⟩
  have c0 : w1.cell? ⟨b, 0, none⟩ = some (.pointer (some ⟨b, 0, none⟩)) := by rw [Lib.cell_of_heap hbk]; rfl
  have c1 : w1.cell? ⟨b, 1, none⟩ = some v := by rw [Lib.cell_of_heap hbk]; rfl
  go_wp2_with (at_builtin; refine Lib.wpList_append_own_string _ rfl _ _ 57 9 rfl base 5 i0 Tryd.underlying57 Tryd.underlying9 hi hz0 hz1 hz2 _ _ _ rfl hown s rfl ?c3 ?c4 ?c5 ?_)
  case c3 => unfold maxLen; omega
  case c4 => omega
  case c5 => have := hg1.size; omega
  intro v' w2 hown' hgrow _
  have hvb : ∀ r, v.ownBlock = some r → base ≤ r := fun r e => (hown.lt r e).1
  have hlt : b < w1.heap.size := (Array.getElem?_eq_some_iff.1 hbk).1
  have hb2 : w2.heap[b]? = some (.cells #[.pointer (some ⟨b, 0, none⟩), v] 79 (0, 0)) := by
    rw [hgrow.block b hlt (fun e => by have := hvb b e.symm; omega)]
    exact hbk
  have d0 : w2.cell? ⟨b, 0, none⟩ = some (.pointer (some ⟨b, 0, none⟩)) := by rw [Lib.cell_of_heap hb2]; rfl
  have d1 : w2.cell? ⟨b, 1, none⟩ = some v := by rw [Lib.cell_of_heap hb2]; rfl
  have f1 : w2.frozen? ⟨b, 1, none⟩ = false := Lib.frozen_of_heap hb2 1
  obtain ⟨ao, n', cap, rfl⟩ : ∃ ao n' cap, v' = .slice ao n' cap := by
    rcases hown'.2 with ⟨hv, _⟩ | ⟨g, cap, cur, hv, _⟩
    · exact ⟨_, _, _, hv⟩
    · exact ⟨_, _, _, hv⟩
  have HG1 := Lib.hid hg1
  have HGR := Lib.hid hgrow
  have HVB := Lib.hid hvb
  have HOW := Lib.hid hown'
  have HB2 := Lib.hid hb2
  clear hg1 hgrow hvb hown' hb2 hown hbk
  go_wp2
  go_ret2
  refine ⟨rfl, ⟨.slice ao n' cap, ?_, ?_⟩, ?_, ?_⟩
  · have := HB2.out
    simp [World.setCell, Array.getElem?_modify, this]
  · have h := HOW.out
    rw [Lib.strCells_eq] at h
    have e : (l ++ s.data.toList).length = l.length + s.size := by rw [List.length_append]; rfl
    have e2 : Lib.byteCells (l ++ s.data.toList) = Lib.byteCells l ++ Lib.byteCells s.data.toList := by simp [Lib.byteCells]
    rw [e, e2]
    refine h.kept (row := some b) ⟨rfl, rfl, rfl, by simp [World.setCell], fun k _ hk => Below.heap_setCell _ _ _ _ (fun e => hk (by simp [e]))⟩ (.inr fun e => ?_)
    have := (h.lt b e).1
    omega
  · exact (((Below.refl b w).grown HG1.out (by omega) (fun k e => by cases e; exact Nat.le_refl _)).grown HGR.out (by have := HG1.out.size; omega) (fun k e => by have := HVB.out k e; omega)).setCell (p := ⟨b, 1, none⟩) (Nat.le_refl _) _
  · intro r hr hrb
    have z1 := HG1.out.size
    exact (Below.heap_setCell _ _ _ _ (by simpa using hrb)).trans ((HGR.out.block r (by omega) (fun e => by have := HVB.out r e.symm; omega)).trans (HG1.out.block r (by omega) (fun e => hrb (by cases e; rfl))))

theorem bldExtra : Builder.Extra Tryd.prog lays169_ren := { sizeBuilder := by kernel_rfl, liesBuilder := by kernel_rfl, t5 := Tryd.underlying5, a5 := Tryd.isAgg5, z5 := Tryd.sizeOf5, v5 := Tryd.zeroValue5, infoByte := by kernel_rfl, cellsByte := by kernel_rfl, sizeByte := by kernel_rfl, neB5 := by decide }


set_option maxRecDepth 100000 in
set_option maxHeartbeats 1000000 in
theorem string_some (base b : Nat) (p : Value) (l : List UInt8) (w : World) (h : BldO base b p l w) (h0 : l ≠ []) :
    Calls Tryd.prog 32 #[.pointer (some ⟨b, 0, none⟩)] w fun e w' => e = .returned (.string ⟨l.toArray⟩) ∧ Below base w w' := by
  obtain ⟨v, hbk, hown⟩ := h
  have hl0 : l.length ≠ 0 := by simpa using h0
  obtain ⟨g, cap, cur, rfl, hbg, hg, hnc, hcm, hcs, htake⟩ : ∃ g cap cur, v = .slice (some ⟨g, 0, none⟩) l.length cap ∧ base ≤ g ∧ w.heap[g]? = some (.cells cur 5 (0, 0)) ∧ l.length ≤ cap ∧ cap ≤ maxLen ∧ cur.size = cap * 1 ∧ cur.toList.take (l.length * 1) = Lib.byteCells l := by
    rcases hown.2 with ⟨_, hz⟩ | ⟨g, cap, cur, hv, r⟩
    · exact absurd hz hl0
    · exact ⟨g, cap, cur, hv, r⟩
  have c1 : w.drew.cell? ⟨b, 1, none⟩ = some (.slice (some ⟨g, 0, none⟩) l.length cap) := by
    have : w.drew.heap[b]? = some (.cells #[p, .slice (some ⟨g, 0, none⟩) l.length cap] 79 (0, 0)) := hbk
    rw [Lib.cell_of_heap this]; rfl
  have hSD : (Builtin.unsafeSliceData_ #[57] 102 #[.slice (some ⟨g, 0, none⟩) l.length cap]).run Tryd.prog w.drew = .ok (.pointer (some ⟨g, 0, none⟩)) w.drew :=
    Lib.run_unsafeSliceData_row _ _ _ _ _ _ (by omega)
  have hUS : (Builtin.unsafeString_ #[102, 3] 9 #[.pointer (some ⟨g, 0, none⟩), .int .i64 l.length]).run Tryd.prog w.drew = .ok (.string ⟨l.toArray⟩) (w.drew.freeze ⟨g, 0, none⟩ l.length) := by
    refine Lib.run_unsafeString_row w.drew 102 3 9 5 Tryd.underlying102 (by kernel_rfl) g cur.size (by have hg' : w.drew.heap[g]? = some (.cells cur 5 (0, 0)) := hg; simp [World.shape?, hg']) l h0 (by omega) (by unfold maxLen at hcm; omega) ?_
    intro j x hx
    have := hown.cells (g := g) rfl j (.int .u8 x.toNat) (by simp [Lib.byteCells, hx])
    exact this
  clear hbk hown htake hg hcs
  go_enter Tryd.func32, Tryd.ntmps32
  go_wp2
  go_region
  all_goals (go_wp2; go_ret; exact ⟨rfl, Lib.below_freeze (Below.drew (Below.refl base w)) (p := ⟨g, 0, none⟩) hbg _⟩)

theorem string_any (base b : Nat) (p : Value) (l : List UInt8) (w : World) (h : BldO base b p l w) :
    Calls Tryd.prog 32 #[.pointer (some ⟨b, 0, none⟩)] w fun e w' => e = .returned (.string ⟨l.toArray⟩) ∧ Below base w w' := by
  cases l with
  | cons x r => exact string_some base b p _ w h (by simp)
  | nil =>
    obtain ⟨v, hbk, hown⟩ := h
    rcases hown.2 with ⟨rfl, _⟩ | ⟨g, cap, cur, rfl, hbg, hg, _, _, _, _⟩
    · exact Any.Builder_String_nil lays169 bldExtra base b p w hbk
    · by_cases hc0 : cap = 0
      · subst hc0
        exact Any.Builder_String_noroom lays169 bldExtra base b g p cur w (Nat.le_of_lt (Nat.lt_of_le_of_lt hbg (Array.getElem?_eq_some_iff.1 hg).1)) hbk hg
      · exact Any.Builder_String_room lays169 bldExtra base b g cap p w hc0 hbk
end Go.Proofs.YtonafonhadocgaaDoor

/- (*strings.Builder).WriteByte, at a builder that the call itself has made. -/
namespace Go.Proofs.YtonafonhadocgaaDoor
open Go.RowKit Go.Shelf

theorem byteCells_eq (l : List UInt8) : Lib.byteCells l = bv l := by simp [Lib.byteCells, bv]

set_option maxRecDepth 100000 in
set_option maxHeartbeats 1000000 in
theorem write_byte (base b : Nat) (p : Value) (l : List UInt8) (c : UInt8) (w : World) (hp : p = .pointer none ∨ p = .pointer (some ⟨b, 0, none⟩)) (h : BldO base b p l w) (hb : b < base) (hbase : base ≤ w.heap.size) (hlen : l.length ≤ 1099511627774) :
    Calls Tryd.prog 31 #[.pointer (some ⟨b, 0, none⟩), .int .u8 (c.toNat : Int)] w fun e w' =>
      e = .returned .nilIface ∧ BldO base b (.pointer (some ⟨b, 0, none⟩)) (l ++ [c]) w' ∧ Below b w w' ∧ ∀ r, r < base → r ≠ b → w'.heap[r]? = w.heap[r]? := by
  obtain ⟨i0, hi, hz0, hz1, hz2⟩ := info_parts byteInfo
  have C : Calls Tryd.prog 51 #[.pointer (some ⟨b, 0, none⟩)] w fun e w' => e = .returned (.tuple #[]) ∧ BldO base b (.pointer (some ⟨b, 0, none⟩)) l w' ∧ w.grownBy w' (some b) := by
    have h0 := h
    obtain ⟨v, h1, h2⟩ := h
    rcases hp with rfl | rfl
    · refine (copyCheck_fresh b w ((Lib.cell_of_heap h1 0).trans rfl) (by simp [World.shape?, h1]) (Lib.frozen_of_heap h1 0)).mono ?_
      rintro e w' ⟨rfl, rfl⟩
      refine ⟨rfl, ⟨v, by simp [World.setCell, Array.getElem?_modify, h1], ?_⟩, grownBy_setCell' w b _⟩
      obtain ⟨v', h1', h2'⟩ := h0
      refine h2.kept (grownBy_setCell' w b _) (.inr fun e => ?_)
      rcases h2.2 with ⟨rfl, _⟩ | ⟨g, cap, cur, rfl, hb', _⟩
      · cases e
      · simp [Value.ownBlock] at e
        omega
    · refine (copyCheck_used b w ((Lib.cell_of_heap h1 0).trans rfl)).mono ?_
      rintro e w' ⟨rfl, rfl⟩
      exact ⟨rfl, h0, World.grownBy.refl w _⟩
  have HC := Lib.hid C
  clear C h
  go_enter Tryd.func31, Tryd.ntmps31
  go_wp2_with fail
  refine HC.out.mono ?_
  rintro e w1 ⟨rfl, ⟨v, hbk, hown0⟩, hg1⟩
  have hown : OwnV 5 w1 base v (bv l) := by
    unfold OwnV
    rw [bv_length, ← byteCells_eq]
    exact hown0
  have c0 : w1.cell? ⟨b, 0, none⟩ = some (.pointer (some ⟨b, 0, none⟩)) := by rw [Lib.cell_of_heap hbk]; rfl
  have c1 : w1.cell? ⟨b, 1, none⟩ = some v := by rw [Lib.cell_of_heap hbk]; rfl
  have hlt : b < w1.heap.size := (Array.getElem?_eq_some_iff.1 hbk).1
  have c1' : (w1.alloc (.cells #[.int .u8 (c.toNat : Int)] 5)).cell? ⟨b, 1, none⟩ = some v := cell_later ((Below.refl _ _).alloc (Nat.le_refl _) _) c1
  go_wp2_with (at_builtin; refine wpList_append_lit w1 (by rfl) (.tmp 11) (.tmp 13) 57 5 (by rfl) base i0 _ 1 Tryd.underlying57 hi hz0 hz1 hz2 rfl v (bv l) (by rfl) hown (bv [c]) 1 rfl (by rfl) (fun u hu => by obtain ⟨_, _, rfl⟩ := List.mem_map.1 hu; rfl) _ (by rfl) (by rw [bv_length]; omega) (by omega) (by have := hg1.size; omega) ?c9)
  case c9 =>
    intro v' w2 hown' hbel hgrow
    have hvb : ∀ r, v.ownBlock = some r → base ≤ r := fun r e => (hown.blk_lt e).1
    have hb2 : w2.heap[b]? = some (.cells #[.pointer (some ⟨b, 0, none⟩), v] 79 (0, 0)) := by
      rw [hgrow.block b (by simp; omega) (fun e => by have := hvb b e.symm; omega)]
      exact (Below.heap_alloc _ _ _ hlt).trans hbk
    have d0 : w2.cell? ⟨b, 0, none⟩ = some (.pointer (some ⟨b, 0, none⟩)) := by rw [Lib.cell_of_heap hb2]; rfl
    have d1 : w2.cell? ⟨b, 1, none⟩ = some v := by rw [Lib.cell_of_heap hb2]; rfl
    have f1 : w2.frozen? ⟨b, 1, none⟩ = false := Lib.frozen_of_heap hb2 1
    obtain ⟨ao, n', cap, rfl⟩ : ∃ ao n' cap, v' = .slice ao n' cap := by
      rcases hown'.2 with ⟨hv, _⟩ | ⟨g, cap, cur, hv, _⟩
      · exact ⟨_, _, _, hv⟩
      · exact ⟨_, _, _, hv⟩
    have HG1 := Lib.hid hg1
    have HBE := Lib.hid hbel
    have HOW := Lib.hid hown'
    have HB2 := Lib.hid hb2
    clear hg1 hgrow hvb hown' hb2 hown hown0 hbk hbel
    go_wp2
    go_ret
    refine ⟨rfl, ⟨.slice ao n' cap, ?_, ?_⟩, ?_, ?_⟩
    · have := HB2.out
      simp [World.setCell, Array.getElem?_modify, this]
    · have h := HOW.out
      unfold OwnV at h
      have e2 : Lib.byteCells (l ++ [c]) = bv l ++ bv [c] := by rw [byteCells_eq]; simp [bv]
      have e : (l ++ [c]).length = (bv l ++ bv [c]).length := by simp [bv]
      rw [e, e2]
      refine h.kept (row := some b) ⟨rfl, rfl, rfl, by simp [World.setCell], fun k _ hk => Below.heap_setCell _ _ _ _ (fun e => hk (by simp [e]))⟩ (.inr fun e => ?_)
      have := (h.lt b e).1
      omega
    · exact (((((Below.refl b w).grown HG1.out (by omega) (fun k e => by cases e; exact Nat.le_refl _)).alloc (by have := HG1.out.size; omega) _).trans (HBE.out.mono (by omega)))).setCell (p := ⟨b, 1, none⟩) (Nat.le_refl _) _
    · intro r hr hrb
      have z1 := HG1.out.size
      exact (Below.heap_setCell _ _ _ _ (by simpa using hrb)).trans ((HBE.out.block r hr).trans ((Below.heap_alloc _ _ _ (by omega)).trans (HG1.out.block r (by omega) (fun e => hrb (by cases e; rfl)))))
end Go.Proofs.YtonafonhadocgaaDoor

/- text.Hex. -/
namespace Go.Proofs.YtonafonhadocgaaDoor
open Go.RowKit Go.Shelf

theorem hexB_snoc (l : List UInt8) (c : UInt8) : hexB (l ++ [c]) = hexB l ++ [hxd (c.toNat / 16)] ++ [hxd (c.toNat % 16)] := by simp [hexB]

theorem hexs_at : ∀ k : Fin 16, ((⟨#[48, 49, 50, 51, 52, 53, 54, 55, 56, 57, 97, 98, 99, 100, 101, 102]⟩ : ByteArray)[k.val]'(k.isLt)) = hxd k.val := by decide +kernel
theorem hexs_at' (k : Nat) (h : k < 16) (hk : k < (⟨#[48, 49, 50, 51, 52, 53, 54, 55, 56, 57, 97, 98, 99, 100, 101, 102]⟩ : ByteArray).size) : ((⟨#[48, 49, 50, 51, 52, 53, 54, 55, 56, 57, 97, 98, 99, 100, 101, 102]⟩ : ByteArray)[k]'hk) = hxd k := hexs_at ⟨k, h⟩
theorem andLow : ∀ n : Nat, n < 256 → bits BinOp.and IntKind.u8 (n : Int) 15 = ((n % 16 : Nat) : Int) := by decide +kernel

set_option maxRecDepth 100000 in
set_option maxHeartbeats 4000000 in
theorem thex_any (A : Option Addr) (n c : Nat) (l : List UInt8) (w : World) (hr : Rd w A n c l) (hn : n ≤ 100000) :
    Calls Tryd.prog 19 #[.slice A n c] w fun e w' => e = .returned (.string ⟨(hexB l).toArray⟩) ∧ Below w.heap.size w w' := by
  have HR := Lib.hid hr
  have hl : l.length = n := hr.1
  have B0 := Lib.hid ((Below.refl _ w).alloc (Nat.le_refl _) (.cells #[.pointer none, .slice none 0 0] 79))
  have K0 := Lib.hid (BldO.fresh w (w.heap.size + 1))
  clear hr
  go_enter Tryd.func19, Tryd.ntmps19
  go_wp2_with fail
  go_loopw [8] (fun i wr => ∃ k : Nat, k ≤ n ∧ i = .int .i64 k ∧ Hid (∃ p, (p = .pointer none ∨ p = .pointer (some ⟨w.heap.size, 0, none⟩)) ∧ BldO (w.heap.size + 1) w.heap.size p (hexB (l.take k)) wr ∧ Below w.heap.size w wr)) (fun i _ => n - (intOf i).toNat)
  case atStart => exact ⟨0, by omega, rfl, Lib.hid ⟨_, .inl rfl, K0.out, B0.out⟩⟩
  case round =>
    clear K0 B0
    obtain ⟨k, hk, rfl, I⟩ := hrel
    by_cases hlt : k < n
    · obtain ⟨p, hp, hbk, hbw⟩ := I.out
      obtain ⟨b, off, rfl, hb, hc⟩ := HR.out.at_ (by omega)
      have q := hc k hlt
      have q' := cell_later hbw q
      obtain ⟨x, hx⟩ : ∃ x, x = l[k]?.getD 0 := ⟨_, rfl⟩
      have HT := Lib.hid (show l.take (k + 1) = l.take k ++ [x] by rw [List.take_add_one, List.getElem?_eq_getElem (by omega), hx, List.getElem?_eq_getElem (by omega)]; rfl)
      rw [← hx] at q'
      have HP := Lib.hid hp
      have HB := Lib.hid hbk
      have HW := Lib.hid hbw
      have hbw2 : w.heap.size + 1 ≤ wr.heap.size := (by obtain ⟨v, h1, _⟩ := hbk; have := (Array.getElem?_eq_some_iff.1 h1).1; omega)
      clear q hc hp hbk hbw hx I
      have hx256 := x.toNat_lt
      have h16 : x.toNat / 16 < 16 := by omega
      have hm16 : x.toNat % 16 < 16 := by omega
      have hq : 0 ≤ (x.toNat : Int) / 16 ∧ (x.toNat : Int) / 16 < 16 := by omega
      have hand := andLow x.toNat hx256
      have hqm : 0 ≤ ((x.toNat % 16 : Nat) : Int) ∧ ((x.toNat % 16 : Nat) : Int) < 16 := by omega
      have hT0 : (l.take k).length ≤ n := by rw [List.length_take]; omega
      have hLA : (hexB (l.take k)).length ≤ 200000 := by rw [hexB_len]; omega
      have hwb := hbw2
      clear hx256
      go_wp2_with fail
      rw [hexs_at' _ h16]
      refine (write_byte (w.heap.size + 1) w.heap.size p (hexB (l.take k)) (hxd (x.toNat / 16)) wr HP.out HB.out (by omega) hwb (by omega)).mono ?_
      rintro e w2 ⟨rfl, hb2, hbel, _⟩
      have HB2 := Lib.hid hb2
      have HW2 := Lib.hid (HW.out.trans hbel)
      have hwb2 : w.heap.size + 1 ≤ w2.heap.size := Nat.le_trans hwb hbel.size
      clear hb2 hbel hwb HB HW HP q'
      go_wp2_with fail
      rw [hexs_at' _ hm16]
      refine (write_byte (w.heap.size + 1) w.heap.size _ (hexB (l.take k) ++ [hxd (x.toNat / 16)]) (hxd (x.toNat % 16)) w2 (.inr rfl) HB2.out (by omega) hwb2 (by rw [List.length_append]; simp; omega)).mono ?_
      rintro e w3 ⟨rfl, hb3, hbel, _⟩
      have HB3 := Lib.hid hb3
      have HW3 := Lib.hid (HW2.out.trans hbel)
      clear hb3 hbel hwb2 HB2 HW2
      go_wp2_with fail
      go_roundw
      case rel => exact ⟨k + 1, by omega, by go_num, Lib.hid ⟨_, .inr rfl, by rw [HT.out, hexB_snoc]; exact HB3.out, HW3.out⟩⟩
      case measure => simp [intOf]; omega
    · obtain rfl : k = n := by omega
      obtain ⟨p, hp, hbk, hbw⟩ := I.out
      have HB := Lib.hid hbk
      have HW := Lib.hid hbw
      have HT := Lib.hid (show l.take k = l from List.take_of_length_le (by omega))
      clear I hp hbk hbw
      go_wp2_with fail
      refine (string_any (w.heap.size + 1) w.heap.size p (hexB (l.take k)) wr HB.out).mono ?_
      rintro e w4 ⟨rfl, hbel⟩
      have HW4 := Lib.hid (HW.out.trans (hbel.mono (by omega)))
      rw [HT.out]
      clear hbel HB HW
      go_wp2_with fail
      go_ret
      exact ⟨rfl, HW4.out⟩
end Go.Proofs.YtonafonhadocgaaDoor
