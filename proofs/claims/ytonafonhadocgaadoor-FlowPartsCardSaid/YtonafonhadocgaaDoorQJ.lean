/- Laws and walks that the claim's last text leans on, joined: each part says above itself what it proves. -/
import Derived.Test.YtonafonhadocgaaDoorQI
import Derived.DeepKeys4
import Derived.Maps.Keyed

/- addr.ParseEnds. -/
namespace Go.Proofs.YtonafonhadocgaaDoor
open Go.RowKit Go.Shelf

/-! ### Parsed addresses -/
theorem f4_len {s : ByteArray} {l : List UInt8} (h : f4 s = some l) : l.length = 4 := by
  obtain ⟨a, b, c, d, rfl⟩ := two_len h
  rfl
theorem parseA_len {l : List UInt8} {v : Bool} {b : List UInt8} (h : parseA l = some (v, b)) : b.length = 16 ∧ mayB v b = true := by
  unfold parseA at h
  split at h
  · rename_i x hx
    injection h with h
    injection h with h1 h2
    subst h1 h2
    have h4 := f4_len hx
    exact ⟨by simp [h4], by simp [mayB, h4]⟩
  · split at h
    · split at h
      · cases h
      · rename_i g h' hg hh hc
        injection h with h
        injection h with h1 h2
        subst h1 h2
        refine ⟨?_, rfl⟩
        simp only [Bool.or_eq_true, Bool.and_eq_true, Bool.not_eq_true', decide_eq_true_eq, not_or, not_and] at hc
        rw [flat_len]
        simp only [List.length_append, List.length_replicate]
        cases hb : (cutL l).2.2
        · have := hc.2 hb
          omega
        · have := hc.1 hb
          omega
    · cases h
def parse3 (l : List UInt8) : Bool × List UInt8 × Int := match parseA l with
  | some (v, b) => (v, b, 0)
  | none => (false, z16, 9)
theorem parse3_v (l : List UInt8) : parseV l = .tuple #[.agg (adC (parse3 l).1 (parse3 l).2.1), .int .i64 (parse3 l).2.2] := by
  unfold parseV parse3
  cases parseA l with
  | none => rfl
  | some x => rfl
theorem parse3_ok (l : List UInt8) : (parse3 l).2.1.length = 16 ∧ mayB (parse3 l).1 (parse3 l).2.1 = true := by
  unfold parse3
  cases h : parseA l with
  | none => exact ⟨rfl, by decide⟩
  | some x =>
    obtain ⟨v, b⟩ := x
    exact parseA_len h
def unum2 (s : ByteArray) : Nat × Bool := match unum s with
  | some n => (n, true)
  | none => (0, false)
theorem unum2_v (s : ByteArray) : unumV s = .tuple #[.int .u64 (unum2 s).1, .bool (unum2 s).2] := by
  unfold unumV unum2
  cases unum s <;> rfl
theorem unum2_lt (s : ByteArray) : (unum2 s).1 < 18446744073709551616 := by
  unfold unum2
  cases h : unum s with
  | none => exact (by decide : 0 < 18446744073709551616)
  | some n => exact unum_lt h

/-! ### Parsed ends -/
def trimB (l : List UInt8) : List UInt8 := Lib.trimSuffix (Lib.trimPrefix l [91]) [93]
/-- The ends of a text, cut at k. -/
def peAt (s : List UInt8) (k : Nat) : Option (Bool × List UInt8 × Nat) :=
  if (parse3 (trimB (s.take k))).2.2 = 0 ∧ (unum2 (mkB (s.drop (k + 1)))).2 = true ∧ endsT (parse3 (trimB (s.take k))).1 (parse3 (trimB (s.take k))).2.1 ((unum2 (mkB (s.drop (k + 1)))).1 % 65536) = s then
    some ((parse3 (trimB (s.take k))).1, (parse3 (trimB (s.take k))).2.1, (unum2 (mkB (s.drop (k + 1)))).1 % 65536)
  else none
def peL (s : ByteArray) : Option (Bool × List UInt8 × Nat) := if Lib.lastIndexByte s 58 < 0 then none else peAt s.data.toList (Lib.lastIndexByte s 58).toNat
def peV (s : ByteArray) : Value := match peL s with
  | some (v, b, p) => .tuple #[.agg (enC v b p), .int .i64 0]
  | none => .tuple #[.agg (enC false z16 0), .int .i64 9]

theorem trimP_len (l p : List UInt8) : (Lib.trimPrefix l p).length ≤ l.length := by
  unfold Lib.trimPrefix
  split
  · rw [List.length_drop]; omega
  · exact Nat.le_refl _
theorem trimS_len (l p : List UInt8) : (Lib.trimSuffix l p).length ≤ l.length := by
  unfold Lib.trimSuffix
  split
  · rw [List.length_take]; omega
  · exact Nat.le_refl _
theorem last_any (s : ByteArray) (hs : s.size < 4294967281) (w : World) :
    Calls Tryd.prog 40 #[.string s, .int .u8 58] w fun e w' => e = .returned (.int .i64 (Lib.lastIndexByte s 58)) ∧ w' = w :=
  Any.strings_LastIndexByte lays149 s 58 (by omega) w
theorem trimp_any (s : ByteArray) (w : World) :
    Calls Tryd.prog 43 #[.string s, .string ⟨#[91]⟩] w fun e w' => e = .returned (.string ⟨(Lib.trimPrefix s.data.toList [91]).toArray⟩) ∧ w' = w :=
  Any.strings_TrimPrefix lays101 s ⟨#[91]⟩ w
theorem trims_any (s : ByteArray) (hs : s.size < 4294967281) (w : World) :
    Calls Tryd.prog 42 #[.string s, .string ⟨#[93]⟩] w fun e w' => e = .returned (.string ⟨(Lib.trimSuffix s.data.toList [93]).toArray⟩) ∧ w' = w :=
  Any.strings_TrimSuffix lays102 s ⟨#[93]⟩ w (by omega)

theorem results_en {fn : Func} {p t : Tmp} (h : fn.results = #[.cell p 27, .tmp t]) (tmps : Array Value) (w : World) (g : Nat) (cs : Array Value)
    (hp : tmps.getD p undef = .pointer (some ⟨g, 0, none⟩)) (hg : Blk w g 27 cs) (hi : cs.size = 18) :
    (results fn tmps).run Tryd.prog w = .ok (.tuple #[.agg cs, tmps.getD t undef]) w := by
  have hp' : tmps[p]?.getD undef = .pointer (some ⟨g, 0, none⟩) := by simpa using hp
  have hl := run_loadVar_row (P := Tryd.prog) w g 27 27 cs (0, 0) _ hg Tryd.underlying27 rfl (by rw [hi]; exact enSize)
  simp [results, h, hp', asAddr, hl]
theorem enC_one (v6 : Bool) (l : List UInt8) (p : Nat) : (enC v6 l p).toList.all (·.oneCell') = true := by
  simp [enC, bv, Value.oneCell']
theorem z18_lit : enC false z16 0 = #[.bool false, .int .u8 0, .int .u8 0, .int .u8 0, .int .u8 0, .int .u8 0, .int .u8 0, .int .u8 0, .int .u8 0, .int .u8 0, .int .u8 0, .int .u8 0, .int .u8 0, .int .u8 0, .int .u8 0, .int .u8 0, .int .u8 0, .int .u16 0] := rfl

/-- A struct or an array that is built of its parts. -/
theorem wpList_build_eq {P : Program} {ops : Array Oper} {rest : List Oper} {o : Oper} {a : Act} {w : World} {Q : Exit → Act → World → Prop} (t : TypeId) (parts : Array (Nat × Operand)) (cells : Array Value) (ho : o.op = .build t parts)
    (hc : P.built t (parts.toList.map fun p => (p.1, a.eval p.2)) = some cells) (hw : Region.wanted o (yielded ops a.tmps) = true)
    (h : wpList P ops Q rest (a.put o.dst (.agg cells)) w) : wpList P ops Q (o :: rest) a w :=
  have hc' : P.built t (parts.map fun (i, x) => (i, a.eval x)).toList = some cells := by rw [Array.toList_map]; exact hc
  BigFrame.wpList_want hw fun _ hK => wp_build t parts ho (by rw [hc']; rfl) (by rw [hc']; exact hK _ _ h)
/-- The build whose operands are named: a guard for an arm. -/
theorem at_build {P : Program} {ops : Array Oper} {rest : List Oper} {a : Act} {w : World} {Q : Exit → Act → World → Prop} {dst : Option Tmp} {t : TypeId} {ps : String} {af : Array Edge} {gd : Option (Nat × Bool)} (ty : TypeId) (parts : Array (Nat × Operand)) (h : wpList P ops Q ({ dst := dst, op := .build ty parts, type := t, pos := ps, after := af, guard := gd } :: rest) a w) :
    wpList P ops Q ({ dst := dst, op := .build ty parts, type := t, pos := ps, after := af, guard := gd } :: rest) a w := h
theorem built_en (v6 : Bool) (l : List UInt8) (p : Nat) (hl : l.length = 16) : Tryd.prog.built 27 [(0, .agg (adC v6 l)), (1, .int .u16 (p : Int))] = some (enC v6 l p) := by
  obtain ⟨b0, b1, b2, b3, b4, b5, b6, b7, b8, b9, b10, b11, b12, b13, b14, b15, rfl⟩ := sixteen l hl
  kernel_rfl

set_option maxRecDepth 100000 in
set_option maxHeartbeats 8000000 in
theorem parseEnds_any (s : ByteArray) (hs : s.size < 4294967281) (w : World) (env : Env w) :
    Calls Tryd.prog 28 #[.string s] w fun e w' => e = .returned (peV s) ∧ Below w.heap.size w w' := by
  have E := Lib.hid env
  clear env
  have HL := Lib.hid (fun W => last_any s hs W)
  have K2 := Lib.hid (Blk.new w 27 (enC false z16 0))
  have B2 := Lib.hid ((Below.refl _ w).alloc (Nat.le_refl _) (.cells (enC false z16 0) 27))
  have HK := Lib.hid (show peL s = if Lib.lastIndexByte s 58 < 0 then none else peAt s.data.toList (Lib.lastIndexByte s 58).toNat from rfl)
  have hlt : Lib.lastIndexByte s 58 = -1 ∨ ∃ k : Nat, Lib.lastIndexByte s 58 = k ∧ k < s.size := by
    rcases Lib.lastIndexByte_spec s 58 with ⟨h, _⟩ | ⟨k, h1, h2, _⟩
    · exact .inl h
    · exact .inr ⟨k, h2, h1⟩
  go_enter Tryd.func28, Tryd.ntmps28
  go_wp2_with fail
  refine (HL.out _).mono ?_
  rintro e w2 ⟨rfl, rfl⟩
  clear HL
  rcases hlt with hz | ⟨k, hk, hks⟩
  · have HR := Lib.hid (show peV s = .tuple #[.agg (enC false z16 0), .int .i64 9] by rw [peV, HK.out, hz]; rfl)
    rw [hz]
    clear HK hz
    go_wp2_with ((with_reducible refine at_store 27 (.tmp 2) (.tmp 16) ?_); refine wpList_store_blk 27 (.tmp 2) (.tmp 16) w.heap.size 27 (enC false z16 0) (enC false z16 0) K2.out (by rfl) (by rfl) (by rfl) (by rfl) (by rw [enC_size _ _ _ (by rfl)]; exact enSize) (by rfl) (by rfl) (by rfl) ?_; intro w9 hk9 hg9 hs9; have V9 := Lib.hid hk9; have G9 := Lib.hid (And.intro hg9 hs9); clear hk9 hg9 hs9)
    exact bodyPost_ret (v := .tuple #[.agg (enC false z16 0), .int .i64 9]) (results_en Tryd.results28 _ _ w.heap.size (enC false z16 0) rfl V9.out (enC_size _ _ _ (by rfl))) rfl ⟨by rw [HR.out], B2.out.grown G9.out.1 B2.out.size (fun k e => by cases e; exact Nat.le_refl _)⟩
  · rw [hk]
    rw [hk, if_neg (by omega)] at HK
    clear hk
    have hT1 := fun W => trimp_any (s.extract 0 k) W
    rw [Lib.extract_from_zero] at hT1
    have hx0 : (Lib.trimPrefix (s.data.toList.take k) [91]).length ≤ s.size := by
      refine Nat.le_trans (trimP_len _ _) ?_
      rw [List.length_take]
      omega
    have HT2 := Lib.hid (fun W => trims_any ⟨(Lib.trimPrefix (s.data.toList.take k) [91]).toArray⟩ (by show (Lib.trimPrefix (s.data.toList.take k) [91]).length < _; omega) W)
    have hx1 : (trimB (s.data.toList.take k)).length < 4294967281 := by
      have := trimS_len (Lib.trimPrefix (s.data.toList.take k) [91]) [93]
      rw [trimB]
      omega
    have HT3 := Lib.hid (fun W (e : Env W) => parse_any ⟨(trimB (s.data.toList.take k)).toArray⟩ hx1 W e)
    have HX := Lib.hid (show Lib.trimSuffix (⟨(Lib.trimPrefix (s.data.toList.take k) [91]).toArray⟩ : ByteArray).data.toList [93] = trimB (s.data.toList.take k) from rfl)
    rw [HX.out] at HT2
    have HT1 := Lib.hid hT1
    clear hT1 HX
    have hx2 : (mkB (s.data.toList.drop (k + 1))).size ≤ 281474976710656 := by
      show (s.data.toList.drop (k + 1)).length ≤ _
      rw [List.length_drop]
      have : s.data.toList.length = s.size := rfl
      omega
    have HT4 := Lib.hid (fun W (e : Env W) => ununsigned_any (mkB (s.data.toList.drop (k + 1))) hx2 W e)
    have HX4 := Lib.hid (show s.extract (k + 1) s.size = mkB (s.data.toList.drop (k + 1)) by
      apply ByteArray.ext
      apply Array.toList_inj.1
      rw [Lib.extract_data]
      show _ = s.data.toList.drop (k + 1)
      rw [List.take_of_length_le]
      rw [List.length_drop]
      have : s.data.toList.length = s.size := rfl
      omega)
    clear hx0 hx1 hx2
    go_wp2_with fail
    refine (HT1.out _).mono ?_
    rintro e w2 ⟨rfl, rfl⟩
    go_wp2_with fail
    refine (HT2.out _).mono ?_
    rintro e w2 ⟨rfl, rfl⟩
    go_wp2_with fail
    refine (HT3.out _ (E.out.alloc _)).mono ?_
    rintro e w2 ⟨rfl, b⟩
    rw [parse3_v]
    have K3 := Lib.hid (K2.out.keep b)
    have B3 := Lib.hid (B2.out.trans (b.mono B2.out.size))
    have hp3 := parse3_ok (trimB (s.data.toList.take k))
    have HPE := Lib.hid (show peAt s.data.toList k = if (parse3 (trimB (s.data.toList.take k))).2.2 = 0 ∧ (unum2 (mkB (s.data.toList.drop (k + 1)))).2 = true ∧ endsT (parse3 (trimB (s.data.toList.take k))).1 (parse3 (trimB (s.data.toList.take k))).2.1 ((unum2 (mkB (s.data.toList.drop (k + 1)))).1 % 65536) = s.data.toList then some ((parse3 (trimB (s.data.toList.take k))).1, (parse3 (trimB (s.data.toList.take k))).2.1, (unum2 (mkB (s.data.toList.drop (k + 1)))).1 % 65536) else none from rfl)
    have hul := unum2_lt (mkB (s.data.toList.drop (k + 1)))
    have HUV := Lib.hid (unum2_v (mkB (s.data.toList.drop (k + 1))))
    generalize parse3 (trimB (s.data.toList.take k)) = pr at *
    generalize unum2 (mkB (s.data.toList.drop (k + 1))) = un at *
    obtain ⟨v6, l, er⟩ := pr
    obtain ⟨n, ok⟩ := un
    have hl : l.length = 16 := hp3.1
    have hm : mayB v6 l = true := hp3.2
    clear b hp3 K2 B2 HT1 HT2 HT3
    dsimp only at *
    have HSA := Lib.hid (show (Tryd.prog.info? 24).map (·.size) = some (adC v6 l).size by rw [adC_size _ _ hl]; exact adSize)
    have HSZ := Lib.hid (show (adC false z16).size = (adC v6 l).size by rw [adC_size _ _ hl]; rfl)
    have HS1 := Lib.hid (adC_one v6 l)
    have HEN := Lib.hid (fun W (e : Env W) => ends_any v6 l (n % 65536) hl (Nat.mod_lt _ (by omega)) W e)
    go_upto_region 5 with ((with_reducible refine at_store 24 (.tmp 5) (.tmp 24) ?_); refine wpList_store_blk 24 (.tmp 5) (.tmp 24) w2.heap.size 24 (adC false z16) (adC v6 l) (Blk.new w2 24 (adC false z16)) (by rfl) (by rfl) (by rfl) (by rfl) HSA.out HSZ.out HS1.out (by rfl) ?_; intro w3 hk3 hg3 hs3; have K5 := Lib.hid hk3; have B4 := Lib.hid (print_world B3.out B3.out.size hg3); have K4 := Lib.hid ((K3.out.alloc _).grown hg3 (fun e => by have := Option.some.inj e; have := K3.out.lt; omega)); clear hk3 hg3 hs3)
    have hx4 := HX4.out
    clear K3 B3
    go_wp2_with fail
    refine (HT4.out _ (E.out.below B4.out)).mono ?_
    rintro e w4 ⟨rfl, b⟩
    rw [HUV.out]
    have K4' := Lib.hid (K4.out.keep b)
    have K5' := Lib.hid (K5.out.keep b)
    have B5 := Lib.hid (B4.out.trans (b.mono B4.out.size))
    clear b K4 K5 B4 hx4 HX4 HT4 HUV
    have hw16 : IntKind.u16.wrap (n : Int) = ((n % 65536 : Nat) : Int) := by
      simp [IntKind.wrap, IntKind.bits, IntKind.signed]
    have HBU := Lib.hid (built_en v6 l (n % 65536) hl)
    have HSE := Lib.hid (show (Tryd.prog.info? 27).map (·.size) = some (enC v6 l (n % 65536)).size by rw [enC_size _ _ _ hl]; exact enSize)
    have HSF := Lib.hid (show (enC false z16 0).size = (enC v6 l (n % 65536)).size by rw [enC_size _ _ _ hl]; rfl)
    have HS2 := Lib.hid (enC_one v6 l (n % 65536))
    generalize n % 65536 = m at *
    go_upto_region 6 with fail
    go_upto_region 7 with (first | (refine wpList_load_blk 24 (.tmp 5) w2.heap.size 24 (adC v6 l) _ K5'.out (by rfl) (by rfl) Tryd.underlying24 rfl HSA.out (by rfl) ?_) | ((with_reducible refine at_build 27 #[(0, .tmp 34), (1, .tmp 36)] ?_); refine wpList_build_eq 27 #[(0, .tmp 34), (1, .tmp 36)] (enC v6 l m) (by rfl) HBU.out (by rfl) ?_) | ((with_reducible refine at_store 27 (.tmp 9) (.tmp 37) ?_); refine wpList_store_blk 27 (.tmp 9) (.tmp 37) w4.heap.size 27 (enC false z16 0) (enC v6 l m) (Blk.new w4 27 (enC false z16 0)) (by rfl) (by rfl) (by rfl) (by rfl) HSE.out HSF.out HS2.out (by rfl) ?_; intro w5 hk5 hg5 hs5; have K9 := Lib.hid hk5; have B6 := Lib.hid (print_world B5.out B5.out.size hg5); have K6 := Lib.hid ((K4'.out.alloc _).grown hg5 (fun e => by have := Option.some.inj e; have := K4'.out.lt; omega)); clear hk5 hg5 hs5))
    clear K4' K5' B5 HBU HSF
    go_wp2_with (refine wpList_load_blk 27 (.tmp 9) w4.heap.size 27 (enC v6 l m) _ K9.out (by rfl) (by rfl) Tryd.underlying27 rfl HSE.out (by rfl) ?_)
    refine (HEN.out _ (E.out.below B6.out)).mono ?_
    rintro e w6 ⟨rfl, b⟩
    rw [show endsV v6 l m = .tuple #[.string ⟨(endsT v6 l m).toArray⟩, .int .i64 0] by rw [endsV, hm, if_pos rfl]]
    have K7 := Lib.hid (K6.out.keep b)
    have K9' := Lib.hid (K9.out.keep b)
    have B7 := Lib.hid (B6.out.trans (b.mono B6.out.size))
    have HQ := Lib.hid (show peV s = if er = 0 ∧ ok = true ∧ endsT v6 l m = s.data.toList then .tuple #[.agg (enC v6 l m), .int .i64 0] else .tuple #[.agg (enC false z16 0), .int .i64 9] by
      rw [peV, HK.out, show ((k : Int)).toNat = k by omega, HPE.out]
      split <;> split <;> simp_all)
    clear b K6 K9 B6 HK HPE HEN hm hul hw16
    generalize endsT v6 l m = t at *
    by_cases her : er = 0
    · subst her
      cases ok with
      | false =>
        have HR := Lib.hid (show peV s = .tuple #[.agg (enC false z16 0), .int .i64 9] by rw [HQ.out, if_neg (fun h => by cases h.2.1)])
        clear HQ
        go_wp2_with ((with_reducible refine at_store 27 (.tmp 2) (.tmp 54) ?_); refine wpList_store_blk 27 (.tmp 2) (.tmp 54) w.heap.size 27 (enC false z16 0) (enC false z16 0) K7.out (by rfl) (by rfl) (by rfl) (by rfl) (by rw [enC_size _ _ _ (by rfl)]; exact enSize) (by rfl) (by rfl) (by rfl) ?_; intro w9 hk9 hg9 hs9; have V9 := Lib.hid hk9; have G9 := Lib.hid (And.intro hg9 hs9); clear hk9 hg9 hs9)
        exact bodyPost_ret (v := .tuple #[.agg (enC false z16 0), .int .i64 9]) (results_en Tryd.results28 _ _ w.heap.size (enC false z16 0) rfl V9.out (enC_size _ _ _ (by rfl))) rfl ⟨by rw [HR.out], B7.out.grown G9.out.1 B7.out.size (fun k e => by cases e; exact Nat.le_refl _)⟩
      | true =>
        by_cases hts : t = s.data.toList
        · have HR := Lib.hid (show peV s = .tuple #[.agg (enC v6 l m), .int .i64 0] by rw [HQ.out, if_pos ⟨rfl, rfl, hts⟩])
          subst hts
          clear HQ
          go_wp2_with (first | (refine wpList_load_blk 27 (.tmp 9) w4.heap.size 27 (enC v6 l m) _ K9'.out (by rfl) (by rfl) Tryd.underlying27 rfl HSE.out (by rfl) ?_) | ((with_reducible refine at_store 27 (.tmp 2) (.tmp 55) ?_); refine wpList_store_blk 27 (.tmp 2) (.tmp 55) w.heap.size 27 (enC false z16 0) (enC v6 l m) K7.out (by rfl) (by rfl) (by rfl) (by rfl) HSE.out (by rw [enC_size _ _ _ hl]; rfl) HS2.out (by rfl) ?_; intro w9 hk9 hg9 hs9; have V9 := Lib.hid hk9; have G9 := Lib.hid (And.intro hg9 hs9); clear hk9 hg9 hs9))
          exact bodyPost_ret (v := .tuple #[.agg (enC v6 l m), .int .i64 0]) (results_en Tryd.results28 _ _ w.heap.size (enC v6 l m) rfl V9.out (enC_size _ _ _ hl)) rfl ⟨by rw [HR.out], B7.out.grown G9.out.1 B7.out.size (fun k e => by cases e; exact Nat.le_refl _)⟩
        · have hne : ((⟨t.toArray⟩ : ByteArray).toList == s.toList) = false := str_ne (fun e => hts (by rw [← e]))
          have hne2 : (t == s.toList) = false := by
            rw [beq_eq_false_iff_ne]
            intro e
            rw [ByteArray.toList_eq] at e
            exact hts e
          have HR := Lib.hid (show peV s = .tuple #[.agg (enC false z16 0), .int .i64 9] by rw [HQ.out, if_neg (fun h => hts h.2.2)])
          clear HQ
          go_wp2_with ((with_reducible refine at_store 27 (.tmp 2) (.tmp 54) ?_); refine wpList_store_blk 27 (.tmp 2) (.tmp 54) w.heap.size 27 (enC false z16 0) (enC false z16 0) K7.out (by rfl) (by rfl) (by rfl) (by rfl) (by rw [enC_size _ _ _ (by rfl)]; exact enSize) (by rfl) (by rfl) (by rfl) ?_; intro w9 hk9 hg9 hs9; have V9 := Lib.hid hk9; have G9 := Lib.hid (And.intro hg9 hs9); clear hk9 hg9 hs9)
          exact bodyPost_ret (v := .tuple #[.agg (enC false z16 0), .int .i64 9]) (results_en Tryd.results28 _ _ w.heap.size (enC false z16 0) rfl V9.out (enC_size _ _ _ (by rfl))) rfl ⟨by rw [HR.out], B7.out.grown G9.out.1 B7.out.size (fun k e => by cases e; exact Nat.le_refl _)⟩
    · have hnz : (er == 0) = false := by rw [beq_eq_false_iff_ne]; exact her
      have hnz2 : (er != 0) = true := by rw [bne, hnz]; rfl
      have HR := Lib.hid (show peV s = .tuple #[.agg (enC false z16 0), .int .i64 9] by rw [HQ.out, if_neg (fun h => her h.1)])
      clear HQ
      go_wp2_with ((with_reducible refine at_store 27 (.tmp 2) (.tmp 54) ?_); refine wpList_store_blk 27 (.tmp 2) (.tmp 54) w.heap.size 27 (enC false z16 0) (enC false z16 0) K7.out (by rfl) (by rfl) (by rfl) (by rfl) (by rw [enC_size _ _ _ (by rfl)]; exact enSize) (by rfl) (by rfl) (by rfl) ?_; intro w9 hk9 hg9 hs9; have V9 := Lib.hid hk9; have G9 := Lib.hid (And.intro hg9 hs9); clear hk9 hg9 hs9)
      exact bodyPost_ret (v := .tuple #[.agg (enC false z16 0), .int .i64 9]) (results_en Tryd.results28 _ _ w.heap.size (enC false z16 0) rfl V9.out (enC_size _ _ _ (by rfl))) rfl ⟨by rw [HR.out], B7.out.grown G9.out.1 B7.out.size (fun k e => by cases e; exact Nat.le_refl _)⟩
end Go.Proofs.YtonafonhadocgaaDoor

/- ParseEnds: what the program's answer is, and the reference's. -/
namespace Go.Proofs.YtonafonhadocgaaDoor
open Go.RowKit Go.Shelf

/-- The address of an end, as it is written. -/
def frontT (v6 : Bool) (l : List UInt8) : List UInt8 := if v6 then 91 :: (printT v6 l ++ [93]) else printT v6 l
theorem endsT_front (v6 : Bool) (l : List UInt8) (p : Nat) : endsT v6 l p = frontT v6 l ++ 58 :: dec p := rfl
/-- The reference trims brackets only if both stand. -/
def rtrim (t : List UInt8) : List UInt8 := if 1 < t.length ∧ t[0]? = some 91 ∧ t[t.length - 1]? = some 93 then (t.drop 1).take (t.length - 2) else t
/-- The reference's answer at a colon behind which n is spelt. -/
def rAt (s : List UInt8) (k n : Nat) : Option (Bool × List UInt8 × Nat) := match parseA (rtrim (s.take k)) with
  | some (v, b) => if endsT v b n = s then some (v, b, n) else none
  | none => none

theorem no_colon_dec (p : Nat) : (58 : UInt8) ∉ dec p := fun hm => by have := dec_digit p 58 hm; simp at this
theorem last_at (a d : List UInt8) (h : (58 : UInt8) ∉ d) : Lib.lastIndexByte (mkB (a ++ 58 :: d)) 58 = (a.length : Int) := by
  have hg : ∀ j : Nat, (mkB (a ++ 58 :: d)).data[j]! = ((a ++ 58 :: d)[j]?).getD default := fun j => by
    show (a ++ 58 :: d).toArray[j]! = _
    rw [List.getElem!_toArray, List.getElem!_eq_getElem?_getD]
  have hz : (mkB (a ++ 58 :: d)).size = a.length + (d.length + 1) := by simp [mkB, ByteArray.size]
  have h0 : (a ++ 58 :: d)[a.length]? = some 58 := by simp
  have h1 : ∀ j, a.length < j → (a ++ 58 :: d)[j]? ≠ some 58 := by
    intro j hj e
    rw [List.getElem?_append_right (by omega), show j - a.length = (j - a.length - 1) + 1 by omega, List.getElem?_cons_succ] at e
    exact h (List.mem_of_getElem? e)
  rcases Lib.lastIndexByte_spec (mkB (a ++ 58 :: d)) 58 with ⟨_, hn⟩ | ⟨i, hi, he, h58, hn⟩
  · exfalso
    refine hn a.length (by omega) ?_
    rw [hg, h0]; rfl
  · rcases Nat.lt_trichotomy i a.length with hlt | rfl | hgt
    · exfalso
      refine hn a.length hlt (by omega) ?_
      rw [hg, h0]; rfl
    · exact he
    · exfalso
      have hil : i < (a ++ 58 :: d).length := by simp; omega
      refine h1 i hgt ?_
      rw [hg, List.getElem?_eq_getElem hil] at h58
      rw [List.getElem?_eq_getElem hil]
      have h3 : (((a ++ 58 :: d)[i]'hil).toNat : Int) = 58 := h58
      exact congrArg some (UInt8.toNat_inj.1 (by show _ = 58; omega))
theorem print4_chars (l : List UInt8) (hl : l.length = 16) : ∀ c ∈ printT false l, c ≠ 91 ∧ c ≠ 93 := by
  obtain ⟨b0, b1, b2, b3, b4, b5, b6, b7, b8, b9, b10, b11, b12, b13, b14, b15, rfl⟩ := sixteen l hl
  show ∀ c ∈ Lib.join [dec b0.toNat, dec b1.toNat, dec b2.toNat, dec b3.toNat] [46], _
  rw [join_two, join_two, join_two, Lib.join_one]
  have hd : ∀ n c, c ∈ dec n → c ≠ 91 ∧ c ≠ 93 := fun n c hm => by
    have := dec_digit n c hm
    refine ⟨?_, ?_⟩ <;> (rintro rfl; simp at this)
  intro c hc
  simp only [List.mem_append, List.mem_cons] at hc
  rcases hc with h | rfl | h | rfl | h | rfl | h
  · exact hd _ _ h
  · decide
  · exact hd _ _ h
  · decide
  · exact hd _ _ h
  · decide
  · exact hd _ _ h
theorem print_ne (v6 : Bool) (l : List UInt8) (hl : l.length = 16) (hm : mayB v6 l = true) : printT v6 l ≠ [] := by
  intro e
  have h := parse_print v6 l hl hm
  rw [e] at h
  revert h
  rw [show parseA [] = none by decide +kernel]
  simp
theorem trimB_front (v6 : Bool) (l : List UInt8) (hl : l.length = 16) : trimB (frontT v6 l) = printT v6 l := by
  cases v6 with
  | true =>
    rw [frontT, if_pos rfl, trimB, Lib.trimPrefix, Lib.hasPrefix, if_pos (by simp [List.isPrefixOf])]
    rw [show (91 :: (printT true l ++ [93])).drop ([91] : List UInt8).length = printT true l ++ [93] from rfl, Lib.trimSuffix, Lib.hasSuffix, if_pos (by rw [List.isSuffixOf_iff_suffix]; exact List.suffix_append _ _)]
    simp
  | false =>
    have hc := print4_chars l hl
    rw [frontT, if_neg (by decide), trimB, Lib.trimPrefix, Lib.hasPrefix, if_neg, Lib.trimSuffix, Lib.hasSuffix, if_neg]
    · rw [List.isSuffixOf_iff_suffix]
      rintro ⟨t, ht⟩
      exact (hc 93 (by rw [← ht]; simp)).2 rfl
    · rw [List.isPrefixOf_iff_prefix]
      rintro ⟨t, ht⟩
      exact (hc 91 (by rw [← ht]; simp)).1 rfl
theorem rtrim_front (v6 : Bool) (l : List UInt8) (hl : l.length = 16) : rtrim (frontT v6 l) = printT v6 l := by
  cases v6 with
  | true =>
    rw [frontT, if_pos rfl, rtrim, if_pos]
    · simp
    · refine ⟨by simp, rfl, ?_⟩
      simp
  | false =>
    have hc := print4_chars l hl
    rw [frontT, if_neg (by decide), rtrim, if_neg]
    rintro ⟨_, h, _⟩
    exact (hc 91 (List.mem_of_getElem? h)).1 rfl
/-- What is written is read. -/
theorem pe_ends (v6 : Bool) (l : List UInt8) (p : Nat) (hl : l.length = 16) (hm : mayB v6 l = true) (hp : p < 65536) : peL (mkB (endsT v6 l p)) = some (v6, l, p) := by
  have hlast := last_at (frontT v6 l) (dec p) (no_colon_dec p)
  rw [peL, endsT_front, hlast, if_neg (by omega), Int.toNat_natCast]
  show peAt (frontT v6 l ++ 58 :: dec p) (frontT v6 l).length = _
  have h1 : (frontT v6 l ++ 58 :: dec p).take (frontT v6 l).length = frontT v6 l := by simp
  have h2 : (frontT v6 l ++ 58 :: dec p).drop ((frontT v6 l).length + 1) = dec p := by simp
  have h3 : parse3 (printT v6 l) = (v6, l, 0) := by rw [parse3, parse_print v6 l hl hm]
  have h4 : unum2 (mkB (dec p)) = (p, true) := by rw [unum2, unum_dec p (by omega)]
  rw [peAt, h1, h2, trimB_front v6 l hl, h3, h4]
  show (if (0 : Int) = 0 ∧ true = true ∧ endsT v6 l (p % 65536) = frontT v6 l ++ 58 :: dec p then some (v6, l, p % 65536) else none) = _
  rw [show p % 65536 = p by omega, if_pos ⟨rfl, rfl, rfl⟩]
/-- What is read is written. -/
theorem pe_sound {s : ByteArray} {v6 : Bool} {l : List UInt8} {p : Nat} (h : peL s = some (v6, l, p)) : endsT v6 l p = s.data.toList ∧ l.length = 16 ∧ mayB v6 l = true ∧ p < 65536 := by
  unfold peL at h
  split at h
  · cases h
  · unfold peAt at h
    split at h
    · rename_i hc
      injection h with h
      injection h with h1 h
      injection h with h2 h3
      have hk := parse3_ok (trimB (s.data.toList.take (Lib.lastIndexByte s 58).toNat))
      have h4 := hc.2.2
      rw [h1, h2, h3] at h4
      rw [h1, h2] at hk
      exact ⟨h4, hk.1, hk.2, by omega⟩
    · cases h
theorem rAt_sound {s : List UInt8} {k n : Nat} {x : Bool × List UInt8 × Nat} (hn : n < 65536) (h : rAt s k n = some x) : peL (mkB s) = some x := by
  unfold rAt at h
  split at h
  · rename_i v b hp
    split at h
    · rename_i he
      injection h with h
      subst h
      have hk := parseA_len hp
      rw [← he]
      exact pe_ends v b n hk.1 hk.2 hn
    · cases h
  · cases h
/-- The reference's answer, as a value. -/
def rpeV (s : ByteArray) : Value := match peL s with
  | some (v, b, p) => .tuple #[.agg (enC v b p), .bool true]
  | none => .tuple #[.agg (enC false z16 0), .bool false]
end Go.Proofs.YtonafonhadocgaaDoor

/- What a flow's text says, and a key's. -/
namespace Go.Proofs.YtonafonhadocgaaDoor
open Go.RowKit Go.Shelf

/-- Ends: whether of IPv6, the bytes, the port. -/
abbrev En := Bool × List UInt8 × Nat
structure EnOk (e : En) : Prop where
  len : e.2.1.length = 16
  may : mayB e.1 e.2.1 = true
  port : e.2.2 < 65536
def enT (e : En) : List UInt8 := endsT e.1 e.2.1 e.2.2
def enP (l : List UInt8) : Option En := peL (mkB l)
theorem enP_sound {l : List UInt8} {e : En} (h : enP l = some e) : enT e = l ∧ EnOk e := by
  obtain ⟨v, b, p⟩ := e
  obtain ⟨h1, h2, h3, h4⟩ := pe_sound h
  exact ⟨h1, h2, h3, h4⟩
theorem enP_enT {e : En} (h : EnOk e) : enP (enT e) = some e := pe_ends e.1 e.2.1 e.2.2 h.len h.may h.port
theorem okc_32 {c : UInt8} (h : okc c = true) : c ≠ 32 := fun e => by rw [e] at h; revert h; decide
theorem enT_clean {e : En} (h : EnOk e) : (32 : UInt8) ∉ enT e := by
  have hp : ∀ c ∈ printT e.1 e.2.1, c ≠ 32 := fun c hc => okc_32 (parse_ok (parse_print e.1 e.2.1 h.len h.may) c hc)
  have hd : ∀ c ∈ dec e.2.2, c ≠ 32 := fun c hc e => by
    have := dec_digit _ c hc
    rw [e] at this
    revert this
    decide
  intro hm
  unfold enT endsT at hm
  rcases List.mem_append.1 hm with hm | hm
  · split at hm
    · rcases List.mem_cons.1 hm with hm | hm
      · revert hm; decide
      · rcases List.mem_append.1 hm with hm | hm
        · exact hp _ hm rfl
        · revert hm; decide
    · exact hp _ hm rfl
  · rcases List.mem_cons.1 hm with hm | hm
    · revert hm; decide
    · exact hd _ hm rfl

/-! ### flows -/
abbrev arrow : List UInt8 := [32, 62, 32]
def flowT (a b : En) : List UInt8 := enT a ++ (arrow ++ enT b)
def flowP (l : List UInt8) : Option (En × En) :=
  if (Lib.cut l arrow).2.2 then
    match enP (Lib.cut l arrow).1, enP (Lib.cut l arrow).2.1 with
    | some a, some b => some (a, b)
    | _, _ => none
  else none
theorem index_clean (x t : List UInt8) (h : (32 : UInt8) ∉ x) : Lib.index (x ++ (arrow ++ t)) arrow = x.length := by
  induction x with
  | nil => rfl
  | cons c r ih =>
    have hc : ¬ 32 = c := fun e => h (by rw [e]; exact List.mem_cons_self)
    have hr := ih (fun hm => h (List.mem_cons_of_mem _ hm))
    rw [List.cons_append, Lib.index, if_neg (by simp [arrow, List.isPrefixOf, hc]), hr, if_neg (by simp)]
    simp
theorem cut_clean (x t : List UInt8) (h : (32 : UInt8) ∉ x) : Lib.cut (x ++ (arrow ++ t)) arrow = (x, t, true) := by
  unfold Lib.cut
  rw [index_clean x t h, if_pos (by omega), Int.toNat_natCast, List.take_left', List.drop_append]
  · simp
  · rfl
theorem flowP_flowT {a b : En} (ha : EnOk a) (hb : EnOk b) : flowP (flowT a b) = some (a, b) := by
  unfold flowP flowT
  rw [cut_clean _ _ (enT_clean ha)]
  dsimp only
  rw [if_pos rfl, enP_enT ha, enP_enT hb]
theorem cut_whole {l x t : List UInt8} (h : Lib.cut l arrow = (x, t, true)) : x ++ (arrow ++ t) = l := by
  unfold Lib.cut at h
  rcases Lib.index_spec l arrow with ⟨e, _⟩ | ⟨i, e, hi, ho, _⟩
  · rw [e, if_neg (by decide)] at h
    injection h with h1 h2
    injection h2 with h2 h3
    cases h3
  · rw [e, if_pos (by omega), Int.toNat_natCast] at h
    injection h with h1 h2
    injection h2 with h2 _
    rw [Lib.occAt, List.isPrefixOf_iff_prefix] at ho
    obtain ⟨u, hu⟩ := ho
    have hd : l.drop (i + arrow.length) = u := by
      rw [← List.drop_drop, ← hu]
      rfl
    rw [← h1, ← h2, hd, hu, List.take_append_drop]
theorem flowP_sound {l : List UInt8} {a b : En} (h : flowP l = some (a, b)) : flowT a b = l ∧ EnOk a ∧ EnOk b := by
  unfold flowP at h
  split at h
  · rename_i hc
    cases h1 : enP (Lib.cut l arrow).1 with
    | none => rw [h1] at h; cases h
    | some a' =>
      cases h2 : enP (Lib.cut l arrow).2.1 with
      | none => rw [h1, h2] at h; cases h
      | some b' =>
        rw [h1, h2] at h
        injection h with h
        injection h with e1 e2
        subst e1 e2
        obtain ⟨t1, k1⟩ := enP_sound h1
        obtain ⟨t2, k2⟩ := enP_sound h2
        refine ⟨?_, k1, k2⟩
        rw [flowT, t1, t2]
        exact cut_whole (by rw [← hc])
  · cases h
/-- The reference's way: each place is tried. -/
def rfAt (l : List UInt8) (i : Nat) : Option (En × En) :=
  if (l.drop i).take 3 = arrow then
    match enP (l.take i), enP (l.drop (i + 3)) with
    | some a, some b => some (a, b)
    | _, _ => none
  else none
theorem rfAt_some {l : List UInt8} {i : Nat} {x : En × En} (h : rfAt l i = some x) : flowP l = some x := by
  unfold rfAt at h
  split at h
  · rename_i hc
    cases h1 : enP (l.take i) with
    | none => rw [h1] at h; cases h
    | some a =>
      cases h2 : enP (l.drop (i + 3)) with
      | none => rw [h1, h2] at h; cases h
      | some b =>
        rw [h1, h2] at h
        injection h with h
        obtain ⟨t1, k1⟩ := enP_sound h1
        obtain ⟨t2, k2⟩ := enP_sound h2
        have hl : flowT a b = l := by
          rw [flowT, t1, t2, ← hc, ← List.drop_drop, List.take_append_drop, List.take_append_drop]
        rw [← hl, ← h]
        exact flowP_flowT k1 k2
  · cases h
theorem rfAt_none {l : List UInt8} (h : ∀ i, i + 3 ≤ l.length → rfAt l i = none) : flowP l = none := by
  cases hp : flowP l with
  | none => rfl
  | some x =>
    obtain ⟨a, b⟩ := x
    obtain ⟨hl, ka, kb⟩ := flowP_sound hp
    have hlen : l.length = (enT a).length + (3 + (enT b).length) := by
      rw [← hl, flowT, List.length_append, List.length_append]
      rfl
    have := h (enT a).length (by omega)
    unfold rfAt at this
    have e1 : l.take (enT a).length = enT a := by rw [← hl, flowT, List.take_left']; rfl
    have e2 : l.drop (enT a).length = arrow ++ enT b := by rw [← hl, flowT, List.drop_left']; rfl
    have e3 : l.drop ((enT a).length + 3) = enT b := by rw [← List.drop_drop, e2]; rfl
    rw [e2, if_pos (show (arrow ++ enT b).take 3 = arrow from rfl), e1, e3, enP_enT ka, enP_enT kb] at this
    cases this

/-! ### keys -/
def isLo (c : UInt8) : Bool := decide (48 ≤ c.toNat ∧ c.toNat ≤ 57) || decide (97 ≤ c.toNat ∧ c.toNat ≤ 102)
def loN (c : UInt8) : Nat := if c.toNat ≤ 57 then c.toNat - 48 else c.toNat - 87
def hexB (l : List UInt8) : List UInt8 := l.flatMap fun c => [hxd (c.toNat / 16), hxd (c.toNat % 16)]
def unhexL : List UInt8 → Option (List UInt8)
  | [] => some []
  | [_] => none
  | a :: b :: r => if isLo a && isLo b then (unhexL r).map (UInt8.ofNat (loN a * 16 + loN b) :: ·) else none
theorem hxd_lo : ∀ k : Fin 16, isLo (hxd k.val) = true ∧ loN (hxd k.val) = k.val := by decide +kernel
theorem hxd_lo' {k : Nat} (h : k < 16) : isLo (hxd k) = true ∧ loN (hxd k) = k := hxd_lo ⟨k, h⟩
set_option maxRecDepth 100000 in
theorem lo_hxd : ∀ n : Fin 256, isLo (UInt8.ofNat n.val) = true → loN (UInt8.ofNat n.val) < 16 ∧ hxd (loN (UInt8.ofNat n.val)) = UInt8.ofNat n.val := by decide +kernel
theorem lo_hxd' {c : UInt8} (h : isLo c = true) : loN c < 16 ∧ hxd (loN c) = c := by
  have := lo_hxd ⟨c.toNat, c.toNat_lt⟩
  simpa [h] using this
theorem unhex_hexB : ∀ l : List UInt8, unhexL (hexB l) = some l
  | [] => rfl
  | c :: r => by
    have hc := c.toNat_lt
    obtain ⟨a1, a2⟩ := hxd_lo' (show c.toNat / 16 < 16 by omega)
    obtain ⟨b1, b2⟩ := hxd_lo' (show c.toNat % 16 < 16 by omega)
    show unhexL (hxd (c.toNat / 16) :: hxd (c.toNat % 16) :: hexB r) = _
    rw [unhexL, a1, b1, a2, b2, unhex_hexB r]
    have : c.toNat / 16 * 16 + c.toNat % 16 = c.toNat := by omega
    simp [this]
theorem unhex_sound : ∀ (l bs : List UInt8), unhexL l = some bs → hexB bs = l
  | [], bs, h => by
    injection h with h
    rw [← h]
    rfl
  | [_], bs, h => by cases h
  | a :: b :: r, bs, h => by
    rw [unhexL] at h
    split at h
    · rename_i hab
      rw [Bool.and_eq_true] at hab
      obtain ⟨cs, hcs, e⟩ := Option.map_eq_some_iff.1 h
      have ih := unhex_sound r cs hcs
      obtain ⟨a1, a2⟩ := lo_hxd' hab.1
      obtain ⟨b1, b2⟩ := lo_hxd' hab.2
      rw [← e]
      show hxd ((UInt8.ofNat (loN a * 16 + loN b)).toNat / 16) :: hxd ((UInt8.ofNat (loN a * 16 + loN b)).toNat % 16) :: hexB cs = _
      have hn : (UInt8.ofNat (loN a * 16 + loN b)).toNat = loN a * 16 + loN b := by rw [UInt8.toNat_ofNat']; omega
      rw [hn, show (loN a * 16 + loN b) / 16 = loN a by omega, show (loN a * 16 + loN b) % 16 = loN b by omega, a2, b2, ih]
    · cases h
theorem hexB_len : ∀ l : List UInt8, (hexB l).length = 2 * l.length
  | [] => rfl
  | c :: r => by
    have := hexB_len r
    show (hxd (c.toNat / 16) :: hxd (c.toNat % 16) :: hexB r).length = _
    simp [this]
    omega
/-- The bytes of a number, the weightiest ahead. -/
def bytes8 (x : Nat) : List UInt8 := (List.range 8).map fun i => UInt8.ofNat (x / 256 ^ (7 - i) % 256)
def foldB (bs : List UInt8) : Nat := bs.foldl (fun k c => (k * 256 + c.toNat) % 18446744073709551616) 0
theorem bytes8_all (x : Nat) : bytes8 x = [UInt8.ofNat (x / 72057594037927936 % 256), UInt8.ofNat (x / 281474976710656 % 256), UInt8.ofNat (x / 1099511627776 % 256), UInt8.ofNat (x / 4294967296 % 256), UInt8.ofNat (x / 16777216 % 256), UInt8.ofNat (x / 65536 % 256), UInt8.ofNat (x / 256 % 256), UInt8.ofNat (x / 1 % 256)] := rfl
theorem fold_eight (a b c d e f g i : Nat) (ha : a < 256) (hb : b < 256) (hc : c < 256) (hd : d < 256) (he : e < 256) (hf : f < 256) (hg : g < 256) (hi : i < 256) :
    (((((((((0 * 256 + a) % 18446744073709551616) * 256 + b) % 18446744073709551616 * 256 + c) % 18446744073709551616 * 256 + d) % 18446744073709551616 * 256 + e) % 18446744073709551616 * 256 + f) % 18446744073709551616 * 256 + g) % 18446744073709551616 * 256 + i) % 18446744073709551616 =
      a * 72057594037927936 + b * 281474976710656 + c * 1099511627776 + d * 4294967296 + e * 16777216 + f * 65536 + g * 256 + i := by
  rw [Nat.mod_eq_of_lt (show 0 * 256 + a < 18446744073709551616 by omega)]
  rw [Nat.mod_eq_of_lt (show (0 * 256 + a) * 256 + b < 18446744073709551616 by omega)]
  rw [Nat.mod_eq_of_lt (show ((0 * 256 + a) * 256 + b) * 256 + c < 18446744073709551616 by omega)]
  rw [Nat.mod_eq_of_lt (show (((0 * 256 + a) * 256 + b) * 256 + c) * 256 + d < 18446744073709551616 by omega)]
  rw [Nat.mod_eq_of_lt (show ((((0 * 256 + a) * 256 + b) * 256 + c) * 256 + d) * 256 + e < 18446744073709551616 by omega)]
  rw [Nat.mod_eq_of_lt (show (((((0 * 256 + a) * 256 + b) * 256 + c) * 256 + d) * 256 + e) * 256 + f < 18446744073709551616 by omega)]
  rw [Nat.mod_eq_of_lt (show ((((((0 * 256 + a) * 256 + b) * 256 + c) * 256 + d) * 256 + e) * 256 + f) * 256 + g < 18446744073709551616 by omega)]
  rw [Nat.mod_eq_of_lt (show (((((((0 * 256 + a) * 256 + b) * 256 + c) * 256 + d) * 256 + e) * 256 + f) * 256 + g) * 256 + i < 18446744073709551616 by omega)]
  omega
theorem fold_bytes {x : Nat} (h : x < 18446744073709551616) : foldB (bytes8 x) = x := by
  rw [bytes8_all]
  simp only [foldB, List.foldl_cons, List.foldl_nil, UInt8.toNat_ofNat']
  simp only [Nat.reducePow, Nat.mod_mod]
  rw [fold_eight _ _ _ _ _ _ _ _ (Nat.mod_lt _ (by decide)) (Nat.mod_lt _ (by decide)) (Nat.mod_lt _ (by decide)) (Nat.mod_lt _ (by decide)) (Nat.mod_lt _ (by decide)) (Nat.mod_lt _ (by decide)) (Nat.mod_lt _ (by decide)) (Nat.mod_lt _ (by decide))]
  omega
theorem bytes_fold {bs : List UInt8} (h : bs.length = 8) : bytes8 (foldB bs) = bs ∧ foldB bs < 18446744073709551616 := by
  match bs, h with
  | [a, b, c, d, e, f, g, i], _ =>
    have ha := a.toNat_lt
    have hb := b.toNat_lt
    have hc := c.toNat_lt
    have hd := d.toNat_lt
    have he := e.toNat_lt
    have hf := f.toNat_lt
    have hg := g.toNat_lt
    have hi := i.toNat_lt
    have hk : foldB [a, b, c, d, e, f, g, i] = a.toNat * 72057594037927936 + b.toNat * 281474976710656 + c.toNat * 1099511627776 + d.toNat * 4294967296 + e.toNat * 16777216 + f.toNat * 65536 + g.toNat * 256 + i.toNat :=
      fold_eight _ _ _ _ _ _ _ _ ha hb hc hd he hf hg hi
    rw [hk]
    refine ⟨?_, by omega⟩
    rw [bytes8_all]
    have one : ∀ (n : Nat) (u : UInt8), n = u.toNat → UInt8.ofNat n = u := fun n u h => by rw [h]; simp
    simp only [List.cons.injEq, and_true]
    refine ⟨one _ _ ?_, one _ _ ?_, one _ _ ?_, one _ _ ?_, one _ _ ?_, one _ _ ?_, one _ _ ?_, one _ _ ?_⟩ <;> omega
def hex16 (x : Nat) : List UInt8 := hexB (bytes8 x)
theorem hex16_len (x : Nat) : (hex16 x).length = 16 := by rw [hex16, hexB_len]; rfl
theorem hxd_32 : ∀ k : Fin 16, hxd k.val ≠ 32 := by decide
theorem hexB_clean (l : List UInt8) : (32 : UInt8) ∉ hexB l := by
  intro h
  obtain ⟨c, _, hc⟩ := List.mem_flatMap.1 h
  have h1 := c.toNat_lt
  simp only [List.mem_cons, List.not_mem_nil, or_false] at hc
  rcases hc with e | e
  · exact hxd_32 ⟨c.toNat / 16, by omega⟩ e.symm
  · exact hxd_32 ⟨c.toNat % 16, by omega⟩ e.symm
theorem last_blank (a d : List UInt8) (h : (32 : UInt8) ∉ d) : Lib.lastIndexByte (mkB (a ++ 32 :: d)) 32 = (a.length : Int) := by
  have hg : ∀ j : Nat, (mkB (a ++ 32 :: d)).data[j]! = ((a ++ 32 :: d)[j]?).getD default := fun j => by
    show (a ++ 32 :: d).toArray[j]! = _
    rw [List.getElem!_toArray, List.getElem!_eq_getElem?_getD]
  have hz : (mkB (a ++ 32 :: d)).size = a.length + (d.length + 1) := by simp [mkB, ByteArray.size]
  have h0 : (a ++ 32 :: d)[a.length]? = some 32 := by simp
  have h1 : ∀ j, a.length < j → (a ++ 32 :: d)[j]? ≠ some 32 := by
    intro j hj e
    rw [List.getElem?_append_right (by omega), show j - a.length = (j - a.length - 1) + 1 by omega, List.getElem?_cons_succ] at e
    exact h (List.mem_of_getElem? e)
  rcases Lib.lastIndexByte_spec (mkB (a ++ 32 :: d)) 32 with ⟨_, hn⟩ | ⟨i, hi, he, h32, hn⟩
  · exfalso
    refine hn a.length (by omega) ?_
    rw [hg, h0]; rfl
  · rcases Nat.lt_trichotomy i a.length with hlt | rfl | hgt
    · exfalso
      refine hn a.length hlt (by omega) ?_
      rw [hg, h0]; rfl
    · exact he
    · exfalso
      have hil : i < (a ++ 32 :: d).length := by simp; omega
      refine h1 i hgt ?_
      rw [hg, List.getElem?_eq_getElem hil] at h32
      rw [List.getElem?_eq_getElem hil]
      have h3 : (((a ++ 32 :: d)[i]'hil).toNat : Int) = 32 := h32
      exact congrArg some (UInt8.toNat_inj.1 (by show _ = 32; omega))
theorem last_parts (l : List UInt8) (h : ¬ Lib.lastIndexByte (mkB l) 32 < 0) : ∃ a d, l = a ++ 32 :: d ∧ (32 : UInt8) ∉ d ∧ Lib.lastIndexByte (mkB l) 32 = (a.length : Int) := by
  have hg : ∀ j : Nat, (mkB l).data[j]! = (l[j]?).getD default := fun j => by
    show l.toArray[j]! = _
    rw [List.getElem!_toArray, List.getElem!_eq_getElem?_getD]
  have hz : (mkB l).size = l.length := by simp [mkB, ByteArray.size]
  rcases Lib.lastIndexByte_spec (mkB l) 32 with ⟨e, _⟩ | ⟨i, hi, he, h32, hn⟩
  · omega
  · have hil : i < l.length := by omega
    have hc : l[i] = 32 := by
      rw [hg, List.getElem?_eq_getElem hil] at h32
      have h3 : ((l[i]).toNat : Int) = 32 := h32
      exact UInt8.toNat_inj.1 (by show _ = 32; omega)
    refine ⟨l.take i, l.drop (i + 1), ?_, ?_, by rw [he, List.length_take]; omega⟩
    · rw [← hc, List.getElem_cons_drop, List.take_append_drop]
    · intro hm
      obtain ⟨k, hk⟩ := List.getElem?_of_mem hm
      rw [List.getElem?_drop] at hk
      have hkl := (List.getElem?_eq_some_iff.1 hk).1
      refine hn (i + 1 + k) (by omega) (by omega) ?_
      rw [hg, hk]
      rfl
def keyT (a b : En) (x : Nat) : List UInt8 := flowT a b ++ 32 :: hex16 x
/-- What the program reads of a key: behind the last blank stand sixteen digits. -/
def keyP (l : List UInt8) : Option (En × En × Nat) :=
  if Lib.lastIndexByte (mkB l) 32 < 0 then none else
    match flowP (l.take (Lib.lastIndexByte (mkB l) 32).toNat), unhexL (l.drop ((Lib.lastIndexByte (mkB l) 32).toNat + 1)) with
    | some x, some bs => if bs.length = 8 then some (x.1, x.2, foldB bs) else none
    | _, _ => none
theorem keyP_keyT {a b : En} {x : Nat} (ha : EnOk a) (hb : EnOk b) (hx : x < 18446744073709551616) : keyP (keyT a b x) = some (a, b, x) := by
  have hl : Lib.lastIndexByte (mkB (keyT a b x)) 32 = ((flowT a b).length : Int) := last_blank (flowT a b) (hex16 x) (hexB_clean _)
  unfold keyP
  rw [hl, if_neg (by omega), Int.toNat_natCast]
  have e1 : (keyT a b x).take (flowT a b).length = flowT a b := by rw [keyT, List.take_left']; rfl
  have e2 : (keyT a b x).drop ((flowT a b).length + 1) = hex16 x := by
    rw [← List.drop_drop, keyT, List.drop_left' rfl]
    rfl
  rw [e1, e2, flowP_flowT ha hb, hex16, unhex_hexB]
  dsimp only
  rw [if_pos (show (bytes8 x).length = 8 from rfl), fold_bytes hx]
theorem keyP_sound {l : List UInt8} {a b : En} {x : Nat} (h : keyP l = some (a, b, x)) : keyT a b x = l ∧ EnOk a ∧ EnOk b ∧ x < 18446744073709551616 := by
  unfold keyP at h
  split at h
  · cases h
  · rename_i hn
    obtain ⟨u, d, hl, _, hat⟩ := last_parts l hn
    rw [hat, Int.toNat_natCast] at h
    have e1 : l.take u.length = u := by rw [hl, List.take_left']; rfl
    have e2 : l.drop (u.length + 1) = d := by
      rw [← List.drop_drop, hl, List.drop_left' rfl]
      rfl
    rw [e1, e2] at h
    cases h1 : flowP u with
    | none => rw [h1] at h; cases h
    | some y =>
      cases h2 : unhexL d with
      | none => rw [h1, h2] at h; cases h
      | some bs =>
        rw [h1, h2] at h
        dsimp only at h
        split at h
        · rename_i h8
          injection h with h
          injection h with ea h
          injection h with eb ex
          subst ea eb ex
          obtain ⟨t1, k1, k2⟩ := flowP_sound (a := y.1) (b := y.2) h1
          obtain ⟨f1, f2⟩ := bytes_fold h8
          refine ⟨?_, k1, k2, f2⟩
          rw [keyT, t1, hex16, f1, unhex_sound d bs h2, hl]
        · cases h
/-- A key's text is no flow's. -/
theorem flowP_keyT {a b : En} {x : Nat} (ha : EnOk a) (hb : EnOk b) : flowP (keyT a b x) = none := by
  cases h : flowP (keyT a b x) with
  | none => rfl
  | some y =>
    obtain ⟨h1, h2, h3⟩ := flowP_sound (a := y.1) (b := y.2) h
    exfalso
    have c1 := congrArg (fun l => l.countP (· == 32)) h1
    simp only [flowT, keyT, hex16, List.countP_append, List.countP_cons] at c1
    have z : ∀ l : List UInt8, (32 : UInt8) ∉ l → l.countP (· == 32) = 0 := fun l hl => List.countP_eq_zero.2 fun c hc e => hl (by rw [← eq_of_beq e]; exact hc)
    rw [z _ (enT_clean ha), z _ (enT_clean hb), z _ (enT_clean h2), z _ (enT_clean h3), z _ (hexB_clean _)] at c1
    revert c1
    decide
theorem keyT_front (a b : En) (x : Nat) : (keyT a b x).length = (flowT a b).length + 17 ∧ (keyT a b x).take (flowT a b).length = flowT a b := by
  refine ⟨?_, by rw [keyT, List.take_left']; rfl⟩
  rw [keyT, List.length_append, List.length_cons, hex16_len]

/-! ### the reference's key -/
def rfold (l : List UInt8) : Option Nat := l.foldl (fun o c => o.bind fun k => if isLo c then some ((16 * k + loN c) % 18446744073709551616) else none) (some 0)
/-- The reference's ParseKey: sixteen digits behind the seventeenth byte from the end. -/
def rkeyP (l : List UInt8) : Option (En × En × Nat) :=
  if l.length < 17 ∨ l[l.length - 17]? ≠ some 32 then none else
    match rfold (l.drop (l.length - 17 + 1)), flowP (l.take (l.length - 17)) with
    | some n, some x => some (x.1, x.2, n)
    | _, _ => none
theorem rfold_none (l : List UInt8) : l.foldl (fun o c => o.bind fun k => if isLo c then some ((16 * k + loN c) % 18446744073709551616) else none) (none : Option Nat) = none := by
  induction l with
  | nil => rfl
  | cons c r ih => exact ih
/-- Digit by digit, or byte by byte: one number. -/
theorem rfold_pairs : ∀ (l : List UInt8) (k : Nat), l.length % 2 = 0 →
    l.foldl (fun o c => o.bind fun k => if isLo c then some ((16 * k + loN c) % 18446744073709551616) else none) (some k) = ((unhexL l).map fun bs => bs.foldl (fun k c => (k * 256 + c.toNat) % 18446744073709551616) (k % 18446744073709551616)) ∨ l = []
  | [], _, _ => .inr rfl
  | [_], _, h => by simp at h
  | a :: b :: r, k, h => by
    left
    rw [List.foldl_cons, List.foldl_cons, unhexL]
    cases ha : isLo a with
    | false => simp [rfold_none]
    | true =>
      cases hb : isLo b with
      | false => simp [rfold_none]
      | true =>
        obtain ⟨a1, _⟩ := lo_hxd' ha
        obtain ⟨b1, _⟩ := lo_hxd' hb
        have hn : (UInt8.ofNat (loN a * 16 + loN b)).toNat = loN a * 16 + loN b := by rw [UInt8.toNat_ofNat']; omega
        have e1 : (16 * ((16 * k + loN a) % 18446744073709551616) + loN b) % 18446744073709551616 = (k % 18446744073709551616 * 256 + (loN a * 16 + loN b)) % 18446744073709551616 := by omega
        simp only [Option.bind_some, if_true, Bool.and_self, Option.map_map]
        rw [e1]
        rcases rfold_pairs r ((k % 18446744073709551616 * 256 + (loN a * 16 + loN b)) % 18446744073709551616) (by simp at h; omega) with hr | rfl
        · rw [hr]
          cases unhexL r with
          | none => rfl
          | some bs =>
            show some (bs.foldl _ _) = some ((UInt8.ofNat (loN a * 16 + loN b) :: bs).foldl _ _)
            rw [List.foldl_cons, hn, Nat.mod_mod]
        · show some ((k % 18446744073709551616 * 256 + (loN a * 16 + loN b)) % 18446744073709551616) = some ((k % 18446744073709551616 * 256 + (UInt8.ofNat (loN a * 16 + loN b)).toNat) % 18446744073709551616)
          rw [hn]
theorem rfold_eq (l : List UInt8) (h : l.length % 2 = 0) : rfold l = (unhexL l).map foldB := by
  rcases rfold_pairs l 0 h with hr | rfl
  · exact hr
  · rfl
theorem rkeyP_eq (l : List UInt8) : rkeyP l = keyP l := by
  cases hk : keyP l with
  | some y =>
    obtain ⟨a, b, x⟩ := y
    obtain ⟨hl, ka, kb, hx⟩ := keyP_sound hk
    obtain ⟨f1, f2⟩ := keyT_front a b x
    rw [hl] at f1 f2
    have e1 : l.length - 17 = (flowT a b).length := by omega
    have e2 : l.drop ((flowT a b).length + 1) = hex16 x := by
      rw [← hl, ← List.drop_drop, keyT, List.drop_left' rfl]
      rfl
    have e3 : l[(flowT a b).length]? = some 32 := by rw [← hl, keyT]; simp
    unfold rkeyP
    rw [e1, if_neg (by rw [e3]; simp; omega), e2, f2, flowP_flowT ka kb, rfold_eq _ (by rw [hex16_len]), hex16, unhex_hexB]
    simp [fold_bytes hx]
  | none =>
    unfold rkeyP
    split
    · rfl
    · rename_i hc
      rw [not_or] at hc
      obtain ⟨h1, h2⟩ := hc
      have h2 : l[l.length - 17]? = some 32 := Classical.byContradiction fun e => h2 e
      cases hf : rfold (l.drop (l.length - 17 + 1)) with
      | none => rfl
      | some n =>
        cases hp : flowP (l.take (l.length - 17)) with
        | none => rfl
        | some y =>
          exfalso
          have hd : (l.drop (l.length - 17 + 1)).length = 16 := by rw [List.length_drop]; omega
          rw [rfold_eq _ (by rw [hd])] at hf
          obtain ⟨bs, hu, _⟩ := Option.map_eq_some_iff.1 hf
          have hb := unhex_sound _ _ hu
          have h8 : bs.length = 8 := by
            have := congrArg List.length hb
            rw [hexB_len, hd] at this
            omega
          obtain ⟨g1, g2⟩ := bytes_fold h8
          obtain ⟨t1, k1, k2⟩ := flowP_sound (a := y.1) (b := y.2) hp
          have hl : keyT y.1 y.2 (foldB bs) = l := by
            rw [keyT, t1, hex16, g1, hb]
            have hi : l.length - 17 < l.length := by omega
            rw [List.getElem?_eq_getElem hi] at h2
            injection h2 with h2
            rw [← h2, List.getElem_cons_drop, List.take_append_drop]
          rw [← hl, keyP_keyT k1 k2 g2] at hk
          cases hk
end Go.Proofs.YtonafonhadocgaaDoor

/- A flow as a map's key. -/
namespace Go.Proofs.YtonafonhadocgaaDoor
open Go.RowKit Go.Shelf

/-- A flow's cells. -/
def enL (e : En) : List Value := Value.bool e.1 :: (bv e.2.1 ++ [Value.int .u16 (e.2.2 : Int)])
def flC (a b : En) : Array Value := (enL a ++ enL b).toArray
theorem enL_len (e : En) (h : e.2.1.length = 16) : (enL e).length = 18 := by simp [enL, bv_length, h]

section
variable {P : Program} {d : Nat} {t e : TypeId}
theorem mapM_ex {α β : Type} (g : α → Option β) : ∀ l : List α, (∀ a ∈ l, ∃ b, g a = some b) → ∃ bs, l.mapM g = some bs
  | [], _ => ⟨[], rfl⟩
  | a :: l, h => by
    obtain ⟨b, hb⟩ := h a List.mem_cons_self
    obtain ⟨bs, hbs⟩ := mapM_ex g l fun x hx => h x (List.mem_cons_of_mem _ hx)
    exact ⟨b :: bs, by simp [List.mapM_cons, hb, hbs]⟩
theorem kl_bool (h : P.underlying t = some .bool) (b : Bool) : P.keyLits (d + 1) t [.bool b] = some [.bool b] := by simp [Program.keyLits, h]
theorem kl_int {q : IntKind} (h : P.underlying t = some (.int q)) {n : Int} (hw : (Lit.int q n).wf = true) : P.keyLits (d + 1) t [.int q n] = some [.int q n] := by simp [Program.keyLits, h, hw]
theorem kl_array {n : Nat} (h : P.underlying t = some (.array n e)) (he : P.cellsOf e = 1) {cs : List Value} (hc : cs.length = P.cellsOf t) (hn : cs.length = n) (hk : ∀ v ∈ cs, ∃ ls, P.keyLits d e [v] = some ls) : ∃ ls, P.keyLits (d + 1) t cs = some ls := by
  unfold Program.keyLits
  simp only [h, hc, if_true, he, Nat.mul_one]
  obtain ⟨bs, hbs⟩ := mapM_ex (fun i => P.keyLits d e ((cs.drop i).take 1)) (List.range n) fun i hi => by
    rw [List.mem_range] at hi
    have hil : i < cs.length := by omega
    have e1 : (cs.drop i).take 1 = [cs[i]] := by rw [List.drop_eq_getElem_cons hil]; rfl
    obtain ⟨ls, hls⟩ := hk cs[i] (List.getElem_mem hil)
    exact ⟨ls, by rw [e1, hls]⟩
  exact ⟨bs.flatten, by rw [hbs]; rfl⟩
theorem kl_struct {fs : Array Field} (h : P.underlying t = some (.struct fs)) {cs : List Value} (hc : cs.length = P.cellsOf t) (hf : fs.all (·.name != "_") = true)
    (hk : ∀ f ∈ fs.toList, ∃ ls, P.keyLits d f.type ((cs.drop f.offset).take (P.cellsOf f.type)) = some ls) : ∃ ls, P.keyLits (d + 1) t cs = some ls := by
  unfold Program.keyLits
  simp only [h]
  obtain ⟨bs, hbs⟩ := mapM_ex (fun f : Field => P.keyLits d f.type ((cs.drop f.offset).take (P.cellsOf f.type))) fs.toList hk
  exact ⟨bs.flatten, by rw [if_pos ⟨hc, hf⟩, hbs]; rfl⟩
end

theorem kc1 : Tryd.prog.cellsOf 4 = 1 := by kernel_rfl
theorem kc8 : Tryd.prog.cellsOf 5 = 1 := by kernel_rfl
theorem kc16 : Tryd.prog.cellsOf 25 = 1 := by kernel_rfl
theorem kcB : Tryd.prog.cellsOf 22 = 16 := by kernel_rfl
theorem kcA : Tryd.prog.cellsOf 24 = 17 := by kernel_rfl
theorem kcE : Tryd.prog.cellsOf 27 = 18 := by kernel_rfl
theorem kcF : Tryd.prog.cellsOf 29 = 36 := by kernel_rfl
theorem kfA : (Tryd.prog.fieldsOf 24).toList.map (fun f => (f.type, f.offset)) = [(4, 0), (22, 1)] := by kernel_rfl
theorem kfE : (Tryd.prog.fieldsOf 27).toList.map (fun f => (f.type, f.offset)) = [(24, 0), (25, 17)] := by kernel_rfl
theorem kfF : (Tryd.prog.fieldsOf 29).toList.map (fun f => (f.type, f.offset)) = [(27, 0), (27, 18)] := by kernel_rfl
theorem ksA : Tryd.prog.underlying 24 = some (.struct (Tryd.prog.fieldsOf 24)) := by kernel_rfl
theorem ksE : Tryd.prog.underlying 27 = some (.struct (Tryd.prog.fieldsOf 27)) := by kernel_rfl
theorem ksF : Tryd.prog.underlying 29 = some (.struct (Tryd.prog.fieldsOf 29)) := by kernel_rfl
theorem two_fields {fs : Array Field} {t0 t1 o0 o1 : Nat} (h : fs.toList.map (fun f => (f.type, f.offset)) = [(t0, o0), (t1, o1)]) {p : Field → Prop} (hp : ∀ f : Field, (f.type = t0 ∧ f.offset = o0) ∨ (f.type = t1 ∧ f.offset = o1) → p f) : ∀ f ∈ fs.toList, p f := by
  intro f hf
  have hm : (f.type, f.offset) ∈ fs.toList.map (fun f => (f.type, f.offset)) := List.mem_map.2 ⟨f, hf, rfl⟩
  rw [h] at hm
  simp only [List.mem_cons, Prod.mk.injEq, List.not_mem_nil, or_false] at hm
  exact hp f hm
theorem addr_lits (d : Nat) (v : Bool) (l : List UInt8) (h : l.length = 16) : ∃ ls, Tryd.prog.keyLits (d + 3) 24 (Value.bool v :: bv l) = some ls := by
  refine kl_struct ksA (by rw [kcA]; simp [bv_length, h]) (by kernel_rfl) (two_fields kfA ?_)
  rintro f (⟨e1, e2⟩ | ⟨e1, e2⟩)
  · rw [e1, e2, kc1]
    exact ⟨_, kl_bool Tryd.underlying4 v⟩
  · rw [e1, e2, kcB]
    have e3 : ((Value.bool v :: bv l).drop 1).take 16 = bv l := by
      rw [List.drop_succ_cons, List.drop_zero, List.take_of_length_le (by rw [bv_length, h]; exact Nat.le_refl _)]
    rw [e3]
    refine kl_array Tryd.underlying22 kc8 (by rw [kcB, bv_length, h]) (by rw [bv_length, h]) fun x hx => ?_
    obtain ⟨b, _, rfl⟩ := List.mem_map.1 hx
    have := b.toNat_lt
    exact ⟨_, kl_int Tryd.underlying5 (by simp [Lit.wf, IntKind.min, IntKind.max, IntKind.signed, IntKind.bits]; omega)⟩
theorem ends_lits (d : Nat) (e : En) (h : e.2.1.length = 16) (hp : e.2.2 < 65536) : ∃ ls, Tryd.prog.keyLits (d + 4) 27 (enL e) = some ls := by
  refine kl_struct ksE (by rw [kcE, enL_len e h]) (by kernel_rfl) (two_fields kfE ?_)
  rintro f (⟨e1, e2⟩ | ⟨e1, e2⟩)
  · rw [e1, e2, kcA, List.drop_zero]
    have e3 : (enL e).take 17 = Value.bool e.1 :: bv e.2.1 := by
      rw [enL, ← List.cons_append, List.take_left']
      simp [bv_length, h]
    rw [e3]
    exact addr_lits d e.1 e.2.1 h
  · rw [e1, e2, kc16]
    have e3 : ((enL e).drop 17).take 1 = [.int .u16 (e.2.2 : Int)] := by
      rw [enL, ← List.cons_append, List.drop_left' (by simp [bv_length, h])]
      rfl
    rw [e3]
    exact ⟨_, kl_int (d := d + 2) Tryd.underlying25 (by simp [Lit.wf, IntKind.min, IntKind.max, IntKind.signed, IntKind.bits]; omega)⟩
theorem flow_lits (d : Nat) (a b : En) (ha : a.2.1.length = 16) (hb : b.2.1.length = 16) (pa : a.2.2 < 65536) (pb : b.2.2 < 65536) : ∃ ls, Tryd.prog.keyLits (d + 5) 29 (enL a ++ enL b) = some ls := by
  refine kl_struct ksF (by rw [kcF, List.length_append, enL_len a ha, enL_len b hb]) (by kernel_rfl) (two_fields kfF ?_)
  rintro f (⟨e1, e2⟩ | ⟨e1, e2⟩)
  · rw [e1, e2, kcE, List.drop_zero, List.take_left' (enL_len a ha)]
    exact ends_lits d a ha pa
  · rw [e1, e2, kcE, List.drop_left' (enL_len a ha), List.take_of_length_le (by rw [enL_len b hb]; exact Nat.le_refl _)]
    exact ends_lits d b hb pb
theorem flow_key (a b : En) (ha : a.2.1.length = 16) (hb : b.2.1.length = 16) (pa : a.2.2 < 65536) (pb : b.2.2 < 65536) : ∃ kl, keyOf Tryd.prog 29 (.agg (flC a b)) = some kl := by
  obtain ⟨n, hn⟩ : ∃ n, Tryd.prog.types.size + 1 = n + 5 := ⟨Tryd.prog.types.size - 4, of_decide_eq_true (by kernel_rfl)⟩
  obtain ⟨ls, hls⟩ := flow_lits n a b ha hb pa pb
  have hk : Tryd.prog.keyType 29 = true := by kernel_rfl
  have hf : (Value.agg (flC a b)).formed Tryd.prog 29 = true := by
    simp only [Value.formed, ksF, kcF, flC]
    simp [enL_len a ha, enL_len b hb]
  refine ⟨.string (keyBytes ls), ?_⟩
  unfold keyOf
  simp only [ksF, hk, hf, Bool.and_self, if_true]
  rw [hn]
  show (Tryd.prog.keyLits (n + 5) 29 (flC a b).toList).map _ = _
  rw [flC, hls]
  rfl
theorem flow_law : Go.Maps.Keyed Tryd.prog 29 := Go.Maps.Keyed.of_law (deep_law_laid (show laidOutB Tryd.prog = true by kernel_rfl) (m := 8) (by omega) (of_decide_eq_true (by kernel_rfl)) (by kernel_rfl) (by kernel_rfl))
theorem enL_inj {a b : En} (ha : a.2.1.length = 16) (hb : b.2.1.length = 16) (h : enL a = enL b) : a = b := by
  obtain ⟨u, l, p⟩ := a
  obtain ⟨v, m, q⟩ := b
  unfold enL at h
  injection h with h1 h2
  injection h1 with h1
  obtain ⟨h3, h4⟩ := List.append_inj' h2 rfl
  have h5 : l = m := by
    have := congrArg (List.map fun x : Value => match x with | .int _ n => UInt8.ofNat n.toNat | _ => 0) h3
    simpa [bv, List.map_map, Function.comp_def] using this
  injection h4 with h4 _
  injection h4 with _ h4
  dsimp only at *
  rw [h1, h5, show p = q by omega]
theorem flC_inj {a b c d : En} (ha : a.2.1.length = 16) (hb : b.2.1.length = 16) (hc : c.2.1.length = 16) (hd : d.2.1.length = 16) (h : flC a b = flC c d) : a = c ∧ b = d := by
  have h' : enL a ++ enL b = enL c ++ enL d := congrArg Array.toList h
  obtain ⟨h1, h2⟩ := List.append_inj h' (by rw [enL_len a ha, enL_len c hc])
  exact ⟨enL_inj ha hc h1, enL_inj hb hd h2⟩
end Go.Proofs.YtonafonhadocgaaDoor
