/- addr.ParseEnds. -/
import Derived.Test.YtgdnckglfhabnaaDoorAdEnds
namespace Go.Proofs.YtgdnckglfhabnaaDoor
open Go.RowKit Go.Shelf

/-! ### Parsed addresses -/
theorem f4_len {s : ByteArray} {l : List UInt8} (h : f4 s = some l) : l.length = 4 := by
  obtain ⟨a, b, c, d, rfl⟩ := two_len h
  rfl
theorem parseA_len {l : List UInt8} {v : Bool} {b : List UInt8} (h : parseA l = some (v, b)) : b.length = 16 ∧ mayB v b = true := by
  unfold parseA at h
  split at h
  · rename_i x hx
    injection h with h
    injection h with h1 h2
    subst h1 h2
    have h4 := f4_len hx
    exact ⟨by simp [h4], by simp [mayB, h4]⟩
  · split at h
    · split at h
      · cases h
      · rename_i g h' hg hh hc
        injection h with h
        injection h with h1 h2
        subst h1 h2
        refine ⟨?_, rfl⟩
        simp only [Bool.or_eq_true, Bool.and_eq_true, Bool.not_eq_true', decide_eq_true_eq, not_or, not_and] at hc
        rw [flat_len]
        simp only [List.length_append, List.length_replicate]
        cases hb : (cutL l).2.2
        · have := hc.2 hb
          omega
        · have := hc.1 hb
          omega
    · cases h
def parse3 (l : List UInt8) : Bool × List UInt8 × Int := match parseA l with
  | some (v, b) => (v, b, 0)
  | none => (false, z16, 9)
theorem parse3_v (l : List UInt8) : parseV l = .tuple #[.agg (adC (parse3 l).1 (parse3 l).2.1), .int .i64 (parse3 l).2.2] := by
  unfold parseV parse3
  cases parseA l with
  | none => rfl
  | some x => rfl
theorem parse3_ok (l : List UInt8) : (parse3 l).2.1.length = 16 ∧ mayB (parse3 l).1 (parse3 l).2.1 = true := by
  unfold parse3
  cases h : parseA l with
  | none => exact ⟨rfl, by decide⟩
  | some x =>
    obtain ⟨v, b⟩ := x
    exact parseA_len h
def unum2 (s : ByteArray) : Nat × Bool := match unum s with
  | some n => (n, true)
  | none => (0, false)
theorem unum2_v (s : ByteArray) : unumV s = .tuple #[.int .u64 (unum2 s).1, .bool (unum2 s).2] := by
  unfold unumV unum2
  cases unum s <;> rfl
theorem unum2_lt (s : ByteArray) : (unum2 s).1 < 18446744073709551616 := by
  unfold unum2
  cases h : unum s with
  | none => exact (by decide : 0 < 18446744073709551616)
  | some n => exact unum_lt h

/-! ### Parsed ends -/
def trimB (l : List UInt8) : List UInt8 := Lib.trimSuffix (Lib.trimPrefix l [91]) [93]
/-- The ends of a text, cut at k. -/
def peAt (s : List UInt8) (k : Nat) : Option (Bool × List UInt8 × Nat) :=
  if (parse3 (trimB (s.take k))).2.2 = 0 ∧ (unum2 (mkB (s.drop (k + 1)))).2 = true ∧ endsT (parse3 (trimB (s.take k))).1 (parse3 (trimB (s.take k))).2.1 ((unum2 (mkB (s.drop (k + 1)))).1 % 65536) = s then
    some ((parse3 (trimB (s.take k))).1, (parse3 (trimB (s.take k))).2.1, (unum2 (mkB (s.drop (k + 1)))).1 % 65536)
  else none
def peL (s : ByteArray) : Option (Bool × List UInt8 × Nat) := if Lib.lastIndexByte s 58 < 0 then none else peAt s.data.toList (Lib.lastIndexByte s 58).toNat
def peV (s : ByteArray) : Value := match peL s with
  | some (v, b, p) => .tuple #[.agg (enC v b p), .int .i64 0]
  | none => .tuple #[.agg (enC false z16 0), .int .i64 9]

theorem trimP_len (l p : List UInt8) : (Lib.trimPrefix l p).length ≤ l.length := by
  unfold Lib.trimPrefix
  split
  · rw [List.length_drop]; omega
  · exact Nat.le_refl _
theorem trimS_len (l p : List UInt8) : (Lib.trimSuffix l p).length ≤ l.length := by
  unfold Lib.trimSuffix
  split
  · rw [List.length_take]; omega
  · exact Nat.le_refl _
theorem last_any (s : ByteArray) (hs : s.size < 4294967281) (w : World) :
    Calls Tryd.prog 34 #[.string s, .int .u8 58] w fun e w' => e = .returned (.int .i64 (Lib.lastIndexByte s 58)) ∧ w' = w :=
  Any.strings_LastIndexByte lays149 s 58 (by omega) w
theorem trimp_any (s : ByteArray) (w : World) :
    Calls Tryd.prog 36 #[.string s, .string ⟨#[91]⟩] w fun e w' => e = .returned (.string ⟨(Lib.trimPrefix s.data.toList [91]).toArray⟩) ∧ w' = w :=
  Any.strings_TrimPrefix lays101 s ⟨#[91]⟩ w
theorem trims_any (s : ByteArray) (hs : s.size < 4294967281) (w : World) :
    Calls Tryd.prog 35 #[.string s, .string ⟨#[93]⟩] w fun e w' => e = .returned (.string ⟨(Lib.trimSuffix s.data.toList [93]).toArray⟩) ∧ w' = w :=
  Any.strings_TrimSuffix lays102 s ⟨#[93]⟩ w (by omega)

theorem results_en {fn : Func} {p t : Tmp} (h : fn.results = #[.cell p 32, .tmp t]) (tmps : Array Value) (w : World) (g : Nat) (cs : Array Value)
    (hp : tmps.getD p undef = .pointer (some ⟨g, 0, none⟩)) (hg : Blk w g 32 cs) (hi : cs.size = 18) :
    (results fn tmps).run Tryd.prog w = .ok (.tuple #[.agg cs, tmps.getD t undef]) w := by
  have hp' : tmps[p]?.getD undef = .pointer (some ⟨g, 0, none⟩) := by simpa using hp
  have hl := run_loadVar_row (P := Tryd.prog) w g 32 32 cs (0, 0) _ hg Tryd.underlying32 rfl (by rw [hi]; exact enSize)
  simp [results, h, hp', asAddr, hl]
theorem enC_one (v6 : Bool) (l : List UInt8) (p : Nat) : (enC v6 l p).toList.all (·.oneCell') = true := by
  simp [enC, bv, Value.oneCell']
theorem z18_lit : enC false z16 0 = #[.bool false, .int .u8 0, .int .u8 0, .int .u8 0, .int .u8 0, .int .u8 0, .int .u8 0, .int .u8 0, .int .u8 0, .int .u8 0, .int .u8 0, .int .u8 0, .int .u8 0, .int .u8 0, .int .u8 0, .int .u8 0, .int .u8 0, .int .u16 0] := rfl

/-- A struct or an array that is built of its parts. -/
theorem wpList_build_eq {P : Program} {ops : Array Oper} {rest : List Oper} {o : Oper} {a : Act} {w : World} {Q : Exit → Act → World → Prop} (t : TypeId) (parts : Array (Nat × Operand)) (cells : Array Value) (ho : o.op = .build t parts)
    (hc : P.built t (parts.toList.map fun p => (p.1, a.eval p.2)) = some cells) (hw : Region.wanted o (yielded ops a.tmps) = true)
    (h : wpList P ops Q rest (a.put o.dst (.agg cells)) w) : wpList P ops Q (o :: rest) a w :=
  have hc' : P.built t (parts.map fun (i, x) => (i, a.eval x)).toList = some cells := by rw [Array.toList_map]; exact hc
  BigFrame.wpList_want hw fun _ hK => wp_build t parts ho (by rw [hc']; rfl) (by rw [hc']; exact hK _ _ h)
/-- The build whose operands are named: a guard for an arm. -/
theorem at_build {P : Program} {ops : Array Oper} {rest : List Oper} {a : Act} {w : World} {Q : Exit → Act → World → Prop} {dst : Option Tmp} {t : TypeId} {ps : String} {af : Array Edge} {gd : Option (Nat × Bool)} (ty : TypeId) (parts : Array (Nat × Operand)) (h : wpList P ops Q ({ dst := dst, op := .build ty parts, type := t, pos := ps, after := af, guard := gd } :: rest) a w) :
    wpList P ops Q ({ dst := dst, op := .build ty parts, type := t, pos := ps, after := af, guard := gd } :: rest) a w := h
theorem built_en (v6 : Bool) (l : List UInt8) (p : Nat) (hl : l.length = 16) : Tryd.prog.built 32 [(0, .agg (adC v6 l)), (1, .int .u16 (p : Int))] = some (enC v6 l p) := by
  obtain ⟨b0, b1, b2, b3, b4, b5, b6, b7, b8, b9, b10, b11, b12, b13, b14, b15, rfl⟩ := sixteen l hl
  kernel_rfl

set_option maxRecDepth 100000 in
set_option maxHeartbeats 8000000 in
theorem parseEnds_any (s : ByteArray) (hs : s.size < 4294967281) (w : World) (env : Env w) :
    Calls Tryd.prog 17 #[.string s] w fun e w' => e = .returned (peV s) ∧ Below w.heap.size w w' := by
  have E := Lib.hid env
  clear env
  have HL := Lib.hid (fun W => last_any s hs W)
  have K2 := Lib.hid (Blk.new w 32 (enC false z16 0))
  have B2 := Lib.hid ((Below.refl _ w).alloc (Nat.le_refl _) (.cells (enC false z16 0) 32))
  have HK := Lib.hid (show peL s = if Lib.lastIndexByte s 58 < 0 then none else peAt s.data.toList (Lib.lastIndexByte s 58).toNat from rfl)
  have hlt : Lib.lastIndexByte s 58 = -1 ∨ ∃ k : Nat, Lib.lastIndexByte s 58 = k ∧ k < s.size := by
    rcases Lib.lastIndexByte_spec s 58 with ⟨h, _⟩ | ⟨k, h1, h2, _⟩
    · exact .inl h
    · exact .inr ⟨k, h2, h1⟩
  go_enter Tryd.func17, Tryd.ntmps17
  go_wp2_with fail
  refine (HL.out _).mono ?_
  rintro e w2 ⟨rfl, rfl⟩
  clear HL
  rcases hlt with hz | ⟨k, hk, hks⟩
  · have HR := Lib.hid (show peV s = .tuple #[.agg (enC false z16 0), .int .i64 9] by rw [peV, HK.out, hz]; rfl)
    rw [hz]
    clear HK hz
    go_wp2_with ((with_reducible refine at_store 32 (.tmp 2) (.tmp 16) ?_); refine wpList_store_blk 32 (.tmp 2) (.tmp 16) w.heap.size 32 (enC false z16 0) (enC false z16 0) K2.out (by rfl) (by rfl) (by rfl) (by rfl) (by rw [enC_size _ _ _ (by rfl)]; exact enSize) (by rfl) (by rfl) (by rfl) ?_; intro w9 hk9 hg9 hs9; have V9 := Lib.hid hk9; have G9 := Lib.hid (And.intro hg9 hs9); clear hk9 hg9 hs9)
    exact bodyPost_ret (v := .tuple #[.agg (enC false z16 0), .int .i64 9]) (results_en Tryd.results17 _ _ w.heap.size (enC false z16 0) rfl V9.out (enC_size _ _ _ (by rfl))) rfl ⟨by rw [HR.out], B2.out.grown G9.out.1 B2.out.size (fun k e => by cases e; exact Nat.le_refl _)⟩
  · rw [hk]
    rw [hk, if_neg (by omega)] at HK
    clear hk
    have hT1 := fun W => trimp_any (s.extract 0 k) W
    rw [Lib.extract_from_zero] at hT1
    have hx0 : (Lib.trimPrefix (s.data.toList.take k) [91]).length ≤ s.size := by
      refine Nat.le_trans (trimP_len _ _) ?_
      rw [List.length_take]
      omega
    have HT2 := Lib.hid (fun W => trims_any ⟨(Lib.trimPrefix (s.data.toList.take k) [91]).toArray⟩ (by show (Lib.trimPrefix (s.data.toList.take k) [91]).length < _; omega) W)
    have hx1 : (trimB (s.data.toList.take k)).length < 4294967281 := by
      have := trimS_len (Lib.trimPrefix (s.data.toList.take k) [91]) [93]
      rw [trimB]
      omega
    have HT3 := Lib.hid (fun W (e : Env W) => parse_any ⟨(trimB (s.data.toList.take k)).toArray⟩ hx1 W e)
    have HX := Lib.hid (show Lib.trimSuffix (⟨(Lib.trimPrefix (s.data.toList.take k) [91]).toArray⟩ : ByteArray).data.toList [93] = trimB (s.data.toList.take k) from rfl)
    rw [HX.out] at HT2
    have HT1 := Lib.hid hT1
    clear hT1 HX
    have hx2 : (mkB (s.data.toList.drop (k + 1))).size ≤ 281474976710656 := by
      show (s.data.toList.drop (k + 1)).length ≤ _
      rw [List.length_drop]
      have : s.data.toList.length = s.size := rfl
      omega
    have HT4 := Lib.hid (fun W (e : Env W) => ununsigned_any (mkB (s.data.toList.drop (k + 1))) hx2 W e)
    have HX4 := Lib.hid (show s.extract (k + 1) s.size = mkB (s.data.toList.drop (k + 1)) by
      apply ByteArray.ext
      apply Array.toList_inj.1
      rw [Lib.extract_data]
      show _ = s.data.toList.drop (k + 1)
      rw [List.take_of_length_le]
      rw [List.length_drop]
      have : s.data.toList.length = s.size := rfl
      omega)
    clear hx0 hx1 hx2
    go_wp2_with fail
    refine (HT1.out _).mono ?_
    rintro e w2 ⟨rfl, rfl⟩
    go_wp2_with fail
    refine (HT2.out _).mono ?_
    rintro e w2 ⟨rfl, rfl⟩
    go_wp2_with fail
    refine (HT3.out _ (E.out.alloc _)).mono ?_
    rintro e w2 ⟨rfl, b⟩
    rw [parse3_v]
    have K3 := Lib.hid (K2.out.keep b)
    have B3 := Lib.hid (B2.out.trans (b.mono B2.out.size))
    have hp3 := parse3_ok (trimB (s.data.toList.take k))
    have HPE := Lib.hid (show peAt s.data.toList k = if (parse3 (trimB (s.data.toList.take k))).2.2 = 0 ∧ (unum2 (mkB (s.data.toList.drop (k + 1)))).2 = true ∧ endsT (parse3 (trimB (s.data.toList.take k))).1 (parse3 (trimB (s.data.toList.take k))).2.1 ((unum2 (mkB (s.data.toList.drop (k + 1)))).1 % 65536) = s.data.toList then some ((parse3 (trimB (s.data.toList.take k))).1, (parse3 (trimB (s.data.toList.take k))).2.1, (unum2 (mkB (s.data.toList.drop (k + 1)))).1 % 65536) else none from rfl)
    have hul := unum2_lt (mkB (s.data.toList.drop (k + 1)))
    have HUV := Lib.hid (unum2_v (mkB (s.data.toList.drop (k + 1))))
    generalize parse3 (trimB (s.data.toList.take k)) = pr at *
    generalize unum2 (mkB (s.data.toList.drop (k + 1))) = un at *
    obtain ⟨v6, l, er⟩ := pr
    obtain ⟨n, ok⟩ := un
    have hl : l.length = 16 := hp3.1
    have hm : mayB v6 l = true := hp3.2
    clear b hp3 K2 B2 HT1 HT2 HT3
    dsimp only at *
    have HSA := Lib.hid (show (Tryd.prog.info? 24).map (·.size) = some (adC v6 l).size by rw [adC_size _ _ hl]; exact adSize)
    have HSZ := Lib.hid (show (adC false z16).size = (adC v6 l).size by rw [adC_size _ _ hl]; rfl)
    have HS1 := Lib.hid (adC_one v6 l)
    have HEN := Lib.hid (fun W (e : Env W) => ends_any v6 l (n % 65536) hl (Nat.mod_lt _ (by omega)) W e)
    go_upto_region 5 with ((with_reducible refine at_store 24 (.tmp 5) (.tmp 24) ?_); refine wpList_store_blk 24 (.tmp 5) (.tmp 24) w2.heap.size 24 (adC false z16) (adC v6 l) (Blk.new w2 24 (adC false z16)) (by rfl) (by rfl) (by rfl) (by rfl) HSA.out HSZ.out HS1.out (by rfl) ?_; intro w3 hk3 hg3 hs3; have K5 := Lib.hid hk3; have B4 := Lib.hid (print_world B3.out B3.out.size hg3); have K4 := Lib.hid ((K3.out.alloc _).grown hg3 (fun e => by have := Option.some.inj e; have := K3.out.lt; omega)); clear hk3 hg3 hs3)
    have hx4 := HX4.out
    clear K3 B3
    go_wp2_with fail
    refine (HT4.out _ (E.out.below B4.out)).mono ?_
    rintro e w4 ⟨rfl, b⟩
    rw [HUV.out]
    have K4' := Lib.hid (K4.out.keep b)
    have K5' := Lib.hid (K5.out.keep b)
    have B5 := Lib.hid (B4.out.trans (b.mono B4.out.size))
    clear b K4 K5 B4 hx4 HX4 HT4 HUV
    have hw16 : IntKind.u16.wrap (n : Int) = ((n % 65536 : Nat) : Int) := by
      simp [IntKind.wrap, IntKind.bits, IntKind.signed]
    have HBU := Lib.hid (built_en v6 l (n % 65536) hl)
    have HSE := Lib.hid (show (Tryd.prog.info? 32).map (·.size) = some (enC v6 l (n % 65536)).size by rw [enC_size _ _ _ hl]; exact enSize)
    have HSF := Lib.hid (show (enC false z16 0).size = (enC v6 l (n % 65536)).size by rw [enC_size _ _ _ hl]; rfl)
    have HS2 := Lib.hid (enC_one v6 l (n % 65536))
    generalize n % 65536 = m at *
    go_upto_region 6 with fail
    go_upto_region 7 with (first | (refine wpList_load_blk 24 (.tmp 5) w2.heap.size 24 (adC v6 l) _ K5'.out (by rfl) (by rfl) Tryd.underlying24 rfl HSA.out (by rfl) ?_) | ((with_reducible refine at_build 32 #[(0, .tmp 34), (1, .tmp 36)] ?_); refine wpList_build_eq 32 #[(0, .tmp 34), (1, .tmp 36)] (enC v6 l m) (by rfl) HBU.out (by rfl) ?_) | ((with_reducible refine at_store 32 (.tmp 9) (.tmp 37) ?_); refine wpList_store_blk 32 (.tmp 9) (.tmp 37) w4.heap.size 32 (enC false z16 0) (enC v6 l m) (Blk.new w4 32 (enC false z16 0)) (by rfl) (by rfl) (by rfl) (by rfl) HSE.out HSF.out HS2.out (by rfl) ?_; intro w5 hk5 hg5 hs5; have K9 := Lib.hid hk5; have B6 := Lib.hid (print_world B5.out B5.out.size hg5); have K6 := Lib.hid ((K4'.out.alloc _).grown hg5 (fun e => by have := Option.some.inj e; have := K4'.out.lt; omega)); clear hk5 hg5 hs5))
    clear K4' K5' B5 HBU HSF
    go_wp2_with (refine wpList_load_blk 32 (.tmp 9) w4.heap.size 32 (enC v6 l m) _ K9.out (by rfl) (by rfl) Tryd.underlying32 rfl HSE.out (by rfl) ?_)
    refine (HEN.out _ (E.out.below B6.out)).mono ?_
    rintro e w6 ⟨rfl, b⟩
    rw [show endsV v6 l m = .tuple #[.string ⟨(endsT v6 l m).toArray⟩, .int .i64 0] by rw [endsV, hm, if_pos rfl]]
    have K7 := Lib.hid (K6.out.keep b)
    have K9' := Lib.hid (K9.out.keep b)
    have B7 := Lib.hid (B6.out.trans (b.mono B6.out.size))
    have HQ := Lib.hid (show peV s = if er = 0 ∧ ok = true ∧ endsT v6 l m = s.data.toList then .tuple #[.agg (enC v6 l m), .int .i64 0] else .tuple #[.agg (enC false z16 0), .int .i64 9] by
      rw [peV, HK.out, show ((k : Int)).toNat = k by omega, HPE.out]
      split <;> split <;> simp_all)
    clear b K6 K9 B6 HK HPE HEN hm hul hw16
    generalize endsT v6 l m = t at *
    by_cases her : er = 0
    · subst her
      cases ok with
      | false =>
        have HR := Lib.hid (show peV s = .tuple #[.agg (enC false z16 0), .int .i64 9] by rw [HQ.out, if_neg (fun h => by cases h.2.1)])
        clear HQ
        go_wp2_with ((with_reducible refine at_store 32 (.tmp 2) (.tmp 54) ?_); refine wpList_store_blk 32 (.tmp 2) (.tmp 54) w.heap.size 32 (enC false z16 0) (enC false z16 0) K7.out (by rfl) (by rfl) (by rfl) (by rfl) (by rw [enC_size _ _ _ (by rfl)]; exact enSize) (by rfl) (by rfl) (by rfl) ?_; intro w9 hk9 hg9 hs9; have V9 := Lib.hid hk9; have G9 := Lib.hid (And.intro hg9 hs9); clear hk9 hg9 hs9)
        exact bodyPost_ret (v := .tuple #[.agg (enC false z16 0), .int .i64 9]) (results_en Tryd.results17 _ _ w.heap.size (enC false z16 0) rfl V9.out (enC_size _ _ _ (by rfl))) rfl ⟨by rw [HR.out], B7.out.grown G9.out.1 B7.out.size (fun k e => by cases e; exact Nat.le_refl _)⟩
      | true =>
        by_cases hts : t = s.data.toList
        · have HR := Lib.hid (show peV s = .tuple #[.agg (enC v6 l m), .int .i64 0] by rw [HQ.out, if_pos ⟨rfl, rfl, hts⟩])
          subst hts
          clear HQ
          go_wp2_with (first | (refine wpList_load_blk 32 (.tmp 9) w4.heap.size 32 (enC v6 l m) _ K9'.out (by rfl) (by rfl) Tryd.underlying32 rfl HSE.out (by rfl) ?_) | ((with_reducible refine at_store 32 (.tmp 2) (.tmp 55) ?_); refine wpList_store_blk 32 (.tmp 2) (.tmp 55) w.heap.size 32 (enC false z16 0) (enC v6 l m) K7.out (by rfl) (by rfl) (by rfl) (by rfl) HSE.out (by rw [enC_size _ _ _ hl]; rfl) HS2.out (by rfl) ?_; intro w9 hk9 hg9 hs9; have V9 := Lib.hid hk9; have G9 := Lib.hid (And.intro hg9 hs9); clear hk9 hg9 hs9))
          exact bodyPost_ret (v := .tuple #[.agg (enC v6 l m), .int .i64 0]) (results_en Tryd.results17 _ _ w.heap.size (enC v6 l m) rfl V9.out (enC_size _ _ _ hl)) rfl ⟨by rw [HR.out], B7.out.grown G9.out.1 B7.out.size (fun k e => by cases e; exact Nat.le_refl _)⟩
        · have hne : ((⟨t.toArray⟩ : ByteArray).toList == s.toList) = false := str_ne (fun e => hts (by rw [← e]))
          have hne2 : (t == s.toList) = false := by
            rw [beq_eq_false_iff_ne]
            intro e
            rw [ByteArray.toList_eq] at e
            exact hts e
          have HR := Lib.hid (show peV s = .tuple #[.agg (enC false z16 0), .int .i64 9] by rw [HQ.out, if_neg (fun h => hts h.2.2)])
          clear HQ
          go_wp2_with ((with_reducible refine at_store 32 (.tmp 2) (.tmp 54) ?_); refine wpList_store_blk 32 (.tmp 2) (.tmp 54) w.heap.size 32 (enC false z16 0) (enC false z16 0) K7.out (by rfl) (by rfl) (by rfl) (by rfl) (by rw [enC_size _ _ _ (by rfl)]; exact enSize) (by rfl) (by rfl) (by rfl) ?_; intro w9 hk9 hg9 hs9; have V9 := Lib.hid hk9; have G9 := Lib.hid (And.intro hg9 hs9); clear hk9 hg9 hs9)
          exact bodyPost_ret (v := .tuple #[.agg (enC false z16 0), .int .i64 9]) (results_en Tryd.results17 _ _ w.heap.size (enC false z16 0) rfl V9.out (enC_size _ _ _ (by rfl))) rfl ⟨by rw [HR.out], B7.out.grown G9.out.1 B7.out.size (fun k e => by cases e; exact Nat.le_refl _)⟩
    · have hnz : (er == 0) = false := by rw [beq_eq_false_iff_ne]; exact her
      have hnz2 : (er != 0) = true := by rw [bne, hnz]; rfl
      have HR := Lib.hid (show peV s = .tuple #[.agg (enC false z16 0), .int .i64 9] by rw [HQ.out, if_neg (fun h => her h.1)])
      clear HQ
      go_wp2_with ((with_reducible refine at_store 32 (.tmp 2) (.tmp 54) ?_); refine wpList_store_blk 32 (.tmp 2) (.tmp 54) w.heap.size 32 (enC false z16 0) (enC false z16 0) K7.out (by rfl) (by rfl) (by rfl) (by rfl) (by rw [enC_size _ _ _ (by rfl)]; exact enSize) (by rfl) (by rfl) (by rfl) ?_; intro w9 hk9 hg9 hs9; have V9 := Lib.hid hk9; have G9 := Lib.hid (And.intro hg9 hs9); clear hk9 hg9 hs9)
      exact bodyPost_ret (v := .tuple #[.agg (enC false z16 0), .int .i64 9]) (results_en Tryd.results17 _ _ w.heap.size (enC false z16 0) rfl V9.out (enC_size _ _ _ (by rfl))) rfl ⟨by rw [HR.out], B7.out.grown G9.out.1 B7.out.size (fun k e => by cases e; exact Nat.le_refl _)⟩
end Go.Proofs.YtgdnckglfhabnaaDoor
