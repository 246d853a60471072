/- flow.ParseKey. -/
import Derived.Test.YtonafonhadocgaaDoorQL
import Derived.Test.YtonafonhadocgaaDoorFlUnhex
namespace Go.Proofs.YtonafonhadocgaaDoor
open Go.RowKit Go.Shelf

theorem lastBlank_any (s : ByteArray) (hs : s.size < 4294967281) (w : World) :
    Calls Tryd.prog 25 #[.string s, .string ⟨#[32]⟩] w fun e w' => e = .returned (.int .i64 (Lib.lastIndexByte s 32)) ∧ w' = w :=
  Any.strings_LastIndex_one lays148 s ⟨#[32]⟩ rfl (by omega) w
/-- What flow.ParseKey returns. -/
def keyPV (l : List UInt8) : Value := match keyP l with
  | some (a, b, x) => .tuple #[.agg (keC a b x), .int .i64 0]
  | none => .tuple #[.agg (keC zE zE 0), .int .i64 9]
theorem keC_size (a b : En) (x : Nat) (ha : a.2.1.length = 16) (hb : b.2.1.length = 16) : (keC a b x).size = 37 := by simp [keC, enL_len _ ha, enL_len _ hb]
theorem keC_one (a b : En) (x : Nat) : (keC a b x).toList.all (·.oneCell') = true := kyC_one ((a, b), x)
theorem keC_set (a b : En) (x y : Nat) (ha : a.2.1.length = 16) (hb : b.2.1.length = 16) : (keC a b x).setIfInBounds 36 (.int .u64 (y : Int)) = keC a b y := by
  have hz : (enL a ++ enL b).length = 36 := by rw [List.length_append, enL_len a ha, enL_len b hb]
  apply Array.toList_inj.1
  rw [Array.toList_setIfInBounds]
  show (enL a ++ enL b ++ [Value.int .u64 (x : Int)]).set 36 _ = enL a ++ enL b ++ [Value.int .u64 (y : Int)]
  rw [← hz, List.set_append_right _ _ (Nat.le_refl _), Nat.sub_self]
  rfl
theorem results_ke {fn : Func} {p t : Tmp} (h : fn.results = #[.cell p 32, .tmp t]) (tmps : Array Value) (w : World) (g : Nat) (cs : Array Value)
    (hp : tmps.getD p undef = .pointer (some ⟨g, 0, none⟩)) (hg : Blk w g 32 cs) (hi : cs.size = 37) :
    (results fn tmps).run Tryd.prog w = .ok (.tuple #[.agg cs, tmps.getD t undef]) w := by
  have hp' : tmps[p]?.getD undef = .pointer (some ⟨g, 0, none⟩) := by simpa using hp
  have hl := run_loadVar_row (P := Tryd.prog) w g 32 32 cs (0, 0) _ hg Tryd.underlying32 rfl (by rw [hi]; exact kySize)
  simp [results, h, hp', asAddr, hl]
theorem built_ke (a b : En) (ha : a.2.1.length = 16) (hb : b.2.1.length = 16) : Tryd.prog.built 32 [(0, .agg (flC a b))] = some (keC a b 0) := by
  obtain ⟨u, l, p⟩ := a
  obtain ⟨v, m, q⟩ := b
  obtain ⟨b0, b1, b2, b3, b4, b5, b6, b7, b8, b9, b10, b11, b12, b13, b14, b15, rfl⟩ := sixteen l ha
  obtain ⟨c0, c1, c2, c3, c4, c5, c6, c7, c8, c9, c10, c11, c12, c13, c14, c15, rfl⟩ := sixteen m hb
  kernel_rfl
theorem built_kz : Tryd.prog.built 32 [] = some (keC zE zE 0) := by kernel_rfl
theorem fp_ways (x : List UInt8) : ∃ (a b : En) (er : Int), a.2.1.length = 16 ∧ b.2.1.length = 16 ∧ flowPV x = .tuple #[.agg (flC a b), .int .i64 er] ∧ ((er = 0 ∧ flowP x = some (a, b)) ∨ (er = 9 ∧ flowP x = none)) := by
  unfold flowPV
  cases h : flowP x with
  | none => exact ⟨zE, zE, 9, rfl, rfl, rfl, .inr ⟨rfl, rfl⟩⟩
  | some y =>
    obtain ⟨_, h1, h2⟩ := flowP_sound (a := y.1) (b := y.2) h
    exact ⟨y.1, y.2, 0, h1.len, h2.len, rfl, .inl ⟨rfl, rfl⟩⟩
theorem fold_step (bs : List UInt8) (k : Nat) (c : UInt8) (h : bs[k]? = some c) : foldB (bs.take (k + 1)) = (foldB (bs.take k) * 256 + c.toNat) % 18446744073709551616 := by
  unfold foldB
  rw [List.take_add_one, h, List.foldl_append]
  rfl
theorem fold_lt (bs : List UInt8) : foldB bs < 18446744073709551616 := by
  have : ∀ (bs : List UInt8) (k : Nat), k < 18446744073709551616 → bs.foldl (fun k c => (k * 256 + c.toNat) % 18446744073709551616) k < 18446744073709551616 := by
    intro bs
    induction bs with
    | nil => exact fun k h => h
    | cons c r ih => exact fun k _ => ih _ (Nat.mod_lt _ (by decide))
  exact this bs 0 (by decide)
theorem or_byte (x c : Nat) (hx : x < 18446744073709551616) (hc : c < 256) : bits BinOp.or IntKind.u64 (IntKind.u64.wrap ((x : Int) * 256)) (c : Int) = (((x * 256 + c) % 18446744073709551616 : Nat) : Int) := by
  have hw : IntKind.u64.wrap ((x : Int) * 256) = (x : Int) * 256 % 18446744073709551616 := by simp [IntKind.wrap, IntKind.bits, IntKind.signed]
  rw [hw, bits_join .u64 64 (by decide) (fun n h1 h2 => by simp [IntKind.wrap, IntKind.bits, IntKind.signed]; omega) 8 _ _ (by omega) (by omega) (by omega) (by omega) (by omega) (by omega)]
  omega

set_option maxRecDepth 100000 in
set_option maxHeartbeats 8000000 in
theorem pkey_any (s : ByteArray) (hs : s.size < 4294967281) (w : World) (env : Env w) :
    Calls Tryd.prog 16 #[.string s] w fun e w' => e = .returned (keyPV s.data.toList) ∧ Below w.heap.size w w' := by
  have HL := Lib.hid (fun W => lastBlank_any s hs W)
  have K0 := Lib.hid (Blk.new w 32 (keC zE zE 0))
  have B0 := Lib.hid ((Below.refl _ w).alloc (Nat.le_refl _) (.cells (keC zE zE 0) 32))
  have E0 := Lib.hid (env.below B0.out)
  have HK := Lib.hid (show keyP s.data.toList = if Lib.lastIndexByte s 32 < 0 then none else
    match flowP (s.data.toList.take (Lib.lastIndexByte s 32).toNat), unhexL (s.data.toList.drop ((Lib.lastIndexByte s 32).toNat + 1)) with
    | some x, some bs => if bs.length = 8 then some (x.1, x.2, foldB bs) else none
    | _, _ => none from rfl)
  have hlt : Lib.lastIndexByte s 32 = -1 ∨ ∃ k : Nat, Lib.lastIndexByte s 32 = k ∧ k < s.size := by
    rcases Lib.lastIndexByte_spec s 32 with ⟨h, _⟩ | ⟨k, h1, h2, _⟩
    · exact .inl h
    · exact .inr ⟨k, h2, h1⟩
  have HBZ := Lib.hid built_kz
  have HYZ := Lib.hid (show (Tryd.prog.info? 32).map (·.size) = some (keC zE zE 0).size from kySize)
  have HZ37 := Lib.hid (show (keC zE zE 0).size = 37 from rfl)
  have HOZ := Lib.hid (keC_one zE zE 0)
  clear env
  go_enter Tryd.func16, Tryd.ntmps16
  go_wp2_with fail
  refine (HL.out _).mono ?_
  rintro e w2 ⟨rfl, rfl⟩
  clear HL
  rcases hlt with hz | ⟨k, hk, hks⟩
  · have HR := Lib.hid (show keyPV s.data.toList = .tuple #[.agg (keC zE zE 0), .int .i64 9] by rw [keyPV, HK.out, hz]; rfl)
    rw [hz]
    clear HK hz
    go_wp2_with (first | ((with_reducible refine at_build 32 #[] ?_); refine wpList_build_eq 32 #[] (keC zE zE 0) (by rfl) HBZ.out (by rfl) ?_) | ((with_reducible refine at_store 32 (.tmp 2) (.tmp 16) ?_); refine wpList_store_blk 32 (.tmp 2) (.tmp 16) w.heap.size 32 (keC zE zE 0) (keC zE zE 0) K0.out (by rfl) (by rfl) (by rfl) (by rfl) HYZ.out (by rfl) HOZ.out (by rfl) ?_; intro w9 hk hg hs; have V9 := Lib.hid hk; have G9 := Lib.hid (And.intro hg hs); clear hk hg hs))
    exact bodyPost_ret (v := .tuple #[.agg (keC zE zE 0), .int .i64 9]) (results_ke Tryd.results16 _ _ w.heap.size (keC zE zE 0) rfl V9.out HZ37.out) rfl ⟨by rw [HR.out], B0.out.grown G9.out.1 B0.out.size (fun k e => by cases e; exact Nat.le_refl _)⟩
  · rw [hk]
    rw [hk, if_neg (by omega), Int.toNat_natCast] at HK
    clear hk
    have hsl : s.data.toList.length = s.size := rfl
    have HP := Lib.hid (fun W (e : Env W) => fparse_any (s.extract 0 k) (by rw [ByteArray.size_extract]; omega) W e)
    have HU := Lib.hid (fun W => unhex_any (s.extract (k + 1) s.size) (by rw [ByteArray.size_extract]; omega) W)
    rw [Lib.extract_from_zero] at HP
    rw [Lib.extract_to_end] at HU
    obtain ⟨a, b, er, la, lb, hpv, HWA⟩ := fp_ways (s.data.toList.take k)
    rw [hpv] at HP
    have WA := Lib.hid HWA
    clear HWA hpv
    have HFS := Lib.hid (show (Tryd.prog.info? 29).map (·.size) = some (flC a b).size by rw [flC_size _ _ la lb]; exact flSize)
    have HFZ := Lib.hid (show (flC zE zE).size = (flC a b).size by rw [flC_size _ _ la lb]; rfl)
    have HFO := Lib.hid (flC_one a b)
    have HBK := Lib.hid (built_ke a b la lb)
    have HKS := fun x => (show (Tryd.prog.info? 32).map (·.size) = some (keC a b x).size by rw [keC_size _ _ _ la lb]; exact kySize)
    have HKZ := fun x => (show (keC zE zE 0).size = (keC a b x).size by rw [keC_size _ _ _ la lb]; rfl)
    have HKO := fun x => keC_one a b x
    have HKN := fun x => keC_size a b x la lb
    have HKX := fun x => keC_xmit a b x la lb
    have HST := fun x y => keC_set a b x y la lb
    have HKA := Lib.hid (And.intro HKS (And.intro HKZ (And.intro HKO (And.intro HKN (And.intro HKX HST)))))
    clear HKS HKZ HKO HKN HKX HST la lb
    go_wp2_with fail
    refine (HP.out _ E0.out).mono ?_
    rintro e w3 ⟨rfl, b3⟩
    have B3 := Lib.hid (B0.out.trans (b3.mono B0.out.size))
    have K3 := Lib.hid (K0.out.keep b3)
    clear b3 E0 K0 B0 HP
    go_upto_region 5 with ((with_reducible refine at_store 29 (.tmp 5) (.tmp 22) ?_); refine wpList_store_blk 29 (.tmp 5) (.tmp 22) w3.heap.size 29 (flC zE zE) (flC a b) (Blk.new w3 29 (flC zE zE)) (by rfl) (by rfl) (by rfl) (by rfl) HFS.out HFZ.out HFO.out (by rfl) ?_; intro w4 hk hg hs; have KF := Lib.hid hk; have B4 := Lib.hid (print_world B3.out B3.out.size hg); have K4 := Lib.hid ((K3.out.alloc _).grown hg (fun e => by have := Option.some.inj e; have := K3.out.lt; omega)); clear hk hg hs)
    clear B3 K3
    go_wp2_with fail
    refine (HU.out _).mono ?_
    rintro e w5 ⟨b5, h5⟩
    have B5 := Lib.hid (B4.out.trans (b5.mono B4.out.size))
    have K5 := Lib.hid (K4.out.keep b5)
    have KF5 := Lib.hid (KF.out.keep b5)
    clear b5 B4 K4 KF HU
    have hno : (keyP s.data.toList = none) → keyPV s.data.toList = .tuple #[.agg (keC zE zE 0), .int .i64 9] := fun h => by rw [keyPV, h]
    rcases WA.out with ⟨rfl, ea⟩ | ⟨rfl, ea⟩
    rotate_left
    · have HR := Lib.hid (hno (by rw [HK.out, ea]))
      clear WA ea hno HK HKA
      rcases h5 with ⟨_, rfl⟩ | ⟨bs, A, c, _, rfl, _⟩
      · go_wp2_with (first | ((with_reducible refine at_build 32 #[] ?_); refine wpList_build_eq 32 #[] (keC zE zE 0) (by rfl) HBZ.out (by rfl) ?_) | ((with_reducible refine at_store 32 (.tmp 2) (.tmp 43) ?_); refine wpList_store_blk 32 (.tmp 2) (.tmp 43) w.heap.size 32 (keC zE zE 0) (keC zE zE 0) K5.out (by rfl) (by rfl) (by rfl) (by rfl) HYZ.out (by rfl) HOZ.out (by rfl) ?_; intro w9 hk hg hs; have V9 := Lib.hid hk; have G9 := Lib.hid (And.intro hg hs); clear hk hg hs))
        exact bodyPost_ret (v := .tuple #[.agg (keC zE zE 0), .int .i64 9]) (results_ke Tryd.results16 _ _ w.heap.size (keC zE zE 0) rfl V9.out HZ37.out) rfl ⟨by rw [HR.out], B5.out.grown G9.out.1 B5.out.size (fun k e => by cases e; exact Nat.le_refl _)⟩
      · go_wp2_with (first | ((with_reducible refine at_build 32 #[] ?_); refine wpList_build_eq 32 #[] (keC zE zE 0) (by rfl) HBZ.out (by rfl) ?_) | ((with_reducible refine at_store 32 (.tmp 2) (.tmp 43) ?_); refine wpList_store_blk 32 (.tmp 2) (.tmp 43) w.heap.size 32 (keC zE zE 0) (keC zE zE 0) K5.out (by rfl) (by rfl) (by rfl) (by rfl) HYZ.out (by rfl) HOZ.out (by rfl) ?_; intro w9 hk hg hs; have V9 := Lib.hid hk; have G9 := Lib.hid (And.intro hg hs); clear hk hg hs))
        exact bodyPost_ret (v := .tuple #[.agg (keC zE zE 0), .int .i64 9]) (results_ke Tryd.results16 _ _ w.heap.size (keC zE zE 0) rfl V9.out HZ37.out) rfl ⟨by rw [HR.out], B5.out.grown G9.out.1 B5.out.size (fun k e => by cases e; exact Nat.le_refl _)⟩
    · rcases h5 with ⟨hun, rfl⟩ | ⟨bs, A, c, hun, rfl, hrd⟩
      · have HR := Lib.hid (hno (by rw [HK.out, ea, hun]))
        clear WA ea hno HK HKA hun
        go_wp2_with (first | ((with_reducible refine at_build 32 #[] ?_); refine wpList_build_eq 32 #[] (keC zE zE 0) (by rfl) HBZ.out (by rfl) ?_) | ((with_reducible refine at_store 32 (.tmp 2) (.tmp 43) ?_); refine wpList_store_blk 32 (.tmp 2) (.tmp 43) w.heap.size 32 (keC zE zE 0) (keC zE zE 0) K5.out (by rfl) (by rfl) (by rfl) (by rfl) HYZ.out (by rfl) HOZ.out (by rfl) ?_; intro w9 hk hg hs; have V9 := Lib.hid hk; have G9 := Lib.hid (And.intro hg hs); clear hk hg hs))
        exact bodyPost_ret (v := .tuple #[.agg (keC zE zE 0), .int .i64 9]) (results_ke Tryd.results16 _ _ w.heap.size (keC zE zE 0) rfl V9.out HZ37.out) rfl ⟨by rw [HR.out], B5.out.grown G9.out.1 B5.out.size (fun k e => by cases e; exact Nat.le_refl _)⟩
      · by_cases h8 : bs.length = 8
        · have HR := Lib.hid (show keyPV s.data.toList = .tuple #[.agg (keC a b (foldB bs)), .int .i64 0] by
            have e : keyP s.data.toList = some (a, b, foldB bs) := by rw [HK.out, ea, hun]; exact if_pos h8
            rw [keyPV, e])
          clear WA ea hno HK hun
          rw [h8] at hrd ⊢
          obtain ⟨HKS, HKZ, HKO, HKN, HKX, HST⟩ := HKA.out
          have HS0 := Lib.hid (HKS 0)
          have HZ0 := Lib.hid (HKZ 0)
          have HO0 := Lib.hid (HKO 0)
          clear HKS HKZ HKO HKN HKX HST
          go_upto_region 9 with (first | ((with_reducible refine at_build 32 #[(0, .tmp 44)] ?_); refine wpList_build_eq 32 #[(0, .tmp 44)] (keC a b 0) (by rfl) HBK.out (by rfl) ?_) | (refine wpList_load_blk 29 (.tmp 5) w3.heap.size 29 (flC a b) _ KF5.out (by rfl) (by rfl) Tryd.underlying29 rfl HFS.out (by rfl) ?_) | ((with_reducible refine at_store 32 (.tmp 9) (.tmp 45) ?_); refine wpList_store_blk 32 (.tmp 9) (.tmp 45) w5.heap.size 32 (keC zE zE 0) (keC a b 0) (Blk.new w5 32 (keC zE zE 0)) (by rfl) (by rfl) (by rfl) (by rfl) HS0.out HZ0.out HO0.out (by rfl) ?_; intro w6 hk hg hs; have I6 := Lib.hid (And.intro (print_world (Below.refl _ w5) (Nat.le_refl _) hg) hk); clear hk hg hs))
          clear HBZ HYZ HZ37 HOZ HBK HFS HFZ HFO KF5 HS0 HZ0 HO0
          have HRD := Lib.hid hrd
          clear hrd
          go_wp2_with fail
          go_loopw [48] (fun i wr => ∃ j : Nat, j ≤ 8 ∧ i = .int .i64 j ∧ Hid (Below w5.heap.size w5 wr ∧ Blk wr w5.heap.size 32 (keC a b (foldB (bs.take j))))) (fun i _ => 8 - (intOf i).toNat)
          case atStart => exact ⟨0, by omega, rfl, I6⟩
          case round =>
            clear I6
            obtain ⟨j, hj, rfl, I⟩ := hrel
            obtain ⟨_, _, _, HKN, HKX, HST⟩ := HKA.out
            by_cases hlt : j < 8
            · obtain ⟨x, hx⟩ : ∃ x, bs[j]? = some x := ⟨bs[j]'(by omega), List.getElem?_eq_getElem (by omega)⟩
              have HFO := Lib.hid (fold_step bs j x hx)
              obtain ⟨bb, off, rfl, hbl, hrow⟩ := (HRD.out.below I.out.1).at_ (by omega)
              have qx := hrow j hlt
              rw [hx] at qx
              simp only [Option.getD_some] at qx
              obtain ⟨y, hy⟩ : ∃ y, y = foldB (bs.take j) := ⟨_, rfl⟩
              have hyl := fold_lt (bs.take j)
              rw [← hy] at HFO hyl I
              have q36 := (I.out.2.cell 36).trans (HKX y)
              have f36 := I.out.2.frozen 36
              have hxl := x.toNat_lt
              have hor := or_byte y x.toNat hyl (by omega)
              have HN1 := Lib.hid (HST y ((y * 256 + x.toNat) % 18446744073709551616))
              have HI := Lib.hid (And.intro (I.out.1.setCell (p := ⟨w5.heap.size, 36, none⟩) (Nat.le_refl _) (.int .u64 ((((y * 256 + x.toNat) % 18446744073709551616 : Nat)) : Int))) (I.out.2.set_ 36 (.int .u64 ((((y * 256 + x.toNat) % 18446744073709551616 : Nat)) : Int))))
              generalize (y * 256 + x.toNat) % 18446744073709551616 = z at *
              clear hx hy hrow HST HKX HKN I hyl
              go_wp2_with fail
              go_roundw
              case rel => exact ⟨j + 1, by omega, by go_num, by rw [HFO.out, ← HN1.out]; exact HI⟩
              case measure => simp [intOf]; omega
            · obtain rfl : j = 8 := by omega
              have HT := Lib.hid (show bs.take 8 = bs from List.take_of_length_le (by omega))
              rw [HT.out] at I
              have H37 := Lib.hid (HKN (foldB bs))
              have HSF := Lib.hid (HKA.out.1 (foldB bs))
              have HZF := Lib.hid (HKA.out.2.1 (foldB bs))
              have HOF := Lib.hid (HKA.out.2.2.1 (foldB bs))
              have KR := Lib.hid (K5.out.keep I.out.1)
              have BR := Lib.hid (B5.out.trans (I.out.1.mono B5.out.size))
              have KK := Lib.hid I.out.2
              generalize foldB bs = z at *
              clear HKX HST HKN I
              go_wp2_with (first | (refine wpList_load_blk 32 (.tmp 9) w5.heap.size 32 (keC a b z) _ KK.out (by rfl) (by rfl) Tryd.underlying32 rfl HSF.out (by rfl) ?_) | ((with_reducible refine at_store 32 (.tmp 2) (.tmp 60) ?_); refine wpList_store_blk 32 (.tmp 2) (.tmp 60) w.heap.size 32 (keC zE zE 0) (keC a b z) KR.out (by rfl) (by rfl) (by rfl) (by rfl) HSF.out HZF.out HOF.out (by rfl) ?_; intro w9 hk hg hs; have V9 := Lib.hid hk; have G9 := Lib.hid (And.intro hg hs); clear hk hg hs))
              exact bodyPost_ret (v := .tuple #[.agg (keC a b z), .int .i64 0]) (results_ke Tryd.results16 _ _ w.heap.size (keC a b z) rfl V9.out H37.out) rfl ⟨by rw [HR.out], BR.out.grown G9.out.1 BR.out.size (fun k e => by cases e; exact Nat.le_refl _)⟩
        · have HR := Lib.hid (hno (by rw [HK.out, ea, hun]; exact if_neg h8))
          have h8' : ¬ ((bs.length : Int) = 8) := by omega
          clear WA ea hno HK HKA hun h8
          go_wp2_with (first | ((with_reducible refine at_build 32 #[] ?_); refine wpList_build_eq 32 #[] (keC zE zE 0) (by rfl) HBZ.out (by rfl) ?_) | ((with_reducible refine at_store 32 (.tmp 2) (.tmp 43) ?_); refine wpList_store_blk 32 (.tmp 2) (.tmp 43) w.heap.size 32 (keC zE zE 0) (keC zE zE 0) K5.out (by rfl) (by rfl) (by rfl) (by rfl) HYZ.out (by rfl) HOZ.out (by rfl) ?_; intro w9 hk hg hs; have V9 := Lib.hid hk; have G9 := Lib.hid (And.intro hg hs); clear hk hg hs))
          exact bodyPost_ret (v := .tuple #[.agg (keC zE zE 0), .int .i64 9]) (results_ke Tryd.results16 _ _ w.heap.size (keC zE zE 0) rfl V9.out HZ37.out) rfl ⟨by rw [HR.out], B5.out.grown G9.out.1 B5.out.size (fun k e => by cases e; exact Nat.le_refl _)⟩
end Go.Proofs.YtonafonhadocgaaDoor
