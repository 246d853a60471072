/- Laws and walks that the claim's last text leans on, joined: each part says above itself what it proves. -/
import Derived.Test.YtonafonhadocgaaDoorQD
import Derived.Test.YtonafonhadocgaaDoorQE
import Derived.Deep.RegionLaw

/- addr.Parse. -/
namespace Go.Proofs.YtonafonhadocgaaDoor
open Go.RowKit Go.Shelf

/-- An address's cells. -/
def adC (v6 : Bool) (l : List UInt8) : Array Value := (Value.bool v6 :: bv l).toArray
def z16 : List UInt8 := List.replicate 16 0
theorem adC_size (v6 : Bool) (l : List UInt8) (h : l.length = 16) : (adC v6 l).size = 17 := by simp [adC, bv_length, h]
theorem adSize : (Tryd.prog.info? 24).map (·.size) = some 17 := by kernel_rfl
theorem z16_lit : adC false z16 = #[.bool false, .int .u8 0, .int .u8 0, .int .u8 0, .int .u8 0, .int .u8 0, .int .u8 0, .int .u8 0, .int .u8 0, .int .u8 0, .int .u8 0, .int .u8 0, .int .u8 0, .int .u8 0, .int .u8 0, .int .u8 0, .int .u8 0] := rfl

/-- strings.Cut at the two colons. -/
def cutL (l : List UInt8) : List UInt8 × List UInt8 × Bool := Lib.cut l [58, 58]
theorem cut_any (s : ByteArray) (hs : s.size < 4294967281) (w : World) (env : Env w) :
    Calls Tryd.prog 27 #[.string s, .string ⟨#[58, 58]⟩] w fun e w' => e = .returned (.tuple #[.string ⟨(cutL s.data.toList).1.toArray⟩, .string ⟨(cutL s.data.toList).2.1.toArray⟩, .bool (cutL s.data.toList).2.2]) ∧ ∃ n, w' = w.drewN n := by
  obtain ⟨m, hm⟩ := env.max
  exact Any.strings_Cut { lays145 with } s ⟨#[58, 58]⟩ m w hs hm

/-- The bytes of groups. -/
def flat : List Nat → List UInt8
  | [] => []
  | n :: r => UInt8.ofNat (n / 256) :: UInt8.ofNat (n % 256) :: flat r
/-- The address of a writing. -/
def parseA (l : List UInt8) : Option (Bool × List UInt8) :=
  match f4 (mkB l) with
  | some b => some (false, b ++ List.replicate 12 0)
  | none =>
    match someG (mkB (cutL l).1) (!(cutL l).2.2), someG (mkB (cutL l).2.1) true with
    | some g, some h =>
      if ((cutL l).2.2 && decide (8 ≤ g.length + h.length)) || (!(cutL l).2.2 && decide (g.length + h.length ≠ 8)) then none
      else some (true, flat (g ++ List.replicate (8 - (g.length + h.length)) 0 ++ h))
    | _, _ => none
/-- What addr.Parse returns. -/
def parseV (l : List UInt8) : Value := match parseA l with
  | some (v6, b) => .tuple #[.agg (adC v6 b), .int .i64 0]
  | none => .tuple #[.agg (adC false z16), .int .i64 9]

theorem u8_one : (Tryd.prog.info? 5).map (·.size) = some 1 := by kernel_rfl
theorem copy_src {w : World} {g : Nat} {b0 b1 b2 b3 : UInt8} (h : Blk w g 107 #[.int .u8 b0.toNat, .int .u8 b1.toNat, .int .u8 b2.toNat, .int .u8 b3.toNat]) (j : Nat) (v : Value) (hj : (bv [b0, b1, b2, b3])[j]? = some v) : w.cell? ((⟨g, 0, none⟩ : Addr).add j) = some v := by
  rw [Addr.add_lit, h.cell, ← hj, Nat.zero_add]
  simp [bv]
theorem results_ad {fn : Func} {p t : Tmp} (h : fn.results = #[.cell p 24, .tmp t]) (tmps : Array Value) (w : World) (g : Nat) (cs : Array Value)
    (hp : tmps.getD p undef = .pointer (some ⟨g, 0, none⟩)) (hg : Blk w g 24 cs) (hi : cs.size = 17) :
    (results fn tmps).run Tryd.prog w = .ok (.tuple #[.agg cs, tmps.getD t undef]) w := by
  have hp' : tmps[p]?.getD undef = .pointer (some ⟨g, 0, none⟩) := by simpa using hp
  have hl := run_loadVar_row (P := Tryd.prog) w g 24 24 cs (0, 0) _ hg Tryd.underlying24 rfl (by rw [hi]; exact adSize)
  simp [results, h, hp', asAddr, hl]

theorem flat_len (l : List Nat) : (flat l).length = 2 * l.length := by
  induction l with
  | nil => rfl
  | cons n r ih => simp [flat, ih]; omega
theorem flat_append (l m : List Nat) : flat (l ++ m) = flat l ++ flat m := by
  induction l with
  | nil => rfl
  | cons n r ih => simp [flat, ih]
/-- The bytes of the first groups, noughts behind. -/
def fillA (gs : List Nat) (k : Nat) : List UInt8 := flat (gs.take k) ++ List.replicate (16 - 2 * k) 0
theorem fillA_len (gs : List Nat) (hg : gs.length = 8) (k : Nat) (hk : k ≤ 8) : (fillA gs k).length = 16 := by
  simp [fillA, flat_len, hg]; omega
theorem fillA_step (gs : List Nat) (hg : gs.length = 8) (k : Nat) (hk : k < 8) : ((fillA gs k).set (2 * k) (UInt8.ofNat (gs[k] / 256))).set (2 * k + 1) (UInt8.ofNat (gs[k] % 256)) = fillA gs (k + 1) := by
  have ht : gs.take (k + 1) = gs.take k ++ [gs[k]] := by rw [List.take_succ_eq_append_getElem (by omega)]
  have hl : (flat (gs.take k)).length = 2 * k := by rw [flat_len, List.length_take]; omega
  have hr : List.replicate (16 - 2 * k) (0 : UInt8) = 0 :: 0 :: List.replicate (16 - 2 * (k + 1)) 0 := by
    rw [show 16 - 2 * k = (16 - 2 * (k + 1)) + 1 + 1 by omega, List.replicate_succ, List.replicate_succ]
  rw [fillA, fillA, ht, flat_append, hr]
  rw [List.set_append_right _ _ (by omega), hl, show 2 * k - 2 * k = 0 by omega, List.set_cons_zero]
  rw [List.set_append_right _ _ (by omega), hl, show 2 * k + 1 - 2 * k = 1 by omega, List.set_cons_succ, List.set_cons_zero]
  simp [flat]
theorem adC_set (v6 : Bool) (l : List UInt8) (j : Nat) (u : UInt8) : (adC v6 l).setIfInBounds (1 + j) (.int .u8 (u.toNat : Int)) = adC v6 (l.set j u) := by
  apply Array.ext'
  simp [adC, bv, List.map_set, Nat.add_comm 1 j]
theorem adC_get (v6 : Bool) (l : List UInt8) (j : Nat) (h : j < l.length) : (adC v6 l)[1 + j]? = some (.int .u8 ((l[j]?.getD 0).toNat : Int)) := by
  simp [adC, bv, Nat.add_comm 1 j, h]

theorem someA_len (last : Bool) (ps : List ByteArray) : ∀ (acc gs : List Nat), someA last acc ps = some gs → gs.length ≤ acc.length + 2 * ps.length := by
  induction ps with
  | nil => intro acc gs h; simp [someA] at h; subst h; omega
  | cons x r ih =>
    intro acc gs h
    unfold someA at h
    split at h
    · rename_i hc
      have hs : (f4 x).isSome = true := by simp only [Bool.and_eq_true] at hc; exact hc.2
      obtain ⟨l, hl⟩ := Option.isSome_iff_exists.1 hs
      obtain ⟨a, b, c, d, rfl⟩ := two_len hl
      rw [hl] at h
      simp [two] at h
      subst h
      simp; omega
    · split at h
      · have := ih _ _ h
        simp at this ⊢
        omega
      · cases h
theorem someG_len {s : ByteArray} {last : Bool} {gs : List Nat} (h : someG s last = some gs) : gs.length ≤ 2 * s.size + 2 := by
  unfold someG at h
  split at h
  · injection h with h; subst h; simp
  · have h1 := someA_len last _ _ _ h
    have h2 := parts_len 58 s
    simp at h1
    omega
theorem grpN_lt {x : ByteArray} (h : grpB x = true) : grpN x < 65536 := by
  simp only [grpB, Bool.and_eq_true, decide_eq_true_eq, List.all_eq_true] at h
  obtain ⟨n, hn, hl⟩ := phex_small x.data.toList 0 0 (by omega) (by have : x.data.toList.length = x.size := rfl; omega) h.1.1
  rw [grpN, hn]
  exact hl
theorem someA_lt (last : Bool) (ps : List ByteArray) : ∀ (acc gs : List Nat), (∀ n ∈ acc, n < 65536) → someA last acc ps = some gs → ∀ n ∈ gs, n < 65536 := by
  induction ps with
  | nil => intro acc gs ha h; simp [someA] at h; subst h; exact ha
  | cons x r ih =>
    intro acc gs ha h
    unfold someA at h
    split at h
    · rename_i hc
      have hs : (f4 x).isSome = true := by simp only [Bool.and_eq_true] at hc; exact hc.2
      obtain ⟨l, hl⟩ := Option.isSome_iff_exists.1 hs
      obtain ⟨a, b, c, d, rfl⟩ := two_len hl
      rw [hl] at h
      simp [two] at h
      subst h
      intro n hn
      have h1 := a.toNat_lt; have h2 := b.toNat_lt; have h3 := c.toNat_lt; have h4 := d.toNat_lt
      rcases List.mem_append.1 hn with hn | hn
      · exact ha n hn
      · simp at hn
        omega
    · split at h
      · rename_i hg
        refine ih _ _ (fun n hn => ?_) h
        rcases List.mem_append.1 hn with hn | hn
        · exact ha n hn
        · rw [List.mem_singleton.1 hn]; exact grpN_lt hg
      · cases h
theorem someG_lt {s : ByteArray} {last : Bool} {gs : List Nat} (h : someG s last = some gs) : ∀ n ∈ gs, n < 65536 := by
  unfold someG at h
  split at h
  · injection h with h; subst h; intro n hn; cases hn
  · exact someA_lt last _ [] gs (fun n hn => by cases hn) h
/-- addr.some's end, its slice written out. -/
theorem SomeEnd.open_ {s : ByteArray} {last : Bool} {base : Nat} {e : Ending} {w' : World} (h : SomeEnd s last base e w') :
    ∃ (A : Option Addr) (n c : Nat) (ok : Bool), e = .returned (.tuple #[.slice A n c, .bool ok]) ∧ n ≤ 2 * s.size + 2 ∧
      ((ok = true ∧ ∃ gs, someG s last = some gs ∧ n = gs.length ∧ OwnV 25 w' base (.slice A n c) (uv gs)) ∨ (ok = false ∧ someG s last = none)) := by
  unfold SomeEnd at h
  split at h
  · rename_i gs hg
    obtain ⟨v, rfl, ho⟩ := h
    obtain ⟨A, c, rfl, hr, _⟩ := ho.form
    have hl := someG_len hg
    rw [uv_len] at hr
    exact ⟨A, (uv gs).length, c, true, rfl, by rw [uv_len]; exact hl, .inl ⟨rfl, gs, hg, uv_len gs, ho⟩⟩
  · rename_i hg
    exact ⟨none, 0, 0, false, h, by omega, .inr ⟨rfl, hg⟩⟩
theorem OwnV.cellAt {T : TypeId} {w : World} {base g n c : Nat} {xs : List Value} (h : OwnV T w base (.slice (some ⟨g, 0, none⟩) n c) xs) (k : Nat) (hk : k < n) : w.cell? ⟨g, k, none⟩ = xs[k]? := by
  obtain ⟨A, c', hv, hr, _⟩ := h.form
  injection hv with h1 h2 h3
  subst h1; subst h2
  obtain ⟨b, off, e, _, hc⟩ := hr.at_ (by omega)
  injection e with e
  injection e with e1 e2
  subst e1; subst e2
  simpa using hc k hk
theorem OwnV.set_ {T : TypeId} {w : World} {base : Nat} {v : Value} {xs : List Value} (h : OwnV T w base v xs) {a : Addr} (ha : a.block < base) (u : Value) : OwnV T (w.setCell a u) base v xs := ownsRow_setCell_below h ha u
theorem adC_one (v6 : Bool) (l : List UInt8) : (adC v6 l).toList.all (·.oneCell') = true := by
  simp [adC, bv, Value.oneCell']
theorem or_no {P Q : Prop} (h : (false = true ∧ P) ∨ (false = false ∧ Q)) : Q := h.elim (fun h => by cases h.1) (fun h => h.2)
theorem OwnV.rdv {T : TypeId} {w : World} {base n c : Nat} {A : Option Addr} {xs : List Value} (h : OwnV T w base (.slice A n c) xs) : RdV w A n c xs := by
  obtain ⟨A', c', hv, hr, _⟩ := h.form
  injection hv with h1 h2 h3
  subst h1; subst h2; subst h3
  exact hr
theorem apart_own {T : TypeId} {w : World} {v v2 : Value} {b : Nat} {xs : List Value} (h : ∀ g, v.ownBlock = some g → g < b) (h2 : OwnV T w b v2 xs) : ∀ g, v2.ownBlock = some g → some g ≠ v.ownBlock := fun g hg e => by
  have h3 := (h2.blk_lt hg).1
  have h4 := h g e.symm
  omega
theorem own_at {T : TypeId} {w : World} {base n : Nat} {v : Value} {xs : List Value} (h : OwnV T w base v xs) (hl : xs.length = n) (hn : 0 < n) : ∃ g c, v = .slice (some ⟨g, 0, none⟩) n c ∧ base ≤ g := by
  obtain ⟨A, c, rfl, hr, ha⟩ := h.form
  rcases ha with rfl | ⟨g, rfl, hb, _⟩
  · obtain ⟨b, off, e, _⟩ := hr.at_ (by omega)
    cases e
  · exact ⟨g, c, by rw [hl], hb⟩
theorem uv_all (ga gb : List Nat) (n : Nat) : uv ga ++ List.replicate n (Value.int .u16 0) ++ uv gb = uv (ga ++ List.replicate n 0 ++ gb) := by
  simp [uv]
theorem cut_len (l : List UInt8) : (cutL l).1.length ≤ l.length ∧ (cutL l).2.1.length ≤ l.length := by
  unfold cutL Lib.cut
  split
  · exact ⟨by rw [List.length_take]; omega, by simp⟩
  · simp
theorem parse_no1 {l : List UInt8} (hf : f4 (mkB l) = none) (h : someG (mkB (cutL l).1) (!(cutL l).2.2) = none) : parseV l = .tuple #[.agg (adC false z16), .int .i64 9] := by
  rw [parseV, parseA, hf]
  simp only [h]
theorem parse_no2 {l : List UInt8} {g : List Nat} (hf : f4 (mkB l) = none) (h : someG (mkB (cutL l).1) (!(cutL l).2.2) = some g) (h2 : someG (mkB (cutL l).2.1) true = none) : parseV l = .tuple #[.agg (adC false z16), .int .i64 9] := by
  rw [parseV, parseA, hf]
  simp only [h, h2]
theorem parse_no3 {l : List UInt8} {g h : List Nat} (hf : f4 (mkB l) = none) (h1 : someG (mkB (cutL l).1) (!(cutL l).2.2) = some g) (h2 : someG (mkB (cutL l).2.1) true = some h)
    (hc : (((cutL l).2.2 && decide (8 ≤ g.length + h.length)) || (!(cutL l).2.2 && decide (g.length + h.length ≠ 8))) = true) : parseV l = .tuple #[.agg (adC false z16), .int .i64 9] := by
  rw [parseV, parseA, hf]
  simp only [h1, h2, if_pos hc]
theorem parse_yes {l : List UInt8} {g h : List Nat} (hf : f4 (mkB l) = none) (h1 : someG (mkB (cutL l).1) (!(cutL l).2.2) = some g) (h2 : someG (mkB (cutL l).2.1) true = some h)
    (hc : ¬ (((cutL l).2.2 && decide (8 ≤ g.length + h.length)) || (!(cutL l).2.2 && decide (g.length + h.length ≠ 8))) = true) : parseV l = .tuple #[.agg (adC true (flat (g ++ List.replicate (8 - (g.length + h.length)) 0 ++ h))), .int .i64 0] := by
  rw [parseV, parseA, hf]
  simp only [h1, h2, if_neg hc]

set_option maxRecDepth 100000 in
set_option maxHeartbeats 16000000 in
theorem parse_any (s : ByteArray) (hs : s.size < 4294967281) (w : World) (env : Env w) :
    Calls Tryd.prog 41 #[.string s] w fun e w' => e = .returned (parseV s.data.toList) ∧ Below w.heap.size w w' := by
  have E := Lib.hid env
  clear env
  have HU := Lib.hid (fun W (e : Env W) => unfour_any s hs W e)
  have HC := Lib.hid (fun W (e : Env W) => cut_any s hs W e)
  go_enter Tryd.func41, Tryd.ntmps41
  go_wp2_with fail
  refine (HU.out _ ((E.out.alloc _).alloc _)).mono ?_
  rintro e w2 ⟨⟨v0, v1, v2, v3, rfl, hv⟩, b⟩
  have HV := Lib.hid hv
  have K2 := Lib.hid (((Blk.new w 24 (adC false z16)).alloc (.cells (adC false z16) 24)).keep b)
  have K4 := Lib.hid ((Blk.new (w.alloc (.cells (adC false z16) 24)) 24 (adC false z16)).keep b)
  have B2 := Lib.hid ((((Below.refl _ w).alloc (Nat.le_refl _) (.cells (adC false z16) 24)).alloc (by simp) (.cells (adC false z16) 24)).trans (b.mono (by simp; omega)))
  simp only [World.size_alloc] at K4
  clear b hv HU
  cases hf : f4 s with
  | some l =>
    have HF := Lib.hid hf
    rw [hf] at HV
    clear hf
    obtain ⟨b0, b1, b2, b3, hl, rfl, rfl, rfl, rfl⟩ := HV.out l rfl
    have HR := Lib.hid (show parseV s.data.toList = .tuple #[.agg (adC false (l ++ List.replicate 12 0)), .int .i64 0] by
      rw [parseV, parseA, mkB_of, HF.out])
    rw [hl] at HR
    clear HV HF hl
    go_upto_region 4 with fail
    have K2a := Lib.hid (K2.out.alloc (.cells #[.int .u8 b0.toNat, .int .u8 b1.toNat, .int .u8 b2.toNat, .int .u8 b3.toNat] 107))
    have K4a := Lib.hid (K4.out.alloc (.cells #[.int .u8 b0.toNat, .int .u8 b1.toNat, .int .u8 b2.toNat, .int .u8 b3.toNat] 107))
    have K5a := Lib.hid (Blk.new w2 107 #[.int .u8 b0.toNat, .int .u8 b1.toNat, .int .u8 b2.toNat, .int .u8 b3.toNat])
    have B2a := Lib.hid (B2.out.alloc B2.out.size (.cells #[.int .u8 b0.toNat, .int .u8 b1.toNat, .int .u8 b2.toNat, .int .u8 b3.toNat] 107))
    generalize w2.alloc (.cells #[.int .u8 b0.toNat, .int .u8 b1.toNat, .int .u8 b2.toNat, .int .u8 b3.toNat] 107) = w3 at *
    generalize w2.heap.size = g5 at *
    clear K2 K4 B2
    go_region_law (refine step_copy_splice (by rfl) (.tmp 25) (.tmp 26) 57 57 (by rfl) 5 Tryd.underlying57 u8_one _ _ _ _ _ _ (by rfl) (by rfl) (w.heap.size + 1) 1 (Value.bool false :: bv z16) 24 K4a.out (bv [b0, b1, b2, b3]) (by rfl) (fun _ => ⟨rfl, _, rfl, fun j v hj => copy_src K5a.out j v hj⟩) (by show 1 + 4 ≤ 17; omega) (bv_one _) (w.heap.size + 1) _ (Below.refl _ _) (Nat.le_refl _) ?_; intro w4 hg4 hb4; have G4 := Lib.hid (And.intro hg4.out hb4); clear hg4 hb4)
    have K4b := Lib.hid (show Blk w4 (w.heap.size + 1) 24 (adC false ([b0, b1, b2, b3] ++ List.replicate 12 0)) from G4.out.1)
    have K2b := Lib.hid (show Blk w4 w.heap.size 24 (adC false z16) from K2a.out.drew.below G4.out.2 (show w.heap.size < w.heap.size + 1 by omega))
    have B2b := Lib.hid ((below_drew B2a.out).trans (G4.out.2.mono (show w.heap.size ≤ w.heap.size + 1 by omega)))
    clear G4 K2a K4a K5a B2a
    go_wp2_with (first | (refine wpList_load_blk 24 (.tmp 4) (w.heap.size + 1) 24 (adC false ([b0, b1, b2, b3] ++ List.replicate 12 0)) _ K4b.out (by rfl) (by rfl) Tryd.underlying24 rfl (by rw [adC_size _ _ (by rfl)]; exact adSize) (by rfl) ?_) | ((with_reducible refine at_store 24 (.tmp 2) (.tmp 28) ?_); refine wpList_store_blk 24 (.tmp 2) (.tmp 28) w.heap.size 24 (adC false z16) (adC false ([b0, b1, b2, b3] ++ List.replicate 12 0)) K2b.out (by rfl) (by rfl) (by rfl) (by rfl) (by rw [adC_size _ _ (by rfl)]; exact adSize) (by rfl) (by rfl) (by rfl) ?_; intro w5 hk5 hg5 hs5; have V5 := Lib.hid hk5; have G5 := Lib.hid (And.intro hg5 hs5); clear hk5 hg5 hs5))
    exact bodyPost_ret (v := .tuple #[.agg (adC false ([b0, b1, b2, b3] ++ List.replicate 12 0)), .int .i64 0]) (results_ad Tryd.results41 _ _ w.heap.size (adC false ([b0, b1, b2, b3] ++ List.replicate 12 0)) rfl V5.out (adC_size _ _ (by rfl))) rfl ⟨by rw [HR.out], B2b.out.grown G5.out.1 B2b.out.size (fun k e => by cases e; exact Nat.le_refl _)⟩
  | none =>
    have HF := Lib.hid (show f4 (mkB s.data.toList) = none by rw [mkB_of]; exact hf)
    clear hf HV
    have hcl := cut_len s.data.toList
    have hsl : s.data.toList.length = s.size := rfl
    obtain ⟨c, hc⟩ : ∃ c, c = (cutL s.data.toList).2.2 := ⟨_, rfl⟩
    obtain ⟨sa, hsa⟩ : ∃ sa, sa = mkB (cutL s.data.toList).1 := ⟨_, rfl⟩
    obtain ⟨sb, hsb⟩ : ∃ sb, sb = mkB (cutL s.data.toList).2.1 := ⟨_, rfl⟩
    have HC' : Hid (∀ W : World, Env W → Calls Tryd.prog 27 #[.string s, .string ⟨#[58, 58]⟩] W fun e w' => e = .returned (.tuple #[.string sa, .string sb, .bool c]) ∧ ∃ n, w' = W.drewN n) := by
      rw [hc, hsa, hsb]; exact HC
    have hla : sa.size ≤ s.size := by rw [hsa]; exact hcl.1
    have hlb : sb.size ≤ s.size := by rw [hsb]; exact hcl.2
    have HS1 := Lib.hid (fun W (e : Env W) => some_any sa (!c) (by omega) W e)
    have HS2 := Lib.hid (fun W (e : Env W) => some_any sb true (by omega) W e)
    have N1 := Lib.hid (fun h => parse_no1 (l := s.data.toList) HF.out h)
    have N2 := Lib.hid (fun g h h2 => parse_no2 (l := s.data.toList) (g := g) HF.out h h2)
    have N3 := Lib.hid (fun g h h1 h2 hc => parse_no3 (l := s.data.toList) (g := g) (h := h) HF.out h1 h2 hc)
    have N4 := Lib.hid (fun g h h1 h2 hc => parse_yes (l := s.data.toList) (g := g) (h := h) HF.out h1 h2 hc)
    rw [← hc, ← hsa] at N1
    rw [← hc, ← hsa, ← hsb] at N2 N3 N4
    clear HC HF hc hsa hsb hcl hsl
    go_wp2_with fail
    have K2a := Lib.hid (K2.out.alloc (.cells #[.int .u8 v0, .int .u8 v1, .int .u8 v2, .int .u8 v3] 107))
    have K4a := Lib.hid (K4.out.alloc (.cells #[.int .u8 v0, .int .u8 v1, .int .u8 v2, .int .u8 v3] 107))
    have B2a := Lib.hid (B2.out.alloc B2.out.size (.cells #[.int .u8 v0, .int .u8 v1, .int .u8 v2, .int .u8 v3] 107))
    generalize w2.alloc (.cells #[.int .u8 v0, .int .u8 v1, .int .u8 v2, .int .u8 v3] 107) = w3 at *
    clear K2 K4 B2
    refine (HC'.out _ (E.out.below B2a.out)).mono ?_
    rintro e w4 ⟨rfl, nd, rfl⟩
    go_wp2_with fail
    refine (HS1.out _ ((E.out.below B2a.out).drewN nd)).mono ?_
    rintro e w5 ⟨h1, b⟩
    have K2b := Lib.hid ((K2a.out.drewN nd).keep b)
    have K4b := Lib.hid ((K4a.out.drewN nd).keep b)
    have B2b := Lib.hid ((below_drewN B2a.out nd).trans (b.mono B2a.out.size))
    have hn3 : w.heap.size + 1 < w3.heap.size := K4a.out.lt
    have hz5 : w3.heap.size ≤ w5.heap.size := b.size
    obtain ⟨A1, n1, c1, ok1, rfl, hn1, hh1⟩ := h1.open_
    have H1 := Lib.hid (show (ok1 = true ∧ ∃ gs, someG sa (!c) = some gs ∧ n1 = gs.length ∧ OwnV 25 w5 w3.heap.size (.slice A1 n1 c1) (uv gs)) ∨ (ok1 = false ∧ someG sa (!c) = none) from hh1)
    have hn1' : (n1 : Int) ≤ 8589934592 := by omega
    clear b h1 hh1 K2a K4a B2a hn1
    generalize w3.heap.size = g1 at *
    go_wp2_with fail
    refine (HS2.out _ (E.out.below B2b.out)).mono ?_
    rintro e w6 ⟨h2, b⟩
    have K2c := Lib.hid (K2b.out.keep b)
    have K4c := Lib.hid (K4b.out.keep b)
    have B2c := Lib.hid (B2b.out.trans (b.mono B2b.out.size))
    have BB := Lib.hid b
    have hz56 : w5.heap.size ≤ w6.heap.size := b.size
    obtain ⟨A2, n2, c2, ok2, rfl, hn2, hh2⟩ := h2.open_
    have H2 := Lib.hid hh2
    have hn2' : (n2 : Int) ≤ 8589934592 := by omega
    clear b h2 hh2 K2b K4b B2b hn2 HS1 HS2 HC'
    cases ok1 with
    | false =>
      have HR := Lib.hid (N1.out (or_no H1.out))
      clear H1 H2 N1 N2 N3 N4
      go_wp2_with ((with_reducible refine at_store 24 (.tmp 2) (.tmp 73) ?_); refine wpList_store_blk 24 (.tmp 2) (.tmp 73) w.heap.size 24 (adC false z16) (adC false z16) K2c.out (by rfl) (by rfl) (by rfl) (by rfl) (by rw [adC_size _ _ (by rfl)]; exact adSize) (by rfl) (by rfl) (by rfl) ?_; intro w9 hk9 hg9 hs9; have V9 := Lib.hid hk9; have G9 := Lib.hid (And.intro hg9 hs9); clear hk9 hg9 hs9)
      exact bodyPost_ret (v := .tuple #[.agg (adC false z16), .int .i64 9]) (results_ad Tryd.results41 _ _ w.heap.size (adC false z16) rfl V9.out (adC_size _ _ (by rfl))) rfl ⟨by rw [HR.out], B2c.out.grown G9.out.1 B2c.out.size (fun k e => by cases e; exact Nat.le_refl _)⟩
    | true =>
    obtain ⟨ga, hg, hgl, hgo⟩ : ∃ ga, someG sa (!c) = some ga ∧ n1 = ga.length ∧ OwnV 25 w5 g1 (.slice A1 n1 c1) (uv ga) := by
      rcases H1.out with ⟨_, g, h⟩ | ⟨e, _⟩
      · exact ⟨g, h⟩
      · cases e
    cases ok2 with
    | false =>
      have HR := Lib.hid (N2.out ga hg (or_no H2.out))
      clear H1 H2 N1 N2 N3 N4 hg hgo hgl
      go_wp2_with ((with_reducible refine at_store 24 (.tmp 2) (.tmp 73) ?_); refine wpList_store_blk 24 (.tmp 2) (.tmp 73) w.heap.size 24 (adC false z16) (adC false z16) K2c.out (by rfl) (by rfl) (by rfl) (by rfl) (by rw [adC_size _ _ (by rfl)]; exact adSize) (by rfl) (by rfl) (by rfl) ?_; intro w9 hk9 hg9 hs9; have V9 := Lib.hid hk9; have G9 := Lib.hid (And.intro hg9 hs9); clear hk9 hg9 hs9)
      exact bodyPost_ret (v := .tuple #[.agg (adC false z16), .int .i64 9]) (results_ad Tryd.results41 _ _ w.heap.size (adC false z16) rfl V9.out (adC_size _ _ (by rfl))) rfl ⟨by rw [HR.out], B2c.out.grown G9.out.1 B2c.out.size (fun k e => by cases e; exact Nat.le_refl _)⟩
    | true =>
    obtain ⟨gb, hh, hhl, hho⟩ : ∃ gb, someG sb true = some gb ∧ n2 = gb.length ∧ OwnV 25 w6 w5.heap.size (.slice A2 n2 c2) (uv gb) := by
      rcases H2.out with ⟨_, g, h⟩ | ⟨e, _⟩
      · exact ⟨g, h⟩
      · cases e
    have O1 := Lib.hid (hgo.below BB.out)
    have O2 := Lib.hid hho
    have HGH := Lib.hid (And.intro hg hh)
    have HL := Lib.hid (And.intro hgl hhl)
    have HAP := Lib.hid (fun b hb => (hgo.blk_lt (g := b) hb).2)
    clear H1 H2 N1 N2 hgo hho hg hh hgl hhl BB
    by_cases hok : (c = true ∧ n1 + n2 < 8) ∨ (c = false ∧ n1 + n2 = 8)
    case neg =>
      have HR := Lib.hid (N3.out ga gb HGH.out.1 HGH.out.2 (by
        rw [← HL.out.1, ← HL.out.2]
        cases c <;> simp at hok ⊢ <;> omega))
      clear N3 N4
      cases c with
      | true =>
        have hge : decide (8 ≤ (n1 : Int) + (n2 : Int)) = true := decide_eq_true (by simp at hok; omega)
        clear hok
        go_wp2_with ((with_reducible refine at_store 24 (.tmp 2) (.tmp 73) ?_); refine wpList_store_blk 24 (.tmp 2) (.tmp 73) w.heap.size 24 (adC false z16) (adC false z16) K2c.out (by rfl) (by rfl) (by rfl) (by rfl) (by rw [adC_size _ _ (by rfl)]; exact adSize) (by rfl) (by rfl) (by rfl) ?_; intro w9 hk9 hg9 hs9; have V9 := Lib.hid hk9; have G9 := Lib.hid (And.intro hg9 hs9); clear hk9 hg9 hs9)
        exact bodyPost_ret (v := .tuple #[.agg (adC false z16), .int .i64 9]) (results_ad Tryd.results41 _ _ w.heap.size (adC false z16) rfl V9.out (adC_size _ _ (by rfl))) rfl ⟨by rw [HR.out], B2c.out.grown G9.out.1 B2c.out.size (fun k e => by cases e; exact Nat.le_refl _)⟩
      | false =>
        have hge : ((n1 : Int) + (n2 : Int) != 8) = true := by rw [bne_iff_ne]; simp at hok; omega
        clear hok
        go_wp2_with ((with_reducible refine at_store 24 (.tmp 2) (.tmp 73) ?_); refine wpList_store_blk 24 (.tmp 2) (.tmp 73) w.heap.size 24 (adC false z16) (adC false z16) K2c.out (by rfl) (by rfl) (by rfl) (by rfl) (by rw [adC_size _ _ (by rfl)]; exact adSize) (by rfl) (by rfl) (by rfl) ?_; intro w9 hk9 hg9 hs9; have V9 := Lib.hid hk9; have G9 := Lib.hid (And.intro hg9 hs9); clear hk9 hg9 hs9)
        exact bodyPost_ret (v := .tuple #[.agg (adC false z16), .int .i64 9]) (results_ad Tryd.results41 _ _ w.heap.size (adC false z16) rfl V9.out (adC_size _ _ (by rfl))) rfl ⟨by rw [HR.out], B2c.out.grown G9.out.1 B2c.out.size (fun k e => by cases e; exact Nat.le_refl _)⟩
    have HR := Lib.hid (N4.out ga gb HGH.out.1 HGH.out.2 (by
      rw [← HL.out.1, ← HL.out.2]
      rcases hok with ⟨rfl, hlt⟩ | ⟨rfl, he⟩
      · simp; omega
      · simp [he]))
    have hle : n1 + n2 ≤ 8 := by omega
    obtain ⟨gs, hgs⟩ : ∃ gs, gs = ga ++ List.replicate (8 - (n1 + n2)) 0 ++ gb := ⟨_, rfl⟩
    have HGS := Lib.hid hgs
    have hg8 : gs.length = 8 := by rw [hgs]; simp [← HL.out.1, ← HL.out.2]; omega
    have HLT := Lib.hid (show ∀ n ∈ gs, n < 65536 by
      intro n hn
      rw [hgs] at hn
      rcases List.mem_append.1 hn with hn | hn
      · rcases List.mem_append.1 hn with hn | hn
        · exact someG_lt HGH.out.1 n hn
        · rw [(List.mem_replicate.1 hn).2]; omega
      · exact someG_lt HGH.out.2 n hn)
    rw [← HL.out.1, ← HL.out.2, ← HGS.out] at HR
    obtain ⟨i0, hi0, hz0, hz1, hz2⟩ := info_parts info_u16
    have Hi0 := Lib.hid hi0
    have Hz0 := Lib.hid hz0
    have Hz1 := Lib.hid hz1
    have Hz2 := Lib.hid hz2
    have HL1 := Lib.hid (show (uv ga).length = n1 by rw [uv_len]; exact HL.out.1.symm)
    have HL2 := Lib.hid (show (uv gb).length = n2 by rw [uv_len]; exact HL.out.2.symm)
    have hz6 : w5.heap.size ≤ w6.heap.size := hz56
    clear hgs hi0 hz0 hz1 hz2 N3 N4 HGH
    have HTAIL : True := trivial
    rcases hok with ⟨rfl, hlt⟩ | ⟨rfl, he⟩
    · have hge : decide (8 ≤ (n1 : Int) + (n2 : Int)) = false := decide_eq_false (by omega)
      go_wp2_with (first | (at_builtin; refine wpList_append_zeros w6 (by rfl) (.tmp 74) (.tmp 76) 100 3 25 (by rfl) g1 i0 _ .i64 .i64 2 Tryd.underlying100 Tryd.underlying3 Hi0.out Hz0.out Hz1.out Hz2.out rfl rfl _ (uv ga) (by rfl) O1.out (8 - (n1 + n2)) (by first | rfl | exact congrArg (Value.int IntKind.i64) (by omega)) (by rw [HL1.out]; omega) (by omega) (by omega) ?_; intro v7 w7 ho hb hg; have O7 := Lib.hid (And.intro ho (And.intro hb hg)); clear ho hb hg) | (at_builtin; refine wpList_append_rdv w7 (by rfl) (.tmp 77) (.tmp 78) 100 25 (by rfl) g1 i0 _ 2 Tryd.underlying100 Hi0.out Hz0.out Hz1.out Hz2.out rfl _ (uv ga ++ List.replicate (8 - (n1 + n2)) (.int .u16 0)) (by rfl) O7.out.1 A2 n2 c2 (uv gb) (by rfl) (O2.out.grown O7.out.2.2 (apart_own HAP.out O2.out)).rdv (uv_one _) (by rw [List.length_append, HL1.out, List.length_replicate]; omega) (by omega) (by have := O7.out.2.1.size; omega) ?_; intro v8 w8 ho hb hg; obtain ⟨gq, cq, rfl, hgq⟩ := own_at ho (n := 8) (by rw [List.length_append, List.length_append, HL1.out, HL2.out, List.length_replicate]; omega) (by omega); have O8 := Lib.hid (And.intro ho hb); clear ho hb hg))
      have OA := Lib.hid (show OwnV 25 w8 g1 (.slice (some ⟨gq, 0, none⟩) 8 cq) (uv gs) by rw [HGS.out, ← uv_all]; exact O8.out.1)
      have BA := Lib.hid (O7.out.2.1.trans O8.out.2)
      have K2d := Lib.hid (K2c.out.below BA.out (by omega))
      have K4d := Lib.hid (show Blk w8 (w.heap.size + 1) 24 (adC false (fillA gs 0)) from K4c.out.below BA.out (by omega))
      have B2d := Lib.hid (B2c.out.trans (BA.out.mono (show w.heap.size ≤ g1 by omega)))
      clear O1 O2 O7 O8 BA K2c K4c B2c HGS HL1 HL2 HAP Hi0 Hz0 Hz1 Hz2 hge HL E
      go_loopw [82] (fun i wr => ∃ k : Nat, k ≤ 8 ∧ i = .int .i64 k ∧ Hid (OwnV 25 wr g1 (.slice (some ⟨gq, 0, none⟩) 8 cq) (uv gs)) ∧ Hid (Blk wr w.heap.size 24 (adC false z16)) ∧ Hid (Blk wr (w.heap.size + 1) 24 (adC false (fillA gs k))) ∧ Hid (Below w.heap.size w wr)) (fun i _ => 8 - (intOf i).toNat)
      case atStart => exact ⟨0, by omega, rfl, OA, K2d, K4d, B2d⟩
      case round =>
        clear OA K2d K4d B2d
        obtain ⟨k, hk, rfl, OA, K2, K4, B2⟩ := hrel
        by_cases hlt : k < 8
        · have hx : gs[k] < 65536 := HLT.out _ (List.getElem_mem _)
          have q : wr.cell? ⟨gq, k, none⟩ = some (.int .u16 (gs[k] : Int)) := by rw [OA.out.cellAt k hlt]; simp [uv, hg8, hlt]
          have HST := Lib.hid (fillA_step gs hg8 k hlt)
          obtain ⟨x, hxe⟩ : ∃ x : Nat, x = gs[k] := ⟨_, rfl⟩
          rw [← hxe] at hx q HST
          clear hxe
          have hfl := fillA_len gs hg8 k hk
          obtain ⟨fl, hfe⟩ : ∃ fl, fl = fillA gs k := ⟨_, rfl⟩
          rw [← hfe] at K4 HST hfl
          clear hfe
          have z1 : wr.cell? ⟨w.heap.size + 1, 1 + 2 * k, none⟩ = some (.int .u8 ((fl[2 * k]?.getD 0).toNat : Int)) := by rw [K4.out.cell, adC_get _ _ _ (by omega)]
          have z2 : wr.cell? ⟨w.heap.size + 1, 1 + (2 * k + 1), none⟩ = some (.int .u8 ((fl[2 * k + 1]?.getD 0).toNat : Int)) := by rw [K4.out.cell, adC_get _ _ _ (by omega)]
          have f1 := K4.out.frozen (1 + 2 * k)
          have f2 := K4.out.frozen (1 + (2 * k + 1))
          obtain ⟨u1, hu1⟩ : ∃ u1, u1 = UInt8.ofNat (x / 256) := ⟨_, rfl⟩
          obtain ⟨u2, hu2⟩ : ∃ u2, u2 = UInt8.ofNat (x % 256) := ⟨_, rfl⟩
          have e1 : (x : Int) / 256 = (u1.toNat : Int) := by rw [hu1, UInt8.toNat_ofNat']; omega
          have e2 : IntKind.u8.wrap (x : Int) = (u2.toNat : Int) := by rw [hu2, UInt8.toNat_ofNat']; simp [IntKind.wrap, IntKind.bits, IntKind.signed]
          rw [← hu1, ← hu2] at HST
          clear hu1 hu2
          go_wp2_with fail
          have OA' := Lib.hid (show OwnV 25 ((wr.setCell ⟨w.heap.size + 1, 1 + 2 * k, none⟩ (.int .u8 (u1.toNat : Int))).setCell ⟨w.heap.size + 1, 1 + (2 * k + 1), none⟩ (.int .u8 (u2.toNat : Int))) g1 (.slice (some ⟨gq, 0, none⟩) 8 cq) (uv gs) from (OA.out.set_ (by show w.heap.size + 1 < g1; omega) _).set_ (by show w.heap.size + 1 < g1; omega) _)
          have K2' := Lib.hid (show Blk ((wr.setCell ⟨w.heap.size + 1, 1 + 2 * k, none⟩ (.int .u8 (u1.toNat : Int))).setCell ⟨w.heap.size + 1, 1 + (2 * k + 1), none⟩ (.int .u8 (u2.toNat : Int))) w.heap.size 24 (adC false z16) from (K2.out.far (by show w.heap.size ≠ w.heap.size + 1; omega) _).far (by show w.heap.size ≠ w.heap.size + 1; omega) _)
          have K4' := Lib.hid (show Blk ((wr.setCell ⟨w.heap.size + 1, 1 + 2 * k, none⟩ (.int .u8 (u1.toNat : Int))).setCell ⟨w.heap.size + 1, 1 + (2 * k + 1), none⟩ (.int .u8 (u2.toNat : Int))) (w.heap.size + 1) 24 (adC false (fillA gs (k + 1))) by
            have h := (K4.out.set_ (1 + 2 * k) (.int .u8 (u1.toNat : Int))).set_ (1 + (2 * k + 1)) (.int .u8 (u2.toNat : Int))
            rw [adC_set, adC_set, HST.out] at h
            exact h)
          have B2' := Lib.hid (show Below w.heap.size w ((wr.setCell ⟨w.heap.size + 1, 1 + 2 * k, none⟩ (.int .u8 (u1.toNat : Int))).setCell ⟨w.heap.size + 1, 1 + (2 * k + 1), none⟩ (.int .u8 (u2.toNat : Int))) from (B2.out.setCell (by show w.heap.size ≤ w.heap.size + 1; omega) _).setCell (by show w.heap.size ≤ w.heap.size + 1; omega) _)
          go_roundw
          case rel => exact ⟨k + 1, by omega, by go_num, OA', K2', K4', B2'⟩
          case measure => simp [intOf]; omega
        · obtain rfl : k = 8 := by omega
          have hfl := fillA_len gs hg8 8 (Nat.le_refl _)
          have HFL := Lib.hid (show fillA gs 8 = flat gs by rw [fillA, List.take_of_length_le (by omega)]; simp)
          obtain ⟨fl, hfe⟩ : ∃ fl, fl = fillA gs 8 := ⟨_, rfl⟩
          rw [← hfe] at K4 HFL hfl
          clear hfe
          have z0 : wr.cell? ⟨w.heap.size + 1, 0, none⟩ = some (.bool false) := by rw [K4.out.cell]; rfl
          have f0 := K4.out.frozen 0
          go_upto_region 19 with fail
          have K4' := Lib.hid (show Blk (wr.setCell ⟨w.heap.size + 1, 0, none⟩ (.bool true)) (w.heap.size + 1) 24 (adC true fl) from K4.out.set_ 0 (.bool true))
          have K2' := Lib.hid (show Blk (wr.setCell ⟨w.heap.size + 1, 0, none⟩ (.bool true)) w.heap.size 24 (adC false z16) from K2.out.far (by show w.heap.size ≠ w.heap.size + 1; omega) _)
          have B2' := Lib.hid (show Below w.heap.size w (wr.setCell ⟨w.heap.size + 1, 0, none⟩ (.bool true)) from B2.out.setCell (by show w.heap.size ≤ w.heap.size + 1; omega) _)
          generalize wr.setCell ⟨w.heap.size + 1, 0, none⟩ (.bool true) = w10 at *
          clear z0 f0 K2 K4 B2 OA
          go_wp2_with (first | (refine wpList_load_blk 24 (.tmp 4) (w.heap.size + 1) 24 (adC true fl) _ K4'.out (by rfl) (by rfl) Tryd.underlying24 rfl (by rw [adC_size _ _ hfl]; exact adSize) (by rfl) ?_) | ((with_reducible refine at_store 24 (.tmp 2) (.tmp 103) ?_); refine wpList_store_blk 24 (.tmp 2) (.tmp 103) w.heap.size 24 (adC false z16) (adC true fl) K2'.out (by rfl) (by rfl) (by rfl) (by rfl) (by rw [adC_size _ _ hfl]; exact adSize) (by rw [adC_size _ _ hfl]; rfl) (adC_one _ _) (by rfl) ?_; intro w5 hk5 hg5 hs5; have V5 := Lib.hid hk5; have G5 := Lib.hid (And.intro hg5 hs5); clear hk5 hg5 hs5))
          exact bodyPost_ret (v := .tuple #[.agg (adC true fl), .int .i64 0]) (results_ad Tryd.results41 _ _ w.heap.size (adC true fl) rfl V5.out (adC_size _ _ hfl)) rfl ⟨by rw [HR.out, HFL.out], B2'.out.grown G5.out.1 B2'.out.size (fun k e => by cases e; exact Nat.le_refl _)⟩
    · have hge : ((n1 : Int) + (n2 : Int) != 8) = false := by rw [bne_eq_false_iff_eq]; omega
      go_wp2_with (first | (at_builtin; refine wpList_append_zeros w6 (by rfl) (.tmp 74) (.tmp 76) 100 3 25 (by rfl) g1 i0 _ .i64 .i64 2 Tryd.underlying100 Tryd.underlying3 Hi0.out Hz0.out Hz1.out Hz2.out rfl rfl _ (uv ga) (by rfl) O1.out (8 - (n1 + n2)) (by first | rfl | exact congrArg (Value.int IntKind.i64) (by omega)) (by rw [HL1.out]; omega) (by omega) (by omega) ?_; intro v7 w7 ho hb hg; have O7 := Lib.hid (And.intro ho (And.intro hb hg)); clear ho hb hg) | (at_builtin; refine wpList_append_rdv w7 (by rfl) (.tmp 77) (.tmp 78) 100 25 (by rfl) g1 i0 _ 2 Tryd.underlying100 Hi0.out Hz0.out Hz1.out Hz2.out rfl _ (uv ga ++ List.replicate (8 - (n1 + n2)) (.int .u16 0)) (by rfl) O7.out.1 A2 n2 c2 (uv gb) (by rfl) (O2.out.grown O7.out.2.2 (apart_own HAP.out O2.out)).rdv (uv_one _) (by rw [List.length_append, HL1.out, List.length_replicate]; omega) (by omega) (by have := O7.out.2.1.size; omega) ?_; intro v8 w8 ho hb hg; obtain ⟨gq, cq, rfl, hgq⟩ := own_at ho (n := 8) (by rw [List.length_append, List.length_append, HL1.out, HL2.out, List.length_replicate]; omega) (by omega); have O8 := Lib.hid (And.intro ho hb); clear ho hb hg))
      have OA := Lib.hid (show OwnV 25 w8 g1 (.slice (some ⟨gq, 0, none⟩) 8 cq) (uv gs) by rw [HGS.out, ← uv_all]; exact O8.out.1)
      have BA := Lib.hid (O7.out.2.1.trans O8.out.2)
      have K2d := Lib.hid (K2c.out.below BA.out (by omega))
      have K4d := Lib.hid (show Blk w8 (w.heap.size + 1) 24 (adC false (fillA gs 0)) from K4c.out.below BA.out (by omega))
      have B2d := Lib.hid (B2c.out.trans (BA.out.mono (show w.heap.size ≤ g1 by omega)))
      clear O1 O2 O7 O8 BA K2c K4c B2c HGS HL1 HL2 HAP Hi0 Hz0 Hz1 Hz2 hge HL E
      go_loopw [82] (fun i wr => ∃ k : Nat, k ≤ 8 ∧ i = .int .i64 k ∧ Hid (OwnV 25 wr g1 (.slice (some ⟨gq, 0, none⟩) 8 cq) (uv gs)) ∧ Hid (Blk wr w.heap.size 24 (adC false z16)) ∧ Hid (Blk wr (w.heap.size + 1) 24 (adC false (fillA gs k))) ∧ Hid (Below w.heap.size w wr)) (fun i _ => 8 - (intOf i).toNat)
      case atStart => exact ⟨0, by omega, rfl, OA, K2d, K4d, B2d⟩
      case round =>
        clear OA K2d K4d B2d
        obtain ⟨k, hk, rfl, OA, K2, K4, B2⟩ := hrel
        by_cases hlt : k < 8
        · have hx : gs[k] < 65536 := HLT.out _ (List.getElem_mem _)
          have q : wr.cell? ⟨gq, k, none⟩ = some (.int .u16 (gs[k] : Int)) := by rw [OA.out.cellAt k hlt]; simp [uv, hg8, hlt]
          have HST := Lib.hid (fillA_step gs hg8 k hlt)
          obtain ⟨x, hxe⟩ : ∃ x : Nat, x = gs[k] := ⟨_, rfl⟩
          rw [← hxe] at hx q HST
          clear hxe
          have hfl := fillA_len gs hg8 k hk
          obtain ⟨fl, hfe⟩ : ∃ fl, fl = fillA gs k := ⟨_, rfl⟩
          rw [← hfe] at K4 HST hfl
          clear hfe
          have z1 : wr.cell? ⟨w.heap.size + 1, 1 + 2 * k, none⟩ = some (.int .u8 ((fl[2 * k]?.getD 0).toNat : Int)) := by rw [K4.out.cell, adC_get _ _ _ (by omega)]
          have z2 : wr.cell? ⟨w.heap.size + 1, 1 + (2 * k + 1), none⟩ = some (.int .u8 ((fl[2 * k + 1]?.getD 0).toNat : Int)) := by rw [K4.out.cell, adC_get _ _ _ (by omega)]
          have f1 := K4.out.frozen (1 + 2 * k)
          have f2 := K4.out.frozen (1 + (2 * k + 1))
          obtain ⟨u1, hu1⟩ : ∃ u1, u1 = UInt8.ofNat (x / 256) := ⟨_, rfl⟩
          obtain ⟨u2, hu2⟩ : ∃ u2, u2 = UInt8.ofNat (x % 256) := ⟨_, rfl⟩
          have e1 : (x : Int) / 256 = (u1.toNat : Int) := by rw [hu1, UInt8.toNat_ofNat']; omega
          have e2 : IntKind.u8.wrap (x : Int) = (u2.toNat : Int) := by rw [hu2, UInt8.toNat_ofNat']; simp [IntKind.wrap, IntKind.bits, IntKind.signed]
          rw [← hu1, ← hu2] at HST
          clear hu1 hu2
          go_wp2_with fail
          have OA' := Lib.hid (show OwnV 25 ((wr.setCell ⟨w.heap.size + 1, 1 + 2 * k, none⟩ (.int .u8 (u1.toNat : Int))).setCell ⟨w.heap.size + 1, 1 + (2 * k + 1), none⟩ (.int .u8 (u2.toNat : Int))) g1 (.slice (some ⟨gq, 0, none⟩) 8 cq) (uv gs) from (OA.out.set_ (by show w.heap.size + 1 < g1; omega) _).set_ (by show w.heap.size + 1 < g1; omega) _)
          have K2' := Lib.hid (show Blk ((wr.setCell ⟨w.heap.size + 1, 1 + 2 * k, none⟩ (.int .u8 (u1.toNat : Int))).setCell ⟨w.heap.size + 1, 1 + (2 * k + 1), none⟩ (.int .u8 (u2.toNat : Int))) w.heap.size 24 (adC false z16) from (K2.out.far (by show w.heap.size ≠ w.heap.size + 1; omega) _).far (by show w.heap.size ≠ w.heap.size + 1; omega) _)
          have K4' := Lib.hid (show Blk ((wr.setCell ⟨w.heap.size + 1, 1 + 2 * k, none⟩ (.int .u8 (u1.toNat : Int))).setCell ⟨w.heap.size + 1, 1 + (2 * k + 1), none⟩ (.int .u8 (u2.toNat : Int))) (w.heap.size + 1) 24 (adC false (fillA gs (k + 1))) by
            have h := (K4.out.set_ (1 + 2 * k) (.int .u8 (u1.toNat : Int))).set_ (1 + (2 * k + 1)) (.int .u8 (u2.toNat : Int))
            rw [adC_set, adC_set, HST.out] at h
            exact h)
          have B2' := Lib.hid (show Below w.heap.size w ((wr.setCell ⟨w.heap.size + 1, 1 + 2 * k, none⟩ (.int .u8 (u1.toNat : Int))).setCell ⟨w.heap.size + 1, 1 + (2 * k + 1), none⟩ (.int .u8 (u2.toNat : Int))) from (B2.out.setCell (by show w.heap.size ≤ w.heap.size + 1; omega) _).setCell (by show w.heap.size ≤ w.heap.size + 1; omega) _)
          go_roundw
          case rel => exact ⟨k + 1, by omega, by go_num, OA', K2', K4', B2'⟩
          case measure => simp [intOf]; omega
        · obtain rfl : k = 8 := by omega
          have hfl := fillA_len gs hg8 8 (Nat.le_refl _)
          have HFL := Lib.hid (show fillA gs 8 = flat gs by rw [fillA, List.take_of_length_le (by omega)]; simp)
          obtain ⟨fl, hfe⟩ : ∃ fl, fl = fillA gs 8 := ⟨_, rfl⟩
          rw [← hfe] at K4 HFL hfl
          clear hfe
          have z0 : wr.cell? ⟨w.heap.size + 1, 0, none⟩ = some (.bool false) := by rw [K4.out.cell]; rfl
          have f0 := K4.out.frozen 0
          go_upto_region 19 with fail
          have K4' := Lib.hid (show Blk (wr.setCell ⟨w.heap.size + 1, 0, none⟩ (.bool true)) (w.heap.size + 1) 24 (adC true fl) from K4.out.set_ 0 (.bool true))
          have K2' := Lib.hid (show Blk (wr.setCell ⟨w.heap.size + 1, 0, none⟩ (.bool true)) w.heap.size 24 (adC false z16) from K2.out.far (by show w.heap.size ≠ w.heap.size + 1; omega) _)
          have B2' := Lib.hid (show Below w.heap.size w (wr.setCell ⟨w.heap.size + 1, 0, none⟩ (.bool true)) from B2.out.setCell (by show w.heap.size ≤ w.heap.size + 1; omega) _)
          generalize wr.setCell ⟨w.heap.size + 1, 0, none⟩ (.bool true) = w10 at *
          clear z0 f0 K2 K4 B2 OA
          go_wp2_with (first | (refine wpList_load_blk 24 (.tmp 4) (w.heap.size + 1) 24 (adC true fl) _ K4'.out (by rfl) (by rfl) Tryd.underlying24 rfl (by rw [adC_size _ _ hfl]; exact adSize) (by rfl) ?_) | ((with_reducible refine at_store 24 (.tmp 2) (.tmp 103) ?_); refine wpList_store_blk 24 (.tmp 2) (.tmp 103) w.heap.size 24 (adC false z16) (adC true fl) K2'.out (by rfl) (by rfl) (by rfl) (by rfl) (by rw [adC_size _ _ hfl]; exact adSize) (by rw [adC_size _ _ hfl]; rfl) (adC_one _ _) (by rfl) ?_; intro w5 hk5 hg5 hs5; have V5 := Lib.hid hk5; have G5 := Lib.hid (And.intro hg5 hs5); clear hk5 hg5 hs5))
          exact bodyPost_ret (v := .tuple #[.agg (adC true fl), .int .i64 0]) (results_ad Tryd.results41 _ _ w.heap.size (adC true fl) rfl V5.out (adC_size _ _ hfl)) rfl ⟨by rw [HR.out, HFL.out], B2'.out.grown G5.out.1 B2'.out.size (fun k e => by cases e; exact Nat.le_refl _)⟩
end Go.Proofs.YtonafonhadocgaaDoor
