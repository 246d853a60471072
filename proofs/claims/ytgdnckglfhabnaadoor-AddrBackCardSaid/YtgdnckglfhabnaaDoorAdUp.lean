/- Great letters make no difference to what is parsed. -/
import Derived.Test.YtgdnckglfhabnaaDoorAdPlain
import Derived.Shelf.Strings.CaseAny
namespace Go.Proofs.YtgdnckglfhabnaaDoor
open Go.RowKit Go.Shelf

/-- The bytes of a writing that is parsed. -/
def okc (c : UInt8) : Bool := isHx c || decide (c.toNat = 58) || decide (c.toNat = 46)
def isDgU (c : UInt8) : Bool := decide (48 ≤ c.toNat ∧ c.toNat ≤ 57)
theorem okc_dg {c : UInt8} (h : isDgU c = true) : okc c = true := by
  have h' : 48 ≤ c.toNat ∧ c.toNat ≤ 57 := of_decide_eq_true h
  simp [okc, isHx, h']
theorem okc_hx {c : UInt8} (h : isHx c = true) : okc c = true := by simp [okc, h]

theorem spl_ne (b : UInt8) (l : List UInt8) : spl b l ≠ [] := by
  cases l with
  | nil => simp [spl]
  | cons c r =>
    rw [spl]
    split
    · simp
    · split <;> simp
theorem spl_mem (b : UInt8) : ∀ (l : List UInt8) (c : UInt8), c ∈ l → c = b ∨ ∃ p ∈ spl b l, c ∈ p
  | [], c, h => by cases h
  | d :: r, c, h => by
    rw [spl]
    by_cases hd : d = b
    · rw [if_pos hd]
      rcases List.mem_cons.1 h with e | h
      · exact .inl (e.trans hd)
      · rcases spl_mem b r c h with e | ⟨p, hp, hc⟩
        · exact .inl e
        · exact .inr ⟨p, List.mem_cons_of_mem _ hp, hc⟩
    · rw [if_neg hd]
      cases hs : spl b r with
      | nil => exact absurd hs (spl_ne b r)
      | cons p0 t =>
        rcases List.mem_cons.1 h with e | h
        · exact .inr ⟨d :: p0, List.mem_cons_self, by rw [e]; exact List.mem_cons_self⟩
        · rcases spl_mem b r c h with e | ⟨p, hp, hc⟩
          · exact .inl e
          · rw [hs] at hp
            rcases List.mem_cons.1 hp with e | hp
            · exact .inr ⟨d :: p0, List.mem_cons_self, by rw [← e]; exact List.mem_cons_of_mem _ hc⟩
            · exact .inr ⟨p, List.mem_cons_of_mem _ hp, hc⟩

theorem unum_digits {s : ByteArray} {n : Nat} (h : unum s = some n) : ∀ c ∈ s.data.toList, isDgU c = true := by
  rw [unum] at h
  split at h
  · rename_i u hu
    split at h
    · rename_i e
      intro c hc
      rw [← e] at hc
      exact decide_eq_true (dec_digit u c hc)
    · cases h
  · cases h
theorem byteOf_digits {x : ByteArray} {b : UInt8} (h : byteOf x = some b) : ∀ c ∈ x.data.toList, isDgU c = true := by
  unfold byteOf at h
  split at h
  · rename_i n hn
    exact unum_digits hn
  · cases h
theorem f4_ok {s : ByteArray} {l : List UInt8} (h : f4 s = some l) : ∀ c ∈ s.data.toList, okc c = true := by
  intro c hc
  rcases spl_mem 46 _ c hc with rfl | ⟨p, hp, hcp⟩
  · rfl
  · have hm : mkB p ∈ partsB 46 s := List.mem_map.2 ⟨p, hp, rfl⟩
    have hall : ∀ x b, byteOf x = some b → mkB p = x → okc c = true := fun x b hx e => okc_dg (byteOf_digits hx c (by rw [← e]; exact hcp))
    unfold f4 at h
    generalize partsB 46 s = ps at *
    unfold f4L at h
    split at h
    · split at h
      · rename_i x0 x1 x2 x3 _ _ _ _ h0 h1 h2 h3
        simp only [List.mem_cons, List.not_mem_nil, or_false] at hm
        rcases hm with e | e | e | e
        · exact hall _ _ h0 e
        · exact hall _ _ h1 e
        · exact hall _ _ h2 e
        · exact hall _ _ h3 e
      · cases h
    · cases h
theorem grpB_ok {x : ByteArray} (h : grpB x = true) : ∀ c ∈ x.data.toList, okc c = true := by
  intro c hc
  unfold grpB at h
  simp only [Bool.and_eq_true] at h
  exact okc_hx (List.all_eq_true.1 h.1.1 c hc)
theorem someA_ok (last : Bool) : ∀ (ps : List ByteArray) (acc gs : List Nat), someA last acc ps = some gs → ∀ x ∈ ps, ∀ c ∈ x.data.toList, okc c = true
  | [], _, _, _ => fun x hx => by cases hx
  | y :: r, acc, gs, h => by
    rw [someA] at h
    split at h
    · rename_i hc
      simp only [Bool.and_eq_true, decide_eq_true_eq, Option.isSome_iff_exists] at hc
      obtain ⟨⟨_, rfl⟩, l, hl⟩ := hc
      intro x hx
      rw [List.mem_singleton] at hx
      rw [hx]
      exact f4_ok hl
    · split at h
      · rename_i hg
        intro x hx
        rcases List.mem_cons.1 hx with e | hx
        · rw [e]
          exact grpB_ok hg
        · exact someA_ok last r _ _ h x hx
      · cases h
theorem someG_ok {s : ByteArray} {last : Bool} {gs : List Nat} (h : someG s last = some gs) : ∀ c ∈ s.data.toList, okc c = true := by
  intro c hc
  unfold someG at h
  rw [if_neg (fun e => by rw [e] at hc; cases hc)] at h
  rcases spl_mem 58 _ c hc with rfl | ⟨p, hp, hcp⟩
  · rfl
  · exact someA_ok last _ _ _ h (mkB p) (List.mem_map.2 ⟨p, hp, rfl⟩) c hcp
theorem cut_mem {l : List UInt8} {c : UInt8} (h : c ∈ l) : c = 58 ∨ c ∈ (cutL l).1 ∨ c ∈ (cutL l).2.1 := by
  unfold cutL Lib.cut
  rcases Lib.index_spec l [58, 58] with ⟨e, _⟩ | ⟨i, e, hi, ho, _⟩
  · rw [e, if_neg (by decide)]
    exact .inr (.inl h)
  · rw [e, if_pos (by omega)]
    rw [Lib.occAt, List.isPrefixOf_iff_prefix] at ho
    obtain ⟨t, ht⟩ := ho
    have hl : l = l.take i ++ ([58, 58] ++ t) := by rw [ht, List.take_append_drop]
    have hd : l.drop (i + 2) = t := by
      rw [← List.drop_drop, ← ht]
      rfl
    show c = 58 ∨ c ∈ l.take i ∨ c ∈ l.drop (i + 2)
    rw [hd]
    rw [hl] at h
    rcases List.mem_append.1 h with h | h
    · exact .inr (.inl h)
    · rcases List.mem_append.1 h with h | h
      · left
        simpa using h
      · exact .inr (.inr h)
theorem parse_ok {l : List UInt8} {x : Bool × List UInt8} (h : parseA l = some x) : ∀ c ∈ l, okc c = true := by
  unfold parseA at h
  split at h
  · rename_i b hb
    exact f4_ok hb
  · split at h
    · rename_i g k hg hk
      intro c hc
      rcases cut_mem hc with rfl | hc | hc
      · rfl
      · exact someG_ok hg c hc
      · exact someG_ok hk c hc
    · cases h

/-! ### the letters from a to z -/
set_option maxRecDepth 100000 in
theorem up_byte : ∀ n : Fin 256, (isDgU (Lib.upperB (UInt8.ofNat n.val)) = isDgU (UInt8.ofNat n.val)) ∧ (isHx (Lib.upperB (UInt8.ofNat n.val)) = isHx (UInt8.ofNat n.val)) ∧ (isHx (UInt8.ofNat n.val) = true → hxn (Lib.upperB (UInt8.ofNat n.val)) = hxn (UInt8.ofNat n.val))
    ∧ (isDgU (UInt8.ofNat n.val) = true → Lib.upperB (UInt8.ofNat n.val) = UInt8.ofNat n.val) ∧ (Lib.upperB (UInt8.ofNat n.val) = 58 ↔ UInt8.ofNat n.val = 58) ∧ (Lib.upperB (UInt8.ofNat n.val) = 46 ↔ UInt8.ofNat n.val = 46) := by decide +kernel
theorem up_b (c : UInt8) : (isDgU (Lib.upperB c) = isDgU c) ∧ (isHx (Lib.upperB c) = isHx c) ∧ (isHx c = true → hxn (Lib.upperB c) = hxn c) ∧ (isDgU c = true → Lib.upperB c = c) ∧ (Lib.upperB c = 58 ↔ c = 58) ∧ (Lib.upperB c = 46 ↔ c = 46) := by
  have h := up_byte ⟨c.toNat, c.toNat_lt⟩
  simpa using h
abbrev ups (l : List UInt8) : List UInt8 := l.map Lib.upperB
theorem spl_map (b : UInt8) (f : UInt8 → UInt8) (hf : ∀ c, f c = b ↔ c = b) : ∀ l : List UInt8, spl b (l.map f) = (spl b l).map (List.map f)
  | [] => rfl
  | c :: r => by
    rw [List.map_cons, spl, spl]
    by_cases hc : c = b
    · rw [if_pos ((hf c).2 hc), if_pos hc, spl_map b f hf r]
      rfl
    · rw [if_neg (fun h => hc ((hf c).1 h)), if_neg hc, spl_map b f hf r]
      cases spl b r with
      | nil => rfl
      | cons p t => rfl
theorem unum_up (p : List UInt8) : unum (mkB (ups p)) = unum (mkB p) := by
  by_cases h : ∀ c ∈ p, isDgU c = true
  · have e : ups p = p := by
      conv => rhs; rw [← List.map_id p]
      exact List.map_congr_left fun c hc => (up_b c).2.2.2.1 (h c hc)
    rw [e]
  · have h1 : unum (mkB p) = none := by
      cases hn : unum (mkB p) with
      | none => rfl
      | some n => exact absurd (unum_digits hn) h
    have h2 : unum (mkB (ups p)) = none := by
      cases hn : unum (mkB (ups p)) with
      | none => rfl
      | some n =>
        exact absurd (fun c hc => by
          have := unum_digits hn (Lib.upperB c) (List.mem_map.2 ⟨c, hc, rfl⟩)
          rw [(up_b c).1] at this
          exact this) h
    rw [h1, h2]
theorem byteOf_up (p : List UInt8) : byteOf (mkB (ups p)) = byteOf (mkB p) := by rw [byteOf, unum_up, byteOf]
theorem f4L_up : ∀ ps : List (List UInt8), f4L ((ps.map ups).map mkB) = f4L (ps.map mkB)
  | [] => rfl
  | [_] => rfl
  | [_, _] => rfl
  | [_, _, _] => rfl
  | [a, b, c, d] => by
    simp only [List.map_cons, List.map_nil, f4L, byteOf_up]
  | _ :: _ :: _ :: _ :: _ :: _ => rfl
theorem f4_up (l : List UInt8) : f4 (mkB (ups l)) = f4 (mkB l) := by
  unfold f4 partsB
  show f4L ((spl 46 (ups l)).map mkB) = f4L ((spl 46 l).map mkB)
  rw [spl_map 46 Lib.upperB fun c => (up_b c).2.2.2.2.2]
  exact f4L_up _
theorem allHx_up : ∀ p : List UInt8, (ups p).all isHx = p.all isHx
  | [] => rfl
  | c :: r => by
    have h := allHx_up r
    simp only [List.map_cons, List.all_cons, (up_b c).2.1]
    rw [h]
theorem grpB_up (p : List UInt8) : grpB (mkB (ups p)) = grpB (mkB p) := by
  unfold grpB
  have h : (mkB (ups p)).size = (mkB p).size := by
    rw [Lib.size_eq, Lib.size_eq]
    show (ups p).length = p.length
    rw [List.length_map]
  rw [h]
  show ((ups p).all isHx && _ && _) = (p.all isHx && _ && _)
  rw [allHx_up]
theorem phex_up : ∀ (p : List UInt8) (acc : Nat), p.all isHx = true → phex acc (ups p) = phex acc p
  | [], _, _ => rfl
  | c :: r, acc, h => by
    rw [List.all_cons, Bool.and_eq_true] at h
    rw [show ups (c :: r) = Lib.upperB c :: ups r from rfl, phex, phex, (up_b c).2.2.1 h.1]
    split
    · rfl
    · exact phex_up r _ h.2
theorem grpN_up {p : List UInt8} (h : grpB (mkB p) = true) : grpN (mkB (ups p)) = grpN (mkB p) := by
  unfold grpB at h
  simp only [Bool.and_eq_true] at h
  unfold grpN
  show (phex 0 (ups p)).getD 0 = (phex 0 p).getD 0
  rw [phex_up p 0 h.1.1]
theorem someA_up (last : Bool) : ∀ (ps : List (List UInt8)) (acc : List Nat), someA last acc ((ps.map ups).map mkB) = someA last acc (ps.map mkB)
  | [], _ => rfl
  | p :: r, acc => by
    have hd : decide ((r.map ups).map mkB = []) = decide (r.map mkB = []) := by cases r <;> rfl
    simp only [List.map_cons]
    rw [someA, someA, f4_up, grpB_up, hd]
    split
    · rfl
    · split
      · rename_i hg
        rw [grpN_up hg]
        exact someA_up last r _
      · rfl
theorem someG_up (l : List UInt8) (last : Bool) : someG (mkB (ups l)) last = someG (mkB l) last := by
  unfold someG partsB
  show (if ups l = [] then some [] else someA last [] ((spl 58 (ups l)).map mkB)) = (if l = [] then some [] else someA last [] ((spl 58 l).map mkB))
  rw [spl_map 58 Lib.upperB fun c => (up_b c).2.2.2.2.1, someA_up]
  cases l <;> rfl
theorem colon_up (c : UInt8) : ((58 : UInt8) == Lib.upperB c) = ((58 : UInt8) == c) := by
  have h := (up_b c).2.2.2.2.1
  rw [Bool.eq_iff_iff, beq_iff_eq, beq_iff_eq]
  exact ⟨fun e => (h.1 e.symm).symm, fun e => (h.2 e.symm).symm⟩
theorem two_up : ∀ l : List UInt8, ([58, 58] : List UInt8).isPrefixOf (ups l) = ([58, 58] : List UInt8).isPrefixOf l
  | [] => rfl
  | [c] => by simp [List.isPrefixOf]
  | c :: d :: r => by simp only [List.map_cons, List.isPrefixOf, colon_up]
theorem index_up : ∀ l : List UInt8, Lib.index (ups l) [58, 58] = Lib.index l [58, 58]
  | [] => rfl
  | c :: r => by
    have h := two_up (c :: r)
    rw [show ups (c :: r) = Lib.upperB c :: ups r from rfl] at h ⊢
    rw [Lib.index, Lib.index, h, index_up r]
theorem cut_up (l : List UInt8) : cutL (ups l) = (ups (cutL l).1, ups (cutL l).2.1, (cutL l).2.2) := by
  unfold cutL Lib.cut
  rw [index_up]
  split
  · simp [List.map_take, List.map_drop]
  · rfl
theorem parse_up (l : List UInt8) : parseA (ups l) = parseA l := by
  unfold parseA
  rw [f4_up, cut_up]
  dsimp only
  rw [someG_up, someG_up]

/-! ### beyond ASCII -/
def okz (z : Int) : Bool := decide (48 ≤ z ∧ z ≤ 58) || decide (97 ≤ z ∧ z ≤ 102) || decide (65 ≤ z ∧ z ≤ 70) || decide (z = 46)
def rowUp (x : Lib.CaseRow) : Bool := decide (x.2.1 < 128) || (decide (1114111 < x.delta 0) && decide (128 ≤ x.1)) || decide (128 ≤ (x.1 : Int) + x.delta 0 ∧ x.delta 0 ≤ 1114111) || (decide (x.1 = x.2.1) && decide (x.delta 0 ≤ 1114111) && !okz ((x.1 : Int) + x.delta 0))
set_option maxRecDepth 1000000 in
theorem rowsUp : Lib.caseT.all rowUp = true := by decide +kernel
theorem caseA_up (i : Nat) (hi : i < Lib.caseA.size) : rowUp (Lib.caseA.getD i (0, 0, 0, 0, 0)) = true := by
  have hm : Lib.caseA.getD i (0, 0, 0, 0, 0) ∈ Lib.caseT := by
    unfold Lib.caseA at hi ⊢
    simp only [List.size_toArray] at hi
    simp [Array.getD, hi]
  exact List.all_eq_true.1 rowsUp _ hm
theorem okz_high {z : Int} (h : 128 ≤ z) : okz z = false := by
  simp only [okz, Bool.or_eq_false_iff, decide_eq_false_iff_not]
  omega
theorem upper_z (r : Nat) (h : 128 ≤ r) : okz (Lib.toUpperU (r : Int)) = false := by
  unfold Lib.toUpperU
  rw [if_neg (by omega)]
  unfold Lib.toR Lib.lookupGo
  cases hi : Lib.lookupIdx Lib.caseA r (Lib.caseA.size + 1) 0 Lib.caseA.size with
  | none =>
    show okz (r : Int) = false
    exact okz_high (by omega)
  | some i =>
    obtain ⟨hil, hlo, hhi⟩ := Lib.lookupIdx_some Lib.caseA r _ _ _ i hi
    have hr := caseA_up i hil
    show okz (Lib.convertR 0 r (Lib.caseA.getD i (0, 0, 0, 0, 0))) = false
    generalize Lib.caseA.getD i (0, 0, 0, 0, 0) = x at *
    unfold rowUp at hr
    simp only [Bool.or_eq_true, Bool.and_eq_true, decide_eq_true_eq, Bool.not_eq_true'] at hr
    unfold Lib.convertR
    rcases hr with ((hr | hr) | hr) | hr
    · omega
    · rw [if_pos (by omega)]
      exact okz_high (by omega)
    · rw [if_neg (by omega)]
      exact okz_high (by omega)
    · rw [if_neg (by omega), show (r : Int) = (x.1 : Int) by omega]
      exact hr.2
theorem byte_of_z (z : Int) (h0 : 0 ≤ z) (h1 : z < 256) : (z.toNat.toUInt8).toNat = z.toNat := by
  rw [Nat.toUInt8, UInt8.toNat_ofNat']
  omega
theorem high_bad {c : UInt8} (h : 128 ≤ c.toNat) : okc c = false := by
  simp only [okc, isHx, Bool.or_eq_false_iff, decide_eq_false_iff_not]
  omega
theorem enc_bad (z : Int) (h0 : 0 ≤ z) (hz : okz z = false) : ∃ c ∈ Lib.encodeRune z, okc c = false := by
  have hi : ∀ (y : Int) (t : List Int), Lib.encodeRuneZ z = y :: t → 128 ≤ y → y < 256 → ∃ c ∈ Lib.encodeRune z, okc c = false := fun y t e h1 h2 => ⟨y.toNat.toUInt8, by rw [Lib.encodeRune, e]; exact List.mem_cons_self, high_bad (by rw [byte_of_z y (by omega) h2]; omega)⟩
  unfold Lib.encodeRuneZ at hi
  by_cases c1 : 0 ≤ z ∧ z ≤ 127
  · refine ⟨z.toNat.toUInt8, by rw [Lib.encodeRune, Lib.encodeRuneZ_one c1.1 c1.2]; exact List.mem_cons_self, ?_⟩
    have e := byte_of_z z (by omega) (by omega)
    simp only [okz, Bool.or_eq_false_iff, decide_eq_false_iff_not] at hz
    simp only [okc, isHx, Bool.or_eq_false_iff, decide_eq_false_iff_not, e]
    omega
  · rw [if_neg c1] at hi
    by_cases c2 : 128 ≤ z ∧ z ≤ 2047
    · rw [if_pos c2] at hi
      exact hi _ _ rfl (by omega) (by omega)
    · rw [if_neg c2] at hi
      by_cases c3 : (2048 ≤ z ∧ z < 55296) ∨ (57343 < z ∧ z ≤ 65535)
      · rw [if_pos c3] at hi
        exact hi _ _ rfl (by omega) (by omega)
      · rw [if_neg c3] at hi
        by_cases c4 : 65536 ≤ z ∧ z ≤ 1114111
        · rw [if_pos c4] at hi
          exact hi _ _ rfl (by omega) (by omega)
        · rw [if_neg c4] at hi
          exact hi _ _ rfl (by omega) (by omega)
theorem decode_high (b : UInt8) (t : List UInt8) (h : 128 ≤ b.toNat) : 128 ≤ (Lib.decodeL (b :: t)).1 := by
  rw [Lib.decodeL_N]
  have e : (b :: t).getD 0 0 = b := rfl
  rw [e]
  rcases Lib.decodeN_shape (b :: t).length b.toNat ((b :: t).getD 1 0).toNat ((b :: t).getD 2 0).toNat ((b :: t).getD 3 0).toNat with ⟨c, _⟩ | ⟨_, _, _, c, e⟩ | ⟨_, _, _, _, c, _, e⟩ | ⟨_, _, _, _, _, c, _, e⟩ | e
  · omega
  · rw [e]; exact c
  · rw [e]; show 128 ≤ _; omega
  · rw [e]; show 128 ≤ _; omega
  · rw [e]; decide
theorem upper_bad : ∀ (n : Nat) (l : List UInt8), l.length ≤ n → (∃ c ∈ l, 128 ≤ c.toNat) → ∃ c ∈ Lib.toUpperD l, okc c = false
  | _, [], _, h => by obtain ⟨c, hc, _⟩ := h; cases hc
  | 0, _ :: _, hl, _ => by simp at hl
  | n + 1, b :: t, hl, h => by
    unfold Lib.toUpperD
    rw [Lib.mapD_step Lib.toUpperU (b :: t) (by simp)]
    by_cases hb : b.toNat < 128
    · rw [Lib.decodeL_ascii b t hb]
      obtain ⟨c, hc, h8⟩ := h
      rcases List.mem_cons.1 hc with e | hc
      · rw [e] at h8; omega
      · obtain ⟨d, hd, hk⟩ := upper_bad n t (by simp at hl; omega) ⟨c, hc, h8⟩
        exact ⟨d, List.mem_append_right _ hd, hk⟩
    · have h8 := decode_high b t (by omega)
      have hle := Lib.decodeL_rune (b :: t)
      have h0 := (Lib.toUpperU_range (Lib.decodeL (b :: t)).1 hle).1
      rw [if_pos h0]
      obtain ⟨d, hd, hk⟩ := enc_bad _ h0 (upper_z _ h8)
      exact ⟨d, List.mem_append_left _ hd, hk⟩
/-- GREAT LETTERS MAKE NO DIFFERENCE. -/
theorem parse_upper (l : List UInt8) : parseA (Lib.toUpperD l) = parseA l := by
  by_cases ha : ∀ b ∈ l, b.toNat < 128
  · rw [Lib.toUpperD_ascii l ha]
    exact parse_up l
  · have hh : ∃ c ∈ l, 128 ≤ c.toNat := Classical.byContradiction fun hn => ha fun b hb => Classical.byContradiction fun h => hn ⟨b, hb, by omega⟩
    have h1 : parseA l = none := by
      cases h : parseA l with
      | none => rfl
      | some x =>
        obtain ⟨c, hc, h8⟩ := hh
        have := parse_ok h c hc
        rw [high_bad h8] at this
        cases this
    have h2 : parseA (Lib.toUpperD l) = none := by
      cases h : parseA (Lib.toUpperD l) with
      | none => rfl
      | some x =>
        obtain ⟨c, hc, hk⟩ := upper_bad l.length l (Nat.le_refl _) hh
        have := parse_ok h c hc
        rw [hk] at this
        cases this
    rw [h1, h2]
end Go.Proofs.YtgdnckglfhabnaaDoor
