/- Laws and walks that the claim's last text leans on, joined: each part says above itself what it proves. -/
import Derived.Test.YtonafonhadocgaaGreatDoorQI
import Derived.Test.YtonafonhadocgaaGreatDoorQJ
import Derived.DeepKeys4
import Derived.Maps.Keyed

/- What a flow's text says, and a key's. -/
namespace Go.Proofs.YtonafonhadocgaaGreatDoor
open Go.RowKit Go.Shelf

/-- Ends: whether of IPv6, the bytes, the port. -/
abbrev En := Bool × List UInt8 × Nat
structure EnOk (e : En) : Prop where
  len : e.2.1.length = 16
  may : mayB e.1 e.2.1 = true
  port : e.2.2 < 65536
def enT (e : En) : List UInt8 := endsT e.1 e.2.1 e.2.2
def enP (l : List UInt8) : Option En := peL (mkB l)
theorem enP_sound {l : List UInt8} {e : En} (h : enP l = some e) : enT e = l ∧ EnOk e := by
  obtain ⟨v, b, p⟩ := e
  obtain ⟨h1, h2, h3, h4⟩ := pe_sound h
  exact ⟨h1, h2, h3, h4⟩
theorem enP_enT {e : En} (h : EnOk e) : enP (enT e) = some e := pe_ends e.1 e.2.1 e.2.2 h.len h.may h.port
theorem okc_32 {c : UInt8} (h : okc c = true) : c ≠ 32 := fun e => by rw [e] at h; revert h; decide
theorem enT_clean {e : En} (h : EnOk e) : (32 : UInt8) ∉ enT e := by
  have hp : ∀ c ∈ printT e.1 e.2.1, c ≠ 32 := fun c hc => okc_32 (parse_ok (parse_print e.1 e.2.1 h.len h.may) c hc)
  have hd : ∀ c ∈ dec e.2.2, c ≠ 32 := fun c hc e => by
    have := dec_digit _ c hc
    rw [e] at this
    revert this
    decide
  intro hm
  unfold enT endsT at hm
  rcases List.mem_append.1 hm with hm | hm
  · split at hm
    · rcases List.mem_cons.1 hm with hm | hm
      · revert hm; decide
      · rcases List.mem_append.1 hm with hm | hm
        · exact hp _ hm rfl
        · revert hm; decide
    · exact hp _ hm rfl
  · rcases List.mem_cons.1 hm with hm | hm
    · revert hm; decide
    · exact hd _ hm rfl

/-! ### flows -/
abbrev arrow : List UInt8 := [32, 62, 32]
def flowT (a b : En) : List UInt8 := enT a ++ (arrow ++ enT b)
def flowP (l : List UInt8) : Option (En × En) :=
  if (Lib.cut l arrow).2.2 then
    match enP (Lib.cut l arrow).1, enP (Lib.cut l arrow).2.1 with
    | some a, some b => some (a, b)
    | _, _ => none
  else none
theorem index_clean (x t : List UInt8) (h : (32 : UInt8) ∉ x) : Lib.index (x ++ (arrow ++ t)) arrow = x.length := by
  induction x with
  | nil => rfl
  | cons c r ih =>
    have hc : ¬ 32 = c := fun e => h (by rw [e]; exact List.mem_cons_self)
    have hr := ih (fun hm => h (List.mem_cons_of_mem _ hm))
    rw [List.cons_append, Lib.index, if_neg (by simp [arrow, List.isPrefixOf, hc]), hr, if_neg (by simp)]
    simp
theorem cut_clean (x t : List UInt8) (h : (32 : UInt8) ∉ x) : Lib.cut (x ++ (arrow ++ t)) arrow = (x, t, true) := by
  unfold Lib.cut
  rw [index_clean x t h, if_pos (by omega), Int.toNat_natCast, List.take_left', List.drop_append]
  · simp
  · rfl
theorem flowP_flowT {a b : En} (ha : EnOk a) (hb : EnOk b) : flowP (flowT a b) = some (a, b) := by
  unfold flowP flowT
  rw [cut_clean _ _ (enT_clean ha)]
  dsimp only
  rw [if_pos rfl, enP_enT ha, enP_enT hb]
theorem cut_whole {l x t : List UInt8} (h : Lib.cut l arrow = (x, t, true)) : x ++ (arrow ++ t) = l := by
  unfold Lib.cut at h
  rcases Lib.index_spec l arrow with ⟨e, _⟩ | ⟨i, e, hi, ho, _⟩
  · rw [e, if_neg (by decide)] at h
    injection h with h1 h2
    injection h2 with h2 h3
    cases h3
  · rw [e, if_pos (by omega), Int.toNat_natCast] at h
    injection h with h1 h2
    injection h2 with h2 _
    rw [Lib.occAt, List.isPrefixOf_iff_prefix] at ho
    obtain ⟨u, hu⟩ := ho
    have hd : l.drop (i + arrow.length) = u := by
      rw [← List.drop_drop, ← hu]
      rfl
    rw [← h1, ← h2, hd, hu, List.take_append_drop]
theorem flowP_sound {l : List UInt8} {a b : En} (h : flowP l = some (a, b)) : flowT a b = l ∧ EnOk a ∧ EnOk b := by
  unfold flowP at h
  split at h
  · rename_i hc
    cases h1 : enP (Lib.cut l arrow).1 with
    | none => rw [h1] at h; cases h
    | some a' =>
      cases h2 : enP (Lib.cut l arrow).2.1 with
      | none => rw [h1, h2] at h; cases h
      | some b' =>
        rw [h1, h2] at h
        injection h with h
        injection h with e1 e2
        subst e1 e2
        obtain ⟨t1, k1⟩ := enP_sound h1
        obtain ⟨t2, k2⟩ := enP_sound h2
        refine ⟨?_, k1, k2⟩
        rw [flowT, t1, t2]
        exact cut_whole (by rw [← hc])
  · cases h
/-- The reference's way: each place is tried. -/
def rfAt (l : List UInt8) (i : Nat) : Option (En × En) :=
  if (l.drop i).take 3 = arrow then
    match enP (l.take i), enP (l.drop (i + 3)) with
    | some a, some b => some (a, b)
    | _, _ => none
  else none
theorem rfAt_some {l : List UInt8} {i : Nat} {x : En × En} (h : rfAt l i = some x) : flowP l = some x := by
  unfold rfAt at h
  split at h
  · rename_i hc
    cases h1 : enP (l.take i) with
    | none => rw [h1] at h; cases h
    | some a =>
      cases h2 : enP (l.drop (i + 3)) with
      | none => rw [h1, h2] at h; cases h
      | some b =>
        rw [h1, h2] at h
        injection h with h
        obtain ⟨t1, k1⟩ := enP_sound h1
        obtain ⟨t2, k2⟩ := enP_sound h2
        have hl : flowT a b = l := by
          rw [flowT, t1, t2, ← hc, ← List.drop_drop, List.take_append_drop, List.take_append_drop]
        rw [← hl, ← h]
        exact flowP_flowT k1 k2
  · cases h
theorem rfAt_none {l : List UInt8} (h : ∀ i, i + 3 ≤ l.length → rfAt l i = none) : flowP l = none := by
  cases hp : flowP l with
  | none => rfl
  | some x =>
    obtain ⟨a, b⟩ := x
    obtain ⟨hl, ka, kb⟩ := flowP_sound hp
    have hlen : l.length = (enT a).length + (3 + (enT b).length) := by
      rw [← hl, flowT, List.length_append, List.length_append]
      rfl
    have := h (enT a).length (by omega)
    unfold rfAt at this
    have e1 : l.take (enT a).length = enT a := by rw [← hl, flowT, List.take_left']; rfl
    have e2 : l.drop (enT a).length = arrow ++ enT b := by rw [← hl, flowT, List.drop_left']; rfl
    have e3 : l.drop ((enT a).length + 3) = enT b := by rw [← List.drop_drop, e2]; rfl
    rw [e2, if_pos (show (arrow ++ enT b).take 3 = arrow from rfl), e1, e3, enP_enT ka, enP_enT kb] at this
    cases this

/-! ### keys -/
def isLo (c : UInt8) : Bool := decide (48 ≤ c.toNat ∧ c.toNat ≤ 57) || decide (97 ≤ c.toNat ∧ c.toNat ≤ 102)
def loN (c : UInt8) : Nat := if c.toNat ≤ 57 then c.toNat - 48 else c.toNat - 87
def hexB (l : List UInt8) : List UInt8 := l.flatMap fun c => [hxd (c.toNat / 16), hxd (c.toNat % 16)]
def unhexL : List UInt8 → Option (List UInt8)
  | [] => some []
  | [_] => none
  | a :: b :: r => if isLo a && isLo b then (unhexL r).map (UInt8.ofNat (loN a * 16 + loN b) :: ·) else none
theorem hxd_lo : ∀ k : Fin 16, isLo (hxd k.val) = true ∧ loN (hxd k.val) = k.val := by decide +kernel
theorem hxd_lo' {k : Nat} (h : k < 16) : isLo (hxd k) = true ∧ loN (hxd k) = k := hxd_lo ⟨k, h⟩
set_option maxRecDepth 100000 in
theorem lo_hxd : ∀ n : Fin 256, isLo (UInt8.ofNat n.val) = true → loN (UInt8.ofNat n.val) < 16 ∧ hxd (loN (UInt8.ofNat n.val)) = UInt8.ofNat n.val := by decide +kernel
theorem lo_hxd' {c : UInt8} (h : isLo c = true) : loN c < 16 ∧ hxd (loN c) = c := by
  have := lo_hxd ⟨c.toNat, c.toNat_lt⟩
  simpa [h] using this
theorem unhex_hexB : ∀ l : List UInt8, unhexL (hexB l) = some l
  | [] => rfl
  | c :: r => by
    have hc := c.toNat_lt
    obtain ⟨a1, a2⟩ := hxd_lo' (show c.toNat / 16 < 16 by omega)
    obtain ⟨b1, b2⟩ := hxd_lo' (show c.toNat % 16 < 16 by omega)
    show unhexL (hxd (c.toNat / 16) :: hxd (c.toNat % 16) :: hexB r) = _
    rw [unhexL, a1, b1, a2, b2, unhex_hexB r]
    have : c.toNat / 16 * 16 + c.toNat % 16 = c.toNat := by omega
    simp [this]
theorem unhex_sound : ∀ (l bs : List UInt8), unhexL l = some bs → hexB bs = l
  | [], bs, h => by
    injection h with h
    rw [← h]
    rfl
  | [_], bs, h => by cases h
  | a :: b :: r, bs, h => by
    rw [unhexL] at h
    split at h
    · rename_i hab
      rw [Bool.and_eq_true] at hab
      obtain ⟨cs, hcs, e⟩ := Option.map_eq_some_iff.1 h
      have ih := unhex_sound r cs hcs
      obtain ⟨a1, a2⟩ := lo_hxd' hab.1
      obtain ⟨b1, b2⟩ := lo_hxd' hab.2
      rw [← e]
      show hxd ((UInt8.ofNat (loN a * 16 + loN b)).toNat / 16) :: hxd ((UInt8.ofNat (loN a * 16 + loN b)).toNat % 16) :: hexB cs = _
      have hn : (UInt8.ofNat (loN a * 16 + loN b)).toNat = loN a * 16 + loN b := by rw [UInt8.toNat_ofNat']; omega
      rw [hn, show (loN a * 16 + loN b) / 16 = loN a by omega, show (loN a * 16 + loN b) % 16 = loN b by omega, a2, b2, ih]
    · cases h
theorem hexB_len : ∀ l : List UInt8, (hexB l).length = 2 * l.length
  | [] => rfl
  | c :: r => by
    have := hexB_len r
    show (hxd (c.toNat / 16) :: hxd (c.toNat % 16) :: hexB r).length = _
    simp [this]
    omega
/-- The bytes of a number, the weightiest ahead. -/
def bytes8 (x : Nat) : List UInt8 := (List.range 8).map fun i => UInt8.ofNat (x / 256 ^ (7 - i) % 256)
def foldB (bs : List UInt8) : Nat := bs.foldl (fun k c => (k * 256 + c.toNat) % 18446744073709551616) 0
theorem bytes8_all (x : Nat) : bytes8 x = [UInt8.ofNat (x / 72057594037927936 % 256), UInt8.ofNat (x / 281474976710656 % 256), UInt8.ofNat (x / 1099511627776 % 256), UInt8.ofNat (x / 4294967296 % 256), UInt8.ofNat (x / 16777216 % 256), UInt8.ofNat (x / 65536 % 256), UInt8.ofNat (x / 256 % 256), UInt8.ofNat (x / 1 % 256)] := rfl
theorem fold_eight (a b c d e f g i : Nat) (ha : a < 256) (hb : b < 256) (hc : c < 256) (hd : d < 256) (he : e < 256) (hf : f < 256) (hg : g < 256) (hi : i < 256) :
    (((((((((0 * 256 + a) % 18446744073709551616) * 256 + b) % 18446744073709551616 * 256 + c) % 18446744073709551616 * 256 + d) % 18446744073709551616 * 256 + e) % 18446744073709551616 * 256 + f) % 18446744073709551616 * 256 + g) % 18446744073709551616 * 256 + i) % 18446744073709551616 =
      a * 72057594037927936 + b * 281474976710656 + c * 1099511627776 + d * 4294967296 + e * 16777216 + f * 65536 + g * 256 + i := by
  rw [Nat.mod_eq_of_lt (show 0 * 256 + a < 18446744073709551616 by omega)]
  rw [Nat.mod_eq_of_lt (show (0 * 256 + a) * 256 + b < 18446744073709551616 by omega)]
  rw [Nat.mod_eq_of_lt (show ((0 * 256 + a) * 256 + b) * 256 + c < 18446744073709551616 by omega)]
  rw [Nat.mod_eq_of_lt (show (((0 * 256 + a) * 256 + b) * 256 + c) * 256 + d < 18446744073709551616 by omega)]
  rw [Nat.mod_eq_of_lt (show ((((0 * 256 + a) * 256 + b) * 256 + c) * 256 + d) * 256 + e < 18446744073709551616 by omega)]
  rw [Nat.mod_eq_of_lt (show (((((0 * 256 + a) * 256 + b) * 256 + c) * 256 + d) * 256 + e) * 256 + f < 18446744073709551616 by omega)]
  rw [Nat.mod_eq_of_lt (show ((((((0 * 256 + a) * 256 + b) * 256 + c) * 256 + d) * 256 + e) * 256 + f) * 256 + g < 18446744073709551616 by omega)]
  rw [Nat.mod_eq_of_lt (show (((((((0 * 256 + a) * 256 + b) * 256 + c) * 256 + d) * 256 + e) * 256 + f) * 256 + g) * 256 + i < 18446744073709551616 by omega)]
  omega
theorem fold_bytes {x : Nat} (h : x < 18446744073709551616) : foldB (bytes8 x) = x := by
  rw [bytes8_all]
  simp only [foldB, List.foldl_cons, List.foldl_nil, UInt8.toNat_ofNat']
  simp only [Nat.reducePow, Nat.mod_mod]
  rw [fold_eight _ _ _ _ _ _ _ _ (Nat.mod_lt _ (by decide)) (Nat.mod_lt _ (by decide)) (Nat.mod_lt _ (by decide)) (Nat.mod_lt _ (by decide)) (Nat.mod_lt _ (by decide)) (Nat.mod_lt _ (by decide)) (Nat.mod_lt _ (by decide)) (Nat.mod_lt _ (by decide))]
  omega
theorem bytes_fold {bs : List UInt8} (h : bs.length = 8) : bytes8 (foldB bs) = bs ∧ foldB bs < 18446744073709551616 := by
  match bs, h with
  | [a, b, c, d, e, f, g, i], _ =>
    have ha := a.toNat_lt
    have hb := b.toNat_lt
    have hc := c.toNat_lt
    have hd := d.toNat_lt
    have he := e.toNat_lt
    have hf := f.toNat_lt
    have hg := g.toNat_lt
    have hi := i.toNat_lt
    have hk : foldB [a, b, c, d, e, f, g, i] = a.toNat * 72057594037927936 + b.toNat * 281474976710656 + c.toNat * 1099511627776 + d.toNat * 4294967296 + e.toNat * 16777216 + f.toNat * 65536 + g.toNat * 256 + i.toNat :=
      fold_eight _ _ _ _ _ _ _ _ ha hb hc hd he hf hg hi
    rw [hk]
    refine ⟨?_, by omega⟩
    rw [bytes8_all]
    have one : ∀ (n : Nat) (u : UInt8), n = u.toNat → UInt8.ofNat n = u := fun n u h => by rw [h]; simp
    simp only [List.cons.injEq, and_true]
    refine ⟨one _ _ ?_, one _ _ ?_, one _ _ ?_, one _ _ ?_, one _ _ ?_, one _ _ ?_, one _ _ ?_, one _ _ ?_⟩ <;> omega
def hex16 (x : Nat) : List UInt8 := hexB (bytes8 x)
theorem hex16_len (x : Nat) : (hex16 x).length = 16 := by rw [hex16, hexB_len]; rfl
theorem hxd_32 : ∀ k : Fin 16, hxd k.val ≠ 32 := by decide
theorem hexB_clean (l : List UInt8) : (32 : UInt8) ∉ hexB l := by
  intro h
  obtain ⟨c, _, hc⟩ := List.mem_flatMap.1 h
  have h1 := c.toNat_lt
  simp only [List.mem_cons, List.not_mem_nil, or_false] at hc
  rcases hc with e | e
  · exact hxd_32 ⟨c.toNat / 16, by omega⟩ e.symm
  · exact hxd_32 ⟨c.toNat % 16, by omega⟩ e.symm
theorem last_blank (a d : List UInt8) (h : (32 : UInt8) ∉ d) : Lib.lastIndexByte (mkB (a ++ 32 :: d)) 32 = (a.length : Int) := by
  have hg : ∀ j : Nat, (mkB (a ++ 32 :: d)).data[j]! = ((a ++ 32 :: d)[j]?).getD default := fun j => by
    show (a ++ 32 :: d).toArray[j]! = _
    rw [List.getElem!_toArray, List.getElem!_eq_getElem?_getD]
  have hz : (mkB (a ++ 32 :: d)).size = a.length + (d.length + 1) := by simp [mkB, ByteArray.size]
  have h0 : (a ++ 32 :: d)[a.length]? = some 32 := by simp
  have h1 : ∀ j, a.length < j → (a ++ 32 :: d)[j]? ≠ some 32 := by
    intro j hj e
    rw [List.getElem?_append_right (by omega), show j - a.length = (j - a.length - 1) + 1 by omega, List.getElem?_cons_succ] at e
    exact h (List.mem_of_getElem? e)
  rcases Lib.lastIndexByte_spec (mkB (a ++ 32 :: d)) 32 with ⟨_, hn⟩ | ⟨i, hi, he, h32, hn⟩
  · exfalso
    refine hn a.length (by omega) ?_
    rw [hg, h0]; rfl
  · rcases Nat.lt_trichotomy i a.length with hlt | rfl | hgt
    · exfalso
      refine hn a.length hlt (by omega) ?_
      rw [hg, h0]; rfl
    · exact he
    · exfalso
      have hil : i < (a ++ 32 :: d).length := by simp; omega
      refine h1 i hgt ?_
      rw [hg, List.getElem?_eq_getElem hil] at h32
      rw [List.getElem?_eq_getElem hil]
      have h3 : (((a ++ 32 :: d)[i]'hil).toNat : Int) = 32 := h32
      exact congrArg some (UInt8.toNat_inj.1 (by show _ = 32; omega))
theorem last_parts (l : List UInt8) (h : ¬ Lib.lastIndexByte (mkB l) 32 < 0) : ∃ a d, l = a ++ 32 :: d ∧ (32 : UInt8) ∉ d ∧ Lib.lastIndexByte (mkB l) 32 = (a.length : Int) := by
  have hg : ∀ j : Nat, (mkB l).data[j]! = (l[j]?).getD default := fun j => by
    show l.toArray[j]! = _
    rw [List.getElem!_toArray, List.getElem!_eq_getElem?_getD]
  have hz : (mkB l).size = l.length := by simp [mkB, ByteArray.size]
  rcases Lib.lastIndexByte_spec (mkB l) 32 with ⟨e, _⟩ | ⟨i, hi, he, h32, hn⟩
  · omega
  · have hil : i < l.length := by omega
    have hc : l[i] = 32 := by
      rw [hg, List.getElem?_eq_getElem hil] at h32
      have h3 : ((l[i]).toNat : Int) = 32 := h32
      exact UInt8.toNat_inj.1 (by show _ = 32; omega)
    refine ⟨l.take i, l.drop (i + 1), ?_, ?_, by rw [he, List.length_take]; omega⟩
    · rw [← hc, List.getElem_cons_drop, List.take_append_drop]
    · intro hm
      obtain ⟨k, hk⟩ := List.getElem?_of_mem hm
      rw [List.getElem?_drop] at hk
      have hkl := (List.getElem?_eq_some_iff.1 hk).1
      refine hn (i + 1 + k) (by omega) (by omega) ?_
      rw [hg, hk]
      rfl
def keyT (a b : En) (x : Nat) : List UInt8 := flowT a b ++ 32 :: hex16 x
/-- What the program reads of a key: behind the last blank stand sixteen digits. -/
def keyP (l : List UInt8) : Option (En × En × Nat) :=
  if Lib.lastIndexByte (mkB l) 32 < 0 then none else
    match flowP (l.take (Lib.lastIndexByte (mkB l) 32).toNat), unhexL (l.drop ((Lib.lastIndexByte (mkB l) 32).toNat + 1)) with
    | some x, some bs => if bs.length = 8 then some (x.1, x.2, foldB bs) else none
    | _, _ => none
theorem keyP_keyT {a b : En} {x : Nat} (ha : EnOk a) (hb : EnOk b) (hx : x < 18446744073709551616) : keyP (keyT a b x) = some (a, b, x) := by
  have hl : Lib.lastIndexByte (mkB (keyT a b x)) 32 = ((flowT a b).length : Int) := last_blank (flowT a b) (hex16 x) (hexB_clean _)
  unfold keyP
  rw [hl, if_neg (by omega), Int.toNat_natCast]
  have e1 : (keyT a b x).take (flowT a b).length = flowT a b := by rw [keyT, List.take_left']; rfl
  have e2 : (keyT a b x).drop ((flowT a b).length + 1) = hex16 x := by
    rw [← List.drop_drop, keyT, List.drop_left' rfl]
    rfl
  rw [e1, e2, flowP_flowT ha hb, hex16, unhex_hexB]
  dsimp only
  rw [if_pos (show (bytes8 x).length = 8 from rfl), fold_bytes hx]
theorem keyP_sound {l : List UInt8} {a b : En} {x : Nat} (h : keyP l = some (a, b, x)) : keyT a b x = l ∧ EnOk a ∧ EnOk b ∧ x < 18446744073709551616 := by
  unfold keyP at h
  split at h
  · cases h
  · rename_i hn
    obtain ⟨u, d, hl, _, hat⟩ := last_parts l hn
    rw [hat, Int.toNat_natCast] at h
    have e1 : l.take u.length = u := by rw [hl, List.take_left']; rfl
    have e2 : l.drop (u.length + 1) = d := by
      rw [← List.drop_drop, hl, List.drop_left' rfl]
      rfl
    rw [e1, e2] at h
    cases h1 : flowP u with
    | none => rw [h1] at h; cases h
    | some y =>
      cases h2 : unhexL d with
      | none => rw [h1, h2] at h; cases h
      | some bs =>
        rw [h1, h2] at h
        dsimp only at h
        split at h
        · rename_i h8
          injection h with h
          injection h with ea h
          injection h with eb ex
          subst ea eb ex
          obtain ⟨t1, k1, k2⟩ := flowP_sound (a := y.1) (b := y.2) h1
          obtain ⟨f1, f2⟩ := bytes_fold h8
          refine ⟨?_, k1, k2, f2⟩
          rw [keyT, t1, hex16, f1, unhex_sound d bs h2, hl]
        · cases h
/-- A key's text is no flow's. -/
theorem flowP_keyT {a b : En} {x : Nat} (ha : EnOk a) (hb : EnOk b) : flowP (keyT a b x) = none := by
  cases h : flowP (keyT a b x) with
  | none => rfl
  | some y =>
    obtain ⟨h1, h2, h3⟩ := flowP_sound (a := y.1) (b := y.2) h
    exfalso
    have c1 := congrArg (fun l => l.countP (· == 32)) h1
    simp only [flowT, keyT, hex16, List.countP_append, List.countP_cons] at c1
    have z : ∀ l : List UInt8, (32 : UInt8) ∉ l → l.countP (· == 32) = 0 := fun l hl => List.countP_eq_zero.2 fun c hc e => hl (by rw [← eq_of_beq e]; exact hc)
    rw [z _ (enT_clean ha), z _ (enT_clean hb), z _ (enT_clean h2), z _ (enT_clean h3), z _ (hexB_clean _)] at c1
    revert c1
    decide
theorem keyT_front (a b : En) (x : Nat) : (keyT a b x).length = (flowT a b).length + 17 ∧ (keyT a b x).take (flowT a b).length = flowT a b := by
  refine ⟨?_, by rw [keyT, List.take_left']; rfl⟩
  rw [keyT, List.length_append, List.length_cons, hex16_len]

/-! ### the reference's key -/
def rfold (l : List UInt8) : Option Nat := l.foldl (fun o c => o.bind fun k => if isLo c then some ((16 * k + loN c) % 18446744073709551616) else none) (some 0)
/-- The reference's ParseKey: sixteen digits behind the seventeenth byte from the end. -/
def rkeyP (l : List UInt8) : Option (En × En × Nat) :=
  if l.length < 17 ∨ l[l.length - 17]? ≠ some 32 then none else
    match rfold (l.drop (l.length - 17 + 1)), flowP (l.take (l.length - 17)) with
    | some n, some x => some (x.1, x.2, n)
    | _, _ => none
theorem rfold_none (l : List UInt8) : l.foldl (fun o c => o.bind fun k => if isLo c then some ((16 * k + loN c) % 18446744073709551616) else none) (none : Option Nat) = none := by
  induction l with
  | nil => rfl
  | cons c r ih => exact ih
/-- Digit by digit, or byte by byte: one number. -/
theorem rfold_pairs : ∀ (l : List UInt8) (k : Nat), l.length % 2 = 0 →
    l.foldl (fun o c => o.bind fun k => if isLo c then some ((16 * k + loN c) % 18446744073709551616) else none) (some k) = ((unhexL l).map fun bs => bs.foldl (fun k c => (k * 256 + c.toNat) % 18446744073709551616) (k % 18446744073709551616)) ∨ l = []
  | [], _, _ => .inr rfl
  | [_], _, h => by simp at h
  | a :: b :: r, k, h => by
    left
    rw [List.foldl_cons, List.foldl_cons, unhexL]
    cases ha : isLo a with
    | false => simp [rfold_none]
    | true =>
      cases hb : isLo b with
      | false => simp [rfold_none]
      | true =>
        obtain ⟨a1, _⟩ := lo_hxd' ha
        obtain ⟨b1, _⟩ := lo_hxd' hb
        have hn : (UInt8.ofNat (loN a * 16 + loN b)).toNat = loN a * 16 + loN b := by rw [UInt8.toNat_ofNat']; omega
        have e1 : (16 * ((16 * k + loN a) % 18446744073709551616) + loN b) % 18446744073709551616 = (k % 18446744073709551616 * 256 + (loN a * 16 + loN b)) % 18446744073709551616 := by omega
        simp only [Option.bind_some, if_true, Bool.and_self, Option.map_map]
        rw [e1]
        rcases rfold_pairs r ((k % 18446744073709551616 * 256 + (loN a * 16 + loN b)) % 18446744073709551616) (by simp at h; omega) with hr | rfl
        · rw [hr]
          cases unhexL r with
          | none => rfl
          | some bs =>
            show some (bs.foldl _ _) = some ((UInt8.ofNat (loN a * 16 + loN b) :: bs).foldl _ _)
            rw [List.foldl_cons, hn, Nat.mod_mod]
        · show some ((k % 18446744073709551616 * 256 + (loN a * 16 + loN b)) % 18446744073709551616) = some ((k % 18446744073709551616 * 256 + (UInt8.ofNat (loN a * 16 + loN b)).toNat) % 18446744073709551616)
          rw [hn]
theorem rfold_eq (l : List UInt8) (h : l.length % 2 = 0) : rfold l = (unhexL l).map foldB := by
  rcases rfold_pairs l 0 h with hr | rfl
  · exact hr
  · rfl
theorem rkeyP_eq (l : List UInt8) : rkeyP l = keyP l := by
  cases hk : keyP l with
  | some y =>
    obtain ⟨a, b, x⟩ := y
    obtain ⟨hl, ka, kb, hx⟩ := keyP_sound hk
    obtain ⟨f1, f2⟩ := keyT_front a b x
    rw [hl] at f1 f2
    have e1 : l.length - 17 = (flowT a b).length := by omega
    have e2 : l.drop ((flowT a b).length + 1) = hex16 x := by
      rw [← hl, ← List.drop_drop, keyT, List.drop_left' rfl]
      rfl
    have e3 : l[(flowT a b).length]? = some 32 := by rw [← hl, keyT]; simp
    unfold rkeyP
    rw [e1, if_neg (by rw [e3]; simp; omega), e2, f2, flowP_flowT ka kb, rfold_eq _ (by rw [hex16_len]), hex16, unhex_hexB]
    simp [fold_bytes hx]
  | none =>
    unfold rkeyP
    split
    · rfl
    · rename_i hc
      rw [not_or] at hc
      obtain ⟨h1, h2⟩ := hc
      have h2 : l[l.length - 17]? = some 32 := Classical.byContradiction fun e => h2 e
      cases hf : rfold (l.drop (l.length - 17 + 1)) with
      | none => rfl
      | some n =>
        cases hp : flowP (l.take (l.length - 17)) with
        | none => rfl
        | some y =>
          exfalso
          have hd : (l.drop (l.length - 17 + 1)).length = 16 := by rw [List.length_drop]; omega
          rw [rfold_eq _ (by rw [hd])] at hf
          obtain ⟨bs, hu, _⟩ := Option.map_eq_some_iff.1 hf
          have hb := unhex_sound _ _ hu
          have h8 : bs.length = 8 := by
            have := congrArg List.length hb
            rw [hexB_len, hd] at this
            omega
          obtain ⟨g1, g2⟩ := bytes_fold h8
          obtain ⟨t1, k1, k2⟩ := flowP_sound (a := y.1) (b := y.2) hp
          have hl : keyT y.1 y.2 (foldB bs) = l := by
            rw [keyT, t1, hex16, g1, hb]
            have hi : l.length - 17 < l.length := by omega
            rw [List.getElem?_eq_getElem hi] at h2
            injection h2 with h2
            rw [← h2, List.getElem_cons_drop, List.take_append_drop]
          rw [← hl, keyP_keyT k1 k2 g2] at hk
          cases hk
end Go.Proofs.YtonafonhadocgaaGreatDoor

/- A flow as a map's key. -/
namespace Go.Proofs.YtonafonhadocgaaGreatDoor
open Go.RowKit Go.Shelf

/-- A flow's cells. -/
def enL (e : En) : List Value := Value.bool e.1 :: (bv e.2.1 ++ [Value.int .u16 (e.2.2 : Int)])
def flC (a b : En) : Array Value := (enL a ++ enL b).toArray
theorem enL_len (e : En) (h : e.2.1.length = 16) : (enL e).length = 18 := by simp [enL, bv_length, h]

section
variable {P : Program} {d : Nat} {t e : TypeId}
theorem mapM_ex {α β : Type} (g : α → Option β) : ∀ l : List α, (∀ a ∈ l, ∃ b, g a = some b) → ∃ bs, l.mapM g = some bs
  | [], _ => ⟨[], rfl⟩
  | a :: l, h => by
    obtain ⟨b, hb⟩ := h a List.mem_cons_self
    obtain ⟨bs, hbs⟩ := mapM_ex g l fun x hx => h x (List.mem_cons_of_mem _ hx)
    exact ⟨b :: bs, by simp [List.mapM_cons, hb, hbs]⟩
theorem kl_bool (h : P.underlying t = some .bool) (b : Bool) : P.keyLits (d + 1) t [.bool b] = some [.bool b] := by simp [Program.keyLits, h]
theorem kl_int {q : IntKind} (h : P.underlying t = some (.int q)) {n : Int} (hw : (Lit.int q n).wf = true) : P.keyLits (d + 1) t [.int q n] = some [.int q n] := by simp [Program.keyLits, h, hw]
theorem kl_array {n : Nat} (h : P.underlying t = some (.array n e)) (he : P.cellsOf e = 1) {cs : List Value} (hc : cs.length = P.cellsOf t) (hn : cs.length = n) (hk : ∀ v ∈ cs, ∃ ls, P.keyLits d e [v] = some ls) : ∃ ls, P.keyLits (d + 1) t cs = some ls := by
  unfold Program.keyLits
  simp only [h, hc, if_true, he, Nat.mul_one]
  obtain ⟨bs, hbs⟩ := mapM_ex (fun i => P.keyLits d e ((cs.drop i).take 1)) (List.range n) fun i hi => by
    rw [List.mem_range] at hi
    have hil : i < cs.length := by omega
    have e1 : (cs.drop i).take 1 = [cs[i]] := by rw [List.drop_eq_getElem_cons hil]; rfl
    obtain ⟨ls, hls⟩ := hk cs[i] (List.getElem_mem hil)
    exact ⟨ls, by rw [e1, hls]⟩
  exact ⟨bs.flatten, by rw [hbs]; rfl⟩
theorem kl_struct {fs : Array Field} (h : P.underlying t = some (.struct fs)) {cs : List Value} (hc : cs.length = P.cellsOf t) (hf : fs.all (·.name != "_") = true)
    (hk : ∀ f ∈ fs.toList, ∃ ls, P.keyLits d f.type ((cs.drop f.offset).take (P.cellsOf f.type)) = some ls) : ∃ ls, P.keyLits (d + 1) t cs = some ls := by
  unfold Program.keyLits
  simp only [h]
  obtain ⟨bs, hbs⟩ := mapM_ex (fun f : Field => P.keyLits d f.type ((cs.drop f.offset).take (P.cellsOf f.type))) fs.toList hk
  exact ⟨bs.flatten, by rw [if_pos ⟨hc, hf⟩, hbs]; rfl⟩
end

theorem kc1 : Tryz.prog.cellsOf 4 = 1 := by kernel_rfl
theorem kc8 : Tryz.prog.cellsOf 5 = 1 := by kernel_rfl
theorem kc16 : Tryz.prog.cellsOf 26 = 1 := by kernel_rfl
theorem kcB : Tryz.prog.cellsOf 23 = 16 := by kernel_rfl
theorem kcA : Tryz.prog.cellsOf 25 = 17 := by kernel_rfl
theorem kcE : Tryz.prog.cellsOf 28 = 18 := by kernel_rfl
theorem kcF : Tryz.prog.cellsOf 30 = 36 := by kernel_rfl
theorem kfA : (Tryz.prog.fieldsOf 25).toList.map (fun f => (f.type, f.offset)) = [(4, 0), (23, 1)] := by kernel_rfl
theorem kfE : (Tryz.prog.fieldsOf 28).toList.map (fun f => (f.type, f.offset)) = [(25, 0), (26, 17)] := by kernel_rfl
theorem kfF : (Tryz.prog.fieldsOf 30).toList.map (fun f => (f.type, f.offset)) = [(28, 0), (28, 18)] := by kernel_rfl
theorem ksA : Tryz.prog.underlying 25 = some (.struct (Tryz.prog.fieldsOf 25)) := by kernel_rfl
theorem ksE : Tryz.prog.underlying 28 = some (.struct (Tryz.prog.fieldsOf 28)) := by kernel_rfl
theorem ksF : Tryz.prog.underlying 30 = some (.struct (Tryz.prog.fieldsOf 30)) := by kernel_rfl
theorem two_fields {fs : Array Field} {t0 t1 o0 o1 : Nat} (h : fs.toList.map (fun f => (f.type, f.offset)) = [(t0, o0), (t1, o1)]) {p : Field → Prop} (hp : ∀ f : Field, (f.type = t0 ∧ f.offset = o0) ∨ (f.type = t1 ∧ f.offset = o1) → p f) : ∀ f ∈ fs.toList, p f := by
  intro f hf
  have hm : (f.type, f.offset) ∈ fs.toList.map (fun f => (f.type, f.offset)) := List.mem_map.2 ⟨f, hf, rfl⟩
  rw [h] at hm
  simp only [List.mem_cons, Prod.mk.injEq, List.not_mem_nil, or_false] at hm
  exact hp f hm
theorem addr_lits (d : Nat) (v : Bool) (l : List UInt8) (h : l.length = 16) : ∃ ls, Tryz.prog.keyLits (d + 3) 25 (Value.bool v :: bv l) = some ls := by
  refine kl_struct ksA (by rw [kcA]; simp [bv_length, h]) (by kernel_rfl) (two_fields kfA ?_)
  rintro f (⟨e1, e2⟩ | ⟨e1, e2⟩)
  · rw [e1, e2, kc1]
    exact ⟨_, kl_bool Tryz.underlying4 v⟩
  · rw [e1, e2, kcB]
    have e3 : ((Value.bool v :: bv l).drop 1).take 16 = bv l := by
      rw [List.drop_succ_cons, List.drop_zero, List.take_of_length_le (by rw [bv_length, h]; exact Nat.le_refl _)]
    rw [e3]
    refine kl_array Tryz.underlying23 kc8 (by rw [kcB, bv_length, h]) (by rw [bv_length, h]) fun x hx => ?_
    obtain ⟨b, _, rfl⟩ := List.mem_map.1 hx
    have := b.toNat_lt
    exact ⟨_, kl_int Tryz.underlying5 (by simp [Lit.wf, IntKind.min, IntKind.max, IntKind.signed, IntKind.bits]; omega)⟩
theorem ends_lits (d : Nat) (e : En) (h : e.2.1.length = 16) (hp : e.2.2 < 65536) : ∃ ls, Tryz.prog.keyLits (d + 4) 28 (enL e) = some ls := by
  refine kl_struct ksE (by rw [kcE, enL_len e h]) (by kernel_rfl) (two_fields kfE ?_)
  rintro f (⟨e1, e2⟩ | ⟨e1, e2⟩)
  · rw [e1, e2, kcA, List.drop_zero]
    have e3 : (enL e).take 17 = Value.bool e.1 :: bv e.2.1 := by
      rw [enL, ← List.cons_append, List.take_left']
      simp [bv_length, h]
    rw [e3]
    exact addr_lits d e.1 e.2.1 h
  · rw [e1, e2, kc16]
    have e3 : ((enL e).drop 17).take 1 = [.int .u16 (e.2.2 : Int)] := by
      rw [enL, ← List.cons_append, List.drop_left' (by simp [bv_length, h])]
      rfl
    rw [e3]
    exact ⟨_, kl_int (d := d + 2) Tryz.underlying26 (by simp [Lit.wf, IntKind.min, IntKind.max, IntKind.signed, IntKind.bits]; omega)⟩
theorem flow_lits (d : Nat) (a b : En) (ha : a.2.1.length = 16) (hb : b.2.1.length = 16) (pa : a.2.2 < 65536) (pb : b.2.2 < 65536) : ∃ ls, Tryz.prog.keyLits (d + 5) 30 (enL a ++ enL b) = some ls := by
  refine kl_struct ksF (by rw [kcF, List.length_append, enL_len a ha, enL_len b hb]) (by kernel_rfl) (two_fields kfF ?_)
  rintro f (⟨e1, e2⟩ | ⟨e1, e2⟩)
  · rw [e1, e2, kcE, List.drop_zero, List.take_left' (enL_len a ha)]
    exact ends_lits d a ha pa
  · rw [e1, e2, kcE, List.drop_left' (enL_len a ha), List.take_of_length_le (by rw [enL_len b hb]; exact Nat.le_refl _)]
    exact ends_lits d b hb pb
theorem flow_key (a b : En) (ha : a.2.1.length = 16) (hb : b.2.1.length = 16) (pa : a.2.2 < 65536) (pb : b.2.2 < 65536) : ∃ kl, keyOf Tryz.prog 30 (.agg (flC a b)) = some kl := by
  obtain ⟨n, hn⟩ : ∃ n, Tryz.prog.types.size + 1 = n + 5 := ⟨Tryz.prog.types.size - 4, of_decide_eq_true (by kernel_rfl)⟩
  obtain ⟨ls, hls⟩ := flow_lits n a b ha hb pa pb
  have hk : Tryz.prog.keyType 30 = true := by kernel_rfl
  have hf : (Value.agg (flC a b)).formed Tryz.prog 30 = true := by
    simp only [Value.formed, ksF, kcF, flC]
    simp [enL_len a ha, enL_len b hb]
  refine ⟨.string (keyBytes ls), ?_⟩
  unfold keyOf
  simp only [ksF, hk, hf, Bool.and_self, if_true]
  rw [hn]
  show (Tryz.prog.keyLits (n + 5) 30 (flC a b).toList).map _ = _
  rw [flC, hls]
  rfl
theorem flow_law : Go.Maps.Keyed Tryz.prog 30 := Go.Maps.Keyed.of_law (deep_law_laid (show laidOutB Tryz.prog = true by kernel_rfl) (m := 8) (by omega) (of_decide_eq_true (by kernel_rfl)) (by kernel_rfl) (by kernel_rfl))
theorem enL_inj {a b : En} (ha : a.2.1.length = 16) (hb : b.2.1.length = 16) (h : enL a = enL b) : a = b := by
  obtain ⟨u, l, p⟩ := a
  obtain ⟨v, m, q⟩ := b
  unfold enL at h
  injection h with h1 h2
  injection h1 with h1
  obtain ⟨h3, h4⟩ := List.append_inj' h2 rfl
  have h5 : l = m := by
    have := congrArg (List.map fun x : Value => match x with | .int _ n => UInt8.ofNat n.toNat | _ => 0) h3
    simpa [bv, List.map_map, Function.comp_def] using this
  injection h4 with h4 _
  injection h4 with _ h4
  dsimp only at *
  rw [h1, h5, show p = q by omega]
theorem flC_inj {a b c d : En} (ha : a.2.1.length = 16) (hb : b.2.1.length = 16) (hc : c.2.1.length = 16) (hd : d.2.1.length = 16) (h : flC a b = flC c d) : a = c ∧ b = d := by
  have h' : enL a ++ enL b = enL c ++ enL d := congrArg Array.toList h
  obtain ⟨h1, h2⟩ := List.append_inj h' (by rw [enL_len a ha, enL_len c hc])
  exact ⟨enL_inj ha hc h1, enL_inj hb hd h2⟩
end Go.Proofs.YtonafonhadocgaaGreatDoor

/- flow.Text, flow.Parse. -/
namespace Go.Proofs.YtonafonhadocgaaGreatDoor
open Go.RowKit Go.Shelf

theorem flSize : (Tryz.prog.info? 30).map (·.size) = some 36 := by kernel_rfl
theorem flC_size (a b : En) (ha : a.2.1.length = 16) (hb : b.2.1.length = 16) : (flC a b).size = 36 := by simp [flC, enL_len a ha, enL_len b hb]
theorem enL_one (e : En) : (enL e).all (·.oneCell') = true := by
  simp only [enL, List.all_cons, List.all_append, List.all_nil, Bool.and_true]
  have : (bv e.2.1).all (·.oneCell') = true := List.all_eq_true.2 fun x hx => by
    obtain ⟨_, _, rfl⟩ := List.mem_map.1 hx
    rfl
  rw [this]
  rfl
theorem flC_one (a b : En) : (flC a b).toList.all (·.oneCell') = true := by
  show (enL a ++ enL b).all (·.oneCell') = true
  rw [List.all_append, enL_one, enL_one]
  rfl
theorem flC_client (a b : En) : ((flC a b).toList.drop 0).take (enC a.1 a.2.1 a.2.2).toList.length = (enC a.1 a.2.1 a.2.2).toList := by
  show (enL a ++ enL b).take (enL a).length = enL a
  rw [List.take_left']
  rfl
theorem flC_server (a b : En) (ha : a.2.1.length = 16) : ((flC a b).toList.drop 18).take (enC b.1 b.2.1 b.2.2).toList.length = (enC b.1 b.2.1 b.2.2).toList := by
  show ((enL a ++ enL b).drop 18).take (enL b).length = enL b
  rw [List.drop_left' (enL_len a ha), List.take_of_length_le (Nat.le_refl _)]
theorem en_info (e : En) (h : e.2.1.length = 16) : (Tryz.prog.info? 28).map (·.size) = some (enC e.1 e.2.1 e.2.2).toList.length := by
  rw [enSize, Array.length_toList, enC_size _ _ _ h]
theorem flow_cat (t u : List UInt8) : (⟨t.toArray⟩ : ByteArray) ++ ⟨#[32, 62, 32]⟩ ++ ⟨u.toArray⟩ = ⟨(t ++ ([32, 62, 32] ++ u)).toArray⟩ := by
  rw [show (⟨#[32, 62, 32]⟩ : ByteArray) = ⟨([32, 62, 32] : List UInt8).toArray⟩ from rfl, ByteArray.mk_append_mk, ByteArray.mk_append_mk]
  simp
theorem enT_len (e : En) (h : e.2.1.length = 16) (hp : e.2.2 < 65536) : (enT e).length ≤ 100 := by
  have h1 := printT_len e.1 e.2.1 h
  have h2 := dec_len16 e.2.2 hp
  unfold enT endsT
  split <;> simp <;> omega
/-- What flow.Text returns. -/
def flowV (a b : En) : Value := if mayB a.1 a.2.1 && mayB b.1 b.2.1 then .tuple #[.string ⟨(flowT a b).toArray⟩, .int .i64 0] else .tuple #[.string ⟨#[]⟩, .int .i64 2]
theorem ends_two (e : En) : endsV e.1 e.2.1 e.2.2 = if mayB e.1 e.2.1 then .tuple #[.string ⟨(enT e).toArray⟩, .int .i64 0] else .tuple #[.string ⟨#[]⟩, .int .i64 2] := rfl

set_option maxRecDepth 100000 in
set_option maxHeartbeats 4000000 in
theorem text_any (a b : En) (ha : a.2.1.length = 16) (hb : b.2.1.length = 16) (pa : a.2.2 < 65536) (pb : b.2.2 < 65536) (w : World) (env : Env w) :
    Calls Tryz.prog 13 #[.agg (flC a b)] w fun e w' => e = .returned (flowV a b) ∧ Below w.heap.size w w' := by
  have K := Lib.hid (Blk.new w 30 (flC a b))
  have B := Lib.hid ((Below.refl _ w).alloc (Nat.le_refl _) (.cells (flC a b) 30))
  have E := Lib.hid env
  have HA := Lib.hid (fun W (e : Env W) => ends_any a.1 a.2.1 a.2.2 ha pa W e)
  have HB := Lib.hid (fun W (e : Env W) => ends_any b.1 b.2.1 b.2.2 hb pb W e)
  have HC := Lib.hid (flC_client a b)
  have HS := Lib.hid (flC_server a b ha)
  have HI := Lib.hid (en_info a ha)
  have HJ := Lib.hid (en_info b hb)
  have la := enT_len a ha pa
  have lb := enT_len b hb pb
  have HV := Lib.hid (show flowV a b = if mayB a.1 a.2.1 && mayB b.1 b.2.1 then .tuple #[.string ⟨(enT a ++ (arrow ++ enT b)).toArray⟩, .int .i64 0] else .tuple #[.string ⟨#[]⟩, .int .i64 2] from rfl)
  rw [ends_two a] at HA
  rw [ends_two b] at HB
  clear env
  generalize flC a b = cs at *
  generalize (enC a.1 a.2.1 a.2.2) = ca at *
  generalize (enC b.1 b.2.1 b.2.2) = cb at *
  generalize flowV a b = fv at *
  generalize enT a = ta at *
  generalize enT b = tb at *
  generalize mayB a.1 a.2.1 = ma at *
  generalize mayB b.1 b.2.1 = mb at *
  clear ha hb pa pb
  have hs1 : ¬ 9223372036854775807 < ta.length + 3 := by omega
  have hs2 : ¬ 9223372036854775807 < ta.length + 3 + tb.length := by omega
  clear la lb
  go_enter Tryz.func13, Tryz.ntmps13
  go_wp2_with (refine wpList_load_part 28 (.tmp 9) w.heap.size 0 30 cs ca.toList _ K.out HC.out (by rfl) (by rfl) Tryz.underlying28 rfl HI.out (by rfl) ?_)
  refine (HA.out _ (E.out.below B.out)).mono ?_
  rintro e w2 ⟨rfl, b⟩
  have B2 := Lib.hid (B.out.trans (b.mono B.out.size))
  have K2 := Lib.hid (K.out.keep b)
  clear b K B HA HC HI
  cases ma with
  | false =>
    go_wp2_with (refine wpList_load_part 28 (.tmp 15) w.heap.size 18 30 cs cb.toList _ K2.out HS.out (by rfl) (by rfl) Tryz.underlying28 rfl HJ.out (by rfl) ?_)
    refine (HB.out _ (E.out.below B2.out)).mono ?_
    rintro e w3 ⟨rfl, b⟩
    have B3 := Lib.hid (B2.out.trans (b.mono B2.out.size))
    clear b K2 B2 HB HS HJ
    cases mb with
    | false =>
      obtain rfl := HV.out
      go_wp2_with fail
      go_ret2
      exact ⟨rfl, B3.out⟩
    | true =>
      obtain rfl := HV.out
      go_wp2_with fail
      go_ret2
      exact ⟨rfl, B3.out⟩
  | true =>
    go_wp2_with (refine wpList_load_part 28 (.tmp 15) w.heap.size 18 30 cs cb.toList _ K2.out HS.out (by rfl) (by rfl) Tryz.underlying28 rfl HJ.out (by rfl) ?_)
    refine (HB.out _ (E.out.below B2.out)).mono ?_
    rintro e w3 ⟨rfl, b⟩
    have B3 := Lib.hid (B2.out.trans (b.mono B2.out.size))
    clear b K2 B2 HB HS HJ
    cases mb with
    | false =>
      obtain rfl := HV.out
      go_wp2_with fail
      go_ret2
      exact ⟨rfl, B3.out⟩
    | true =>
      obtain rfl := HV.out
      go_wp2_with fail
      rw [flow_cat]
      go_ret2
      exact ⟨rfl, B3.out⟩

/-! ### flow.Parse -/
theorem results_fl {fn : Func} {p t : Tmp} (h : fn.results = #[.cell p 30, .tmp t]) (tmps : Array Value) (w : World) (g : Nat) (cs : Array Value)
    (hp : tmps.getD p undef = .pointer (some ⟨g, 0, none⟩)) (hg : Blk w g 30 cs) (hi : cs.size = 36) :
    (results fn tmps).run Tryz.prog w = .ok (.tuple #[.agg cs, tmps.getD t undef]) w := by
  have hp' : tmps[p]?.getD undef = .pointer (some ⟨g, 0, none⟩) := by simpa using hp
  have hl := run_loadVar_row (P := Tryz.prog) w g 30 30 cs (0, 0) _ hg Tryz.underlying30 rfl (by rw [hi]; exact flSize)
  simp [results, h, hp', asAddr, hl]
theorem built_fl (a b : En) (ha : a.2.1.length = 16) (hb : b.2.1.length = 16) : Tryz.prog.built 30 [(0, .agg (enC a.1 a.2.1 a.2.2)), (1, .agg (enC b.1 b.2.1 b.2.2))] = some (flC a b) := by
  obtain ⟨u, l, p⟩ := a
  obtain ⟨v, m, q⟩ := b
  obtain ⟨b0, b1, b2, b3, b4, b5, b6, b7, b8, b9, b10, b11, b12, b13, b14, b15, rfl⟩ := sixteen l ha
  obtain ⟨c0, c1, c2, c3, c4, c5, c6, c7, c8, c9, c10, c11, c12, c13, c14, c15, rfl⟩ := sixteen m hb
  kernel_rfl
abbrev zE : En := (false, z16, 0)
theorem built_z : Tryz.prog.built 30 [] = some (flC zE zE) := by kernel_rfl
/-- What flow.Parse returns. -/
def flowPV (l : List UInt8) : Value := match flowP l with
  | some (a, b) => .tuple #[.agg (flC a b), .int .i64 0]
  | none => .tuple #[.agg (flC zE zE), .int .i64 9]
theorem pe_ways (x : List UInt8) : ∃ (a : En) (er : Int), a.2.1.length = 16 ∧ peV (mkB x) = .tuple #[.agg (enC a.1 a.2.1 a.2.2), .int .i64 er] ∧ ((er = 0 ∧ enP x = some a) ∨ (er = 9 ∧ enP x = none)) := by
  unfold peV enP
  cases h : peL (mkB x) with
  | none => exact ⟨zE, 9, rfl, rfl, .inr ⟨rfl, rfl⟩⟩
  | some y => exact ⟨y, 0, (enP_sound h).2.len, rfl, .inl ⟨rfl, rfl⟩⟩
theorem cut_arrow (s : ByteArray) (hs : s.size < 4294967281) (w : World) (env : Env w) :
    Calls Tryz.prog 21 #[.string s, .string ⟨#[32, 62, 32]⟩] w fun e w' => e = .returned (.tuple #[.string (mkB (Lib.cut s.data.toList arrow).1), .string (mkB (Lib.cut s.data.toList arrow).2.1), .bool (Lib.cut s.data.toList arrow).2.2]) ∧ ∃ n, w' = w.drewN n := by
  obtain ⟨m, hm⟩ := env.max
  exact Any.strings_Cut { lays145 with } s ⟨#[32, 62, 32]⟩ m w hs hm
theorem cutF_len (l : List UInt8) : (Lib.cut l arrow).1.length ≤ l.length ∧ (Lib.cut l arrow).2.1.length ≤ l.length := by
  unfold Lib.cut
  split
  · simp only [List.length_take, List.length_drop]
    omega
  · simp

set_option maxRecDepth 100000 in
set_option maxHeartbeats 8000000 in
theorem fparse_any (s : ByteArray) (hs : s.size < 4294967281) (w : World) (env : Env w) :
    Calls Tryz.prog 8 #[.string s] w fun e w' => e = .returned (flowPV s.data.toList) ∧ Below w.heap.size w w' := by
  have E := Lib.hid env
  have HCUT := Lib.hid (fun W (e : Env W) => cut_arrow s hs W e)
  have HV := Lib.hid (show flowP s.data.toList = if (Lib.cut s.data.toList arrow).2.2 then (match enP (Lib.cut s.data.toList arrow).1, enP (Lib.cut s.data.toList arrow).2.1 with | some a, some b => some (a, b) | _, _ => none) else none from rfl)
  have hlen := cutF_len s.data.toList
  have hl0 : s.data.toList.length = s.size := rfl
  obtain ⟨⟨x, t, is⟩, hcut⟩ : ∃ c, Lib.cut s.data.toList arrow = c := ⟨_, rfl⟩
  rw [hcut] at HCUT HV hlen
  dsimp only at HCUT HV hlen
  obtain ⟨a, er, la, hpa, HWA⟩ := pe_ways x
  obtain ⟨b, er2, lb, hpb, HWB⟩ := pe_ways t
  have HPA := Lib.hid (fun W (e : Env W) => parseEnds_any (mkB x) (by rw [Lib.size_eq]; show x.length < _; omega) W e)
  have HPB := Lib.hid (fun W (e : Env W) => parseEnds_any (mkB t) (by rw [Lib.size_eq]; show t.length < _; omega) W e)
  rw [hpa] at HPA
  rw [hpb] at HPB
  have WA := Lib.hid HWA
  have WB := Lib.hid HWB
  have HSA := Lib.hid (show (Tryz.prog.info? 28).map (·.size) = some (enC a.1 a.2.1 a.2.2).size by rw [enC_size _ _ _ la]; exact enSize)
  have HSZA := Lib.hid (show (enC false z16 0).size = (enC a.1 a.2.1 a.2.2).size by rw [enC_size _ _ _ la]; rfl)
  have HSB := Lib.hid (show (Tryz.prog.info? 28).map (·.size) = some (enC b.1 b.2.1 b.2.2).size by rw [enC_size _ _ _ lb]; exact enSize)
  have HSZB := Lib.hid (show (enC false z16 0).size = (enC b.1 b.2.1 b.2.2).size by rw [enC_size _ _ _ lb]; rfl)
  have HOA := Lib.hid (enC_one a.1 a.2.1 a.2.2)
  have HOB := Lib.hid (enC_one b.1 b.2.1 b.2.2)
  have HBU := Lib.hid (built_fl a b la lb)
  have HBZ := Lib.hid built_z
  have HFS := Lib.hid (show (Tryz.prog.info? 30).map (·.size) = some (flC a b).size by rw [flC_size _ _ la lb]; exact flSize)
  have HFZ := Lib.hid (show (flC zE zE).size = (flC a b).size by rw [flC_size _ _ la lb]; rfl)
  have HFO := Lib.hid (flC_one a b)
  have HFY := Lib.hid (show (Tryz.prog.info? 30).map (·.size) = some (flC zE zE).size from flSize)
  have HFN := Lib.hid (flC_size a b la lb)
  have K0 := Lib.hid (Blk.new w 30 (flC zE zE))
  have B0 := Lib.hid ((Below.refl _ w).alloc (Nat.le_refl _) (.cells (flC zE zE) 30))
  have E0 := Lib.hid (env.below B0.out)
  clear env HWA HWB hpa hpb la lb hlen hcut
  go_enter Tryz.func8, Tryz.ntmps8
  go_wp2_with fail
  refine (HCUT.out _ E0.out).mono ?_
  rintro e w1 ⟨rfl, nn, rfl⟩
  have B1 := Lib.hid (below_drewN B0.out nn)
  have E1 := Lib.hid (E0.out.drewN nn)
  have K1 := Lib.hid (show Blk ((w.alloc (.cells (flC zE zE) 30)).drewN nn) w.heap.size 30 (flC zE zE) from K0.out)
  generalize (w.alloc (.cells (flC zE zE) 30)).drewN nn = w1 at *
  clear HCUT E0 B0 K0
  go_wp2_with fail
  refine (HPA.out _ E1.out).mono ?_
  rintro e w2 ⟨rfl, b2⟩
  have B2 := Lib.hid (B1.out.trans (b2.mono B1.out.size))
  have E2 := Lib.hid (E1.out.below b2)
  have K2 := Lib.hid (K1.out.keep b2)
  clear b2 B1 E1 K1 HPA
  go_upto_region 3 with ((with_reducible refine at_store 28 (.tmp 7) (.tmp 20) ?_); refine wpList_store_blk 28 (.tmp 7) (.tmp 20) w2.heap.size 28 (enC false z16 0) (enC a.1 a.2.1 a.2.2) (Blk.new w2 28 (enC false z16 0)) (by rfl) (by rfl) (by rfl) (by rfl) HSA.out HSZA.out HOA.out (by rfl) ?_; intro w3 hk hg hs; have KA := Lib.hid hk; have B3 := Lib.hid (print_world B2.out B2.out.size hg); have E3 := Lib.hid (E2.out.below (print_world (Below.refl _ w2) (Nat.le_refl _) hg)); have K3 := Lib.hid ((K2.out.alloc _).grown hg (fun e => by have := Option.some.inj e; have := K2.out.lt; omega)); clear hk hg hs)
  clear B2 E2 K2
  go_wp2_with fail
  refine (HPB.out _ E3.out).mono ?_
  rintro e w4 ⟨rfl, b4⟩
  have B4 := Lib.hid (B3.out.trans (b4.mono B3.out.size))
  have K4 := Lib.hid (K3.out.keep b4)
  have KA4 := Lib.hid (KA.out.keep b4)
  clear b4 B3 E3 K3 KA HPB
  go_upto_region 4 with ((with_reducible refine at_store 28 (.tmp 9) (.tmp 25) ?_); refine wpList_store_blk 28 (.tmp 9) (.tmp 25) w4.heap.size 28 (enC false z16 0) (enC b.1 b.2.1 b.2.2) (Blk.new w4 28 (enC false z16 0)) (by rfl) (by rfl) (by rfl) (by rfl) HSB.out HSZB.out HOB.out (by rfl) ?_; intro w5 hk hg hs; have KB := Lib.hid hk; have B5 := Lib.hid (print_world B4.out B4.out.size hg); have K5 := Lib.hid ((K4.out.alloc _).grown hg (fun e => by have := Option.some.inj e; have := K4.out.lt; omega)); have KA5 := Lib.hid ((KA4.out.alloc _).grown hg (fun e => by have := Option.some.inj e; have := KA4.out.lt; omega)); clear hk hg hs)
  clear B4 K4 KA4
  cases is with
  | false =>
    have HR := Lib.hid (show flowPV s.data.toList = .tuple #[.agg (flC zE zE), .int .i64 9] by rw [flowPV, HV.out]; rfl)
    clear HV
    go_wp2_with (first | ((with_reducible refine at_build 30 #[] ?_); refine wpList_build_eq 30 #[] (flC zE zE) (by rfl) HBZ.out (by rfl) ?_) | ((with_reducible refine at_store 30 (.tmp 2) (.tmp 37) ?_); refine wpList_store_blk 30 (.tmp 2) (.tmp 37) w.heap.size 30 (flC zE zE) (flC zE zE) K5.out (by rfl) (by rfl) (by rfl) (by rfl) HFY.out (by rfl) (flC_one zE zE) (by rfl) ?_; intro w9 hk hg hs; have V9 := Lib.hid hk; have G9 := Lib.hid (And.intro hg hs); clear hk hg hs))
    exact bodyPost_ret (v := .tuple #[.agg (flC zE zE), .int .i64 9]) (results_fl Tryz.results8 _ _ w.heap.size (flC zE zE) rfl V9.out (flC_size zE zE rfl rfl)) rfl ⟨by rw [HR.out], B5.out.grown G9.out.1 B5.out.size (fun k e => by cases e; exact Nat.le_refl _)⟩
  | true =>
    rcases WA.out with ⟨rfl, ea⟩ | ⟨rfl, ea⟩
    rotate_left
    · rw [ea] at HV
      clear WA WB ea
      have HR := Lib.hid (show flowPV s.data.toList = .tuple #[.agg (flC zE zE), .int .i64 9] by rw [flowPV, HV.out]; rfl)
      clear HV
      go_wp2_with (first | ((with_reducible refine at_build 30 #[] ?_); refine wpList_build_eq 30 #[] (flC zE zE) (by rfl) HBZ.out (by rfl) ?_) | ((with_reducible refine at_store 30 (.tmp 2) (.tmp 37) ?_); refine wpList_store_blk 30 (.tmp 2) (.tmp 37) w.heap.size 30 (flC zE zE) (flC zE zE) K5.out (by rfl) (by rfl) (by rfl) (by rfl) HFY.out (by rfl) (flC_one zE zE) (by rfl) ?_; intro w9 hk hg hs; have V9 := Lib.hid hk; have G9 := Lib.hid (And.intro hg hs); clear hk hg hs))
      exact bodyPost_ret (v := .tuple #[.agg (flC zE zE), .int .i64 9]) (results_fl Tryz.results8 _ _ w.heap.size (flC zE zE) rfl V9.out (flC_size zE zE rfl rfl)) rfl ⟨by rw [HR.out], B5.out.grown G9.out.1 B5.out.size (fun k e => by cases e; exact Nat.le_refl _)⟩
    rcases WB.out with ⟨rfl, eb⟩ | ⟨rfl, eb⟩
    rotate_left
    · rw [ea, eb] at HV
      clear WA WB ea eb
      have HR := Lib.hid (show flowPV s.data.toList = .tuple #[.agg (flC zE zE), .int .i64 9] by rw [flowPV, HV.out]; rfl)
      clear HV
      go_wp2_with (first | ((with_reducible refine at_build 30 #[] ?_); refine wpList_build_eq 30 #[] (flC zE zE) (by rfl) HBZ.out (by rfl) ?_) | ((with_reducible refine at_store 30 (.tmp 2) (.tmp 37) ?_); refine wpList_store_blk 30 (.tmp 2) (.tmp 37) w.heap.size 30 (flC zE zE) (flC zE zE) K5.out (by rfl) (by rfl) (by rfl) (by rfl) HFY.out (by rfl) (flC_one zE zE) (by rfl) ?_; intro w9 hk hg hs; have V9 := Lib.hid hk; have G9 := Lib.hid (And.intro hg hs); clear hk hg hs))
      exact bodyPost_ret (v := .tuple #[.agg (flC zE zE), .int .i64 9]) (results_fl Tryz.results8 _ _ w.heap.size (flC zE zE) rfl V9.out (flC_size zE zE rfl rfl)) rfl ⟨by rw [HR.out], B5.out.grown G9.out.1 B5.out.size (fun k e => by cases e; exact Nat.le_refl _)⟩
    have HR := Lib.hid (show flowPV s.data.toList = .tuple #[.agg (flC a b), .int .i64 0] by rw [flowPV, HV.out, ea, eb]; rfl)
    clear HV WA WB ea eb
    go_wp2_with (first | (refine wpList_load_blk 28 (.tmp 7) w2.heap.size 28 (enC a.1 a.2.1 a.2.2) _ KA5.out (by rfl) (by rfl) Tryz.underlying28 rfl HSA.out (by rfl) ?_) | (refine wpList_load_blk 28 (.tmp 9) w4.heap.size 28 (enC b.1 b.2.1 b.2.2) _ KB.out (by rfl) (by rfl) Tryz.underlying28 rfl HSB.out (by rfl) ?_) | ((with_reducible refine at_build 30 #[(0, .tmp 38), (1, .tmp 39)] ?_); refine wpList_build_eq 30 #[(0, .tmp 38), (1, .tmp 39)] (flC a b) (by rfl) HBU.out (by rfl) ?_) | ((with_reducible refine at_store 30 (.tmp 2) (.tmp 40) ?_); refine wpList_store_blk 30 (.tmp 2) (.tmp 40) w.heap.size 30 (flC zE zE) (flC a b) K5.out (by rfl) (by rfl) (by rfl) (by rfl) HFS.out HFZ.out HFO.out (by rfl) ?_; intro w9 hk hg hs; have V9 := Lib.hid hk; have G9 := Lib.hid (And.intro hg hs); clear hk hg hs))
    exact bodyPost_ret (v := .tuple #[.agg (flC a b), .int .i64 0]) (results_fl Tryz.results8 _ _ w.heap.size (flC a b) rfl V9.out HFN.out) rfl ⟨by rw [HR.out], B5.out.grown G9.out.1 B5.out.size (fun k e => by cases e; exact Nat.le_refl _)⟩
end Go.Proofs.YtonafonhadocgaaGreatDoor
