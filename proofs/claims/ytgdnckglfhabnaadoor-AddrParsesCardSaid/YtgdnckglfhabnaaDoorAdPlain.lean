/- What is printed of an address is parsed as it was. Plain laws, no program. -/
import Derived.Test.YtgdnckglfhabnaaDoorAdPrSix
namespace Go.Proofs.YtgdnckglfhabnaaDoor
open Go.RowKit Go.Shelf

/-! ### Decimal numbers -/
theorem parseM_dec (u : Nat) : u ≤ 18446744073709551615 → ∀ r, Lib.parseUintM 18446744073709551615 0 (Lib.decDigits u ++ r) = Lib.parseUintM 18446744073709551615 u r := by
  induction u using Nat.strongRecOn with
  | _ u ih =>
    intro hu r
    rw [Lib.decDigits]
    split
    · rename_i h
      have e : (UInt8.ofNat (48 + u)).toNat = 48 + u := by rw [UInt8.toNat_ofNat']; omega
      rw [List.cons_append, List.nil_append, Lib.parseUintM, e, if_pos (by omega), if_neg (by omega), if_neg (by omega)]
      congr 1
      omega
    · rename_i h
      have e : (UInt8.ofNat (48 + u % 10)).toNat = 48 + u % 10 := by rw [UInt8.toNat_ofNat']; omega
      rw [List.append_assoc, ih (u / 10) (by omega) (by omega), List.cons_append, List.nil_append, Lib.parseUintM, e, if_pos (by omega), if_neg (by omega), if_neg (by omega)]
      congr 1
      omega
theorem dec_ne (u : Nat) : dec u ≠ [] := by
  unfold dec
  rw [Lib.decDigits]
  split <;> simp
theorem dec_digit (u : Nat) : ∀ c ∈ dec u, 48 ≤ c.toNat ∧ c.toNat ≤ 57 := by
  unfold dec
  induction u using Nat.strongRecOn with
  | _ u ih =>
    rw [Lib.decDigits]
    split
    · intro c hc
      rw [List.mem_singleton] at hc
      rw [hc, UInt8.toNat_ofNat']
      omega
    · intro c hc
      rcases List.mem_append.1 hc with hc | hc
      · exact ih (u / 10) (by omega) c hc
      · rw [List.mem_singleton] at hc
        rw [hc, UInt8.toNat_ofNat']
        omega
theorem parseB_dec (u : Nat) (h : u < 18446744073709551616) : Lib.parseUintB 64 (dec u) = .ok u := by
  have e := parseM_dec u (by omega) []
  rw [List.append_nil] at e
  rw [Lib.parseUintB, if_neg (dec_ne u)]
  exact e
theorem unum_dec (u : Nat) (h : u < 18446744073709551616) : unum (mkB (dec u)) = some u := by
  rw [unum]
  show (match Lib.parseUintB 64 (dec u) with | .ok u' => if (⟨(dec u').toArray⟩ : ByteArray) = mkB (dec u) then some u' else none | _ => none) = some u
  rw [parseB_dec u h]
  exact if_pos rfl
theorem byteOf_dec (b : UInt8) : byteOf (mkB (dec b.toNat)) = some b := by
  have := b.toNat_lt
  rw [byteOf_yes (unum_dec b.toNat (by omega)) (by omega)]
  simp

/-! ### Parts -/
theorem spl_no (b : UInt8) (x : List UInt8) (h : b ∉ x) : spl b x = [x] := by
  induction x with
  | nil => rfl
  | cons c r ih =>
    rw [spl, if_neg (fun e => h (by rw [e]; exact List.mem_cons_self)), ih (fun e => h (List.mem_cons_of_mem _ e))]
theorem spl_at (b : UInt8) (x t : List UInt8) (h : b ∉ x) : spl b (x ++ b :: t) = x :: spl b t := by
  induction x with
  | nil => rw [List.nil_append, spl, if_pos rfl]
  | cons c r ih =>
    rw [List.cons_append, spl, if_neg (fun e => h (by rw [e]; exact List.mem_cons_self)), ih (fun e => h (List.mem_cons_of_mem _ e))]
theorem join_two (b : UInt8) (x y : List UInt8) (r : List (List UInt8)) : Lib.join (x :: y :: r) [b] = x ++ b :: Lib.join (y :: r) [b] := by
  rw [Lib.join_cons, Lib.join_cons]
  simp [Lib.joinTail]
theorem spl_join (b : UInt8) : ∀ (l : List (List UInt8)), l ≠ [] → (∀ x ∈ l, b ∉ x) → spl b (Lib.join l [b]) = l
  | [], h, _ => absurd rfl h
  | [x], _, h => by rw [Lib.join_one, spl_no b x (h x (by simp))]
  | x :: y :: r, _, h => by rw [join_two, spl_at b x _ (h x (by simp)), spl_join b (y :: r) (by simp) (fun z hz => h z (List.mem_cons_of_mem _ hz))]

theorem f4_none {t : List UInt8} (h : (46 : UInt8) ∉ t) : f4 (mkB t) = none := by
  rw [f4, partsB]
  show f4L ((spl 46 t).map mkB) = none
  rw [spl_no 46 t h]
  rfl
theorem f4_print4 (l : List UInt8) (hl : l.length = 16) : f4 (mkB (print4 l)) = some (l.take 4) := by
  obtain ⟨b0, b1, b2, b3, b4, b5, b6, b7, b8, b9, b10, b11, b12, b13, b14, b15, rfl⟩ := sixteen l hl
  rw [f4, partsB]
  show f4L ((spl 46 (Lib.join [dec b0.toNat, dec b1.toNat, dec b2.toNat, dec b3.toNat] [46])).map mkB) = _
  have hd : ∀ x ∈ [dec b0.toNat, dec b1.toNat, dec b2.toNat, dec b3.toNat], (46 : UInt8) ∉ x := by
    have : ∀ n, (46 : UInt8) ∉ dec n := fun n hm => by have := dec_digit n 46 hm; simp at this
    intro x hx
    simp only [List.mem_cons, List.not_mem_nil, or_false] at hx
    rcases hx with rfl | rfl | rfl | rfl <;> exact this _
  rw [spl_join 46 _ (by simp) hd]
  simp only [List.map_cons, List.map_nil, f4L, byteOf_dec]
  rfl

/-! ### Groups -/
theorem hxd_ok : ∀ k : Nat, k < 16 → isHx (hxd k) = true ∧ hxn (hxd k) = k ∧ hxd k ≠ 58 ∧ hxd k ≠ 46 := by decide +kernel
theorem hex_all (n : Nat) (h : n < 65536) : ∀ c ∈ hex n, isHx c = true ∧ c ≠ 58 ∧ c ≠ 46 := by
  have g : ∀ k, k < 16 → isHx (hxd k) = true ∧ hxd k ≠ 58 ∧ hxd k ≠ 46 := fun k hk => ⟨(hxd_ok k hk).1, (hxd_ok k hk).2.2⟩
  intro c hc
  unfold hex at hc
  split at hc
  · simp only [List.mem_cons, List.not_mem_nil, or_false] at hc
    rw [hc]; exact g _ (by omega)
  · split at hc
    · simp only [List.mem_cons, List.not_mem_nil, or_false] at hc
      rcases hc with rfl | rfl <;> exact g _ (by omega)
    · split at hc
      · simp only [List.mem_cons, List.not_mem_nil, or_false] at hc
        rcases hc with rfl | rfl | rfl <;> exact g _ (by omega)
      · simp only [List.mem_cons, List.not_mem_nil, or_false] at hc
        rcases hc with rfl | rfl | rfl | rfl <;> exact g _ (by omega)
theorem hex_ne (n : Nat) : hex n ≠ [] := by
  unfold hex
  split
  · simp
  · split
    · simp
    · split <;> simp
theorem phex_hex (n : Nat) (h : n < 65536) : phex 0 (hex n) = some n := by
  have g : ∀ k, k < 16 → hxn (hxd k) = k := fun k hk => (hxd_ok k hk).2.1
  unfold hex
  split
  · simp only [phex, g n (by omega)]
    rw [if_neg (by omega)]
    congr 1; omega
  · split
    · simp only [phex, g (n / 16) (by omega), g (n % 16) (by omega)]
      rw [if_neg (by omega), if_neg (by omega)]
      congr 1; omega
    · split
      · simp only [phex, g (n / 256) (by omega), g (n / 16 % 16) (by omega), g (n % 16) (by omega)]
        rw [if_neg (by omega), if_neg (by omega), if_neg (by omega)]
        congr 1; omega
      · simp only [phex, g (n / 4096) (by omega), g (n / 256 % 16) (by omega), g (n / 16 % 16) (by omega), g (n % 16) (by omega)]
        rw [if_neg (by omega), if_neg (by omega), if_neg (by omega), if_neg (by omega)]
        congr 1; omega
theorem grp_hex (n : Nat) (h : n < 65536) : grpB (mkB (hex n)) = true ∧ grpN (mkB (hex n)) = n := by
  constructor
  · have h1 := hex_len n
    have h2 := List.length_pos_iff.2 (hex_ne n)
    simp only [grpB, Bool.and_eq_true, decide_eq_true_eq, List.all_eq_true]
    have e : (mkB (hex n)).size = (hex n).length := rfl
    exact ⟨⟨fun c hc => (hex_all n h c hc).1, by omega⟩, by omega⟩
  · show (phex 0 (hex n)).getD 0 = n
    rw [phex_hex n h]
    rfl
theorem someA_hex (last : Bool) : ∀ (gs acc : List Nat), (∀ x ∈ gs, x < 65536) → someA last acc (gs.map fun n => mkB (hex n)) = some (acc ++ gs)
  | [], acc, _ => by simp [someA]
  | n :: r, acc, h => by
    have hn := h n (by simp)
    have hf : f4 (mkB (hex n)) = none := f4_none fun hm => (hex_all n hn 46 hm).2.2 rfl
    rw [List.map_cons, someA, hf, if_neg (by simp), if_pos (grp_hex n hn).1, (grp_hex n hn).2, someA_hex last r _ fun x hx => h x (List.mem_cons_of_mem _ hx)]
    simp
def hexes (gs : List Nat) : List UInt8 := Lib.join (gs.map hex) [58]
theorem hexes_two (x y : Nat) (r : List Nat) : hexes (x :: y :: r) = hex x ++ 58 :: hexes (y :: r) := join_two 58 (hex x) (hex y) (r.map hex)
theorem hexes_one (x : Nat) : hexes [x] = hex x := Lib.join_one _ _
theorem hexes_ne (x : Nat) (r : List Nat) : ∃ c t, hexes (x :: r) = c :: t ∧ c ∈ hex x := by
  obtain ⟨c, t, e⟩ := List.exists_cons_of_ne_nil (hex_ne x)
  cases r with
  | nil => exact ⟨c, t, by rw [hexes_one, e], by rw [e]; simp⟩
  | cons y r => exact ⟨c, t ++ 58 :: hexes (y :: r), by rw [hexes_two, e]; rfl, by rw [e]; simp⟩
theorem someG_hexes (last : Bool) (gs : List Nat) (h : ∀ x ∈ gs, x < 65536) : someG (mkB (hexes gs)) last = some gs := by
  cases gs with
  | nil => rw [someG, if_pos (show (mkB (hexes [])).data.toList = [] from rfl)]
  | cons x r =>
    obtain ⟨c, t, e, _⟩ := hexes_ne x r
    rw [someG, if_neg (by show hexes (x :: r) ≠ []; rw [e]; simp)]
    have hp : partsB 58 (mkB (hexes (x :: r))) = (x :: r).map fun n => mkB (hex n) := by
      show (spl 58 (hexes (x :: r))).map mkB = _
      rw [hexes, spl_join 58 _ (by simp) (fun y hy => by
        obtain ⟨n, hn, rfl⟩ := List.mem_map.1 hy
        exact fun hm => (hex_all n (h n hn) 58 hm).2.1 rfl), List.map_map]
      rfl
    rw [hp, someA_hex last _ _ h]
    rfl

/-! ### The two colons -/
theorem index_skip (x t : List UInt8) (h : (58 : UInt8) ∉ x) : Lib.index (x ++ t) [58, 58] = if Lib.index t [58, 58] = -1 then -1 else Lib.index t [58, 58] + x.length := by
  induction x with
  | nil =>
    rw [List.nil_append]
    split
    · assumption
    · simp
  | cons c r ih =>
    have hc : c ≠ 58 := fun e => h (by rw [e]; exact List.mem_cons_self)
    have ih' := ih fun e => h (List.mem_cons_of_mem _ e)
    have hp : ([58, 58] : List UInt8).isPrefixOf (c :: (r ++ t)) = false := by
      simp only [List.isPrefixOf, Bool.and_eq_false_iff, beq_eq_false_iff_ne]
      exact .inl fun e => hc e.symm
    rw [List.cons_append, Lib.index, hp, ih']
    have hge := Lib.index_ge t [58, 58]
    by_cases h1 : Lib.index t [58, 58] = -1
    · simp [h1]
    · rw [if_neg h1, if_neg h1]
      have h2 : (Lib.index t [58, 58] + (r.length : Int) == -1) = false := by rw [beq_eq_false_iff_ne]; omega
      simp only [Bool.false_eq_true, if_false, h2, List.length_cons]
      omega
theorem index_colon (c : UInt8) (t : List UInt8) (h : c ≠ 58) : Lib.index (58 :: c :: t) [58, 58] = if Lib.index (c :: t) [58, 58] = -1 then -1 else Lib.index (c :: t) [58, 58] + 1 := by
  have hp : ([58, 58] : List UInt8).isPrefixOf (58 :: c :: t) = false := by
    simp only [List.isPrefixOf, Bool.and_eq_false_iff, beq_eq_false_iff_ne]
    exact .inr (.inl fun e => h e.symm)
  rw [Lib.index, hp]
  by_cases h1 : Lib.index (c :: t) [58, 58] = -1
  · simp [h1]
  · have h2 : (Lib.index (c :: t) [58, 58] == -1) = false := by rw [beq_eq_false_iff_ne]; exact h1
    simp only [Bool.false_eq_true, if_false, h2, h1]
theorem index_hexes (t : List UInt8) : ∀ gs : List Nat, (∀ x ∈ gs, x < 65536) → gs ≠ [] → Lib.index (hexes gs ++ t) [58, 58] = if Lib.index t [58, 58] = -1 then -1 else Lib.index t [58, 58] + (hexes gs).length
  | [], _, h => absurd rfl h
  | [x], hx, _ => by
    rw [hexes_one]
    exact index_skip _ _ fun hm => (hex_all x (hx x (by simp)) 58 hm).2.1 rfl
  | x :: y :: r, hx, _ => by
    have ih := index_hexes t (y :: r) (fun z hz => hx z (List.mem_cons_of_mem _ hz)) (by simp)
    obtain ⟨c, s, e, hc⟩ := hexes_ne y r
    have hc58 := (hex_all y (hx y (by simp)) c hc).2.1
    have hge := Lib.index_ge t [58, 58]
    rw [hexes_two, List.append_assoc, index_skip _ _ fun hm => (hex_all x (hx x (by simp)) 58 hm).2.1 rfl, List.cons_append]
    rw [e] at ih ⊢
    rw [List.cons_append] at ih ⊢
    rw [index_colon c _ hc58, ih]
    by_cases h1 : Lib.index t [58, 58] = -1
    · simp [h1]
    · rw [if_neg h1, if_neg (by omega), if_neg (by omega), if_neg h1]
      simp only [List.length_cons, List.length_append]
      omega
theorem cut_no (gs : List Nat) (hx : ∀ x ∈ gs, x < 65536) : cutL (hexes gs) = (hexes gs, [], false) := by
  have h : Lib.index (hexes gs) [58, 58] = -1 := by
    cases gs with
    | nil => rfl
    | cons x r =>
      have := index_hexes [] (x :: r) hx (by simp)
      rw [List.append_nil] at this
      rw [this]
      rfl
  rw [cutL, Lib.cut, h]
  rfl
theorem cut_yes (gs : List Nat) (hx : ∀ x ∈ gs, x < 65536) (t : List UInt8) : cutL (hexes gs ++ [58, 58] ++ t) = (hexes gs, t, true) := by
  have h0 : Lib.index ([58, 58] ++ t) [58, 58] = 0 := by
    rw [List.cons_append, Lib.index]
    simp [List.isPrefixOf]
  have h : Lib.index (hexes gs ++ ([58, 58] ++ t)) [58, 58] = (hexes gs).length := by
    cases gs with
    | nil => exact h0
    | cons x r =>
      rw [index_hexes _ (x :: r) hx (by simp), h0]
      simp
  rw [List.append_assoc, cutL, Lib.cut, h, if_pos (by omega)]
  have e1 : (hexes gs ++ ([58, 58] ++ t)).take ((hexes gs).length : Int).toNat = hexes gs := by simp
  have e2 : (hexes gs ++ ([58, 58] ++ t)).drop (((hexes gs).length : Int).toNat + ([58, 58] : List UInt8).length) = t := by
    rw [show ((hexes gs).length : Int).toNat = (hexes gs).length by omega, List.drop_append]
    simp
  rw [e1, e2]

/-! ### The run of noughts -/
theorem zrun_take : ∀ l : List Nat, l.take (zrun l) = List.replicate (zrun l) 0
  | [] => rfl
  | x :: r => by
    rw [zrun]
    split
    · rename_i h
      rw [List.take_succ_cons, zrun_take r, h, List.replicate_succ]
    · rfl
theorem runF_room (gs : List Nat) (hl : gs.length = 8) : ∀ k, k ≤ 8 → (runF gs k).1 + (runF gs k).2 ≤ 8 ∧ (gs.drop (runF gs k).1).take (runF gs k).2 = List.replicate (runF gs k).2 0
  | 0, _ => ⟨by simp [runF], by simp [runF]⟩
  | k + 1, h => by
    have ih := runF_room gs hl k (by omega)
    rw [runF]
    split
    · have := zrun_le (gs.drop k)
      rw [List.length_drop, hl] at this
      exact ⟨by omega, zrun_take _⟩
    · exact ih
theorem run_parts (gs : List Nat) (hl : gs.length = 8) : gs.take (runF gs 8).1 ++ List.replicate (runF gs 8).2 0 ++ gs.drop ((runF gs 8).1 + (runF gs 8).2) = gs := by
  rw [← (runF_room gs hl 8 (by omega)).2, List.append_assoc, ← List.drop_drop, List.take_append_drop, List.take_append_drop]

theorem flat_unflat : ∀ (l : List UInt8) (k : Nat), l.length = 2 * k → flat (unflat l) = l
  | a :: b :: r, k, h => by
    have ha := a.toNat_lt
    have hb := b.toNat_lt
    rw [unflat, flat, flat_unflat r (k - 1) (by simp at h; omega), show (a.toNat * 256 + b.toNat) / 256 = a.toNat by omega, show (a.toNat * 256 + b.toNat) % 256 = b.toNat by omega]
    simp
  | [a], k, h => by simp at h; omega
  | [], _, _ => rfl

/-! ### Print, and Parse of it -/
/-- The text of an address that may be. -/
def printT (v6 : Bool) (l : List UInt8) : List UInt8 :=
  if v6 then
    if (runF (unflat l) 8).2 < 2 then hexes (unflat l)
    else hexes ((unflat l).take (runF (unflat l) 8).1) ++ [58, 58] ++ hexes ((unflat l).drop ((runF (unflat l) 8).1 + (runF (unflat l) 8).2))
  else print4 l
theorem hexes_dot (gs : List Nat) (hx : ∀ x ∈ gs, x < 65536) : (46 : UInt8) ∉ hexes gs := by
  match gs with
  | [] => simp [hexes, Lib.join_nil]
  | [x] =>
    rw [hexes_one]
    exact fun hm => (hex_all x (hx x (by simp)) 46 hm).2.2 rfl
  | x :: y :: r =>
    rw [hexes_two]
    intro hm
    rcases List.mem_append.1 hm with hm | hm
    · exact (hex_all x (hx x (by simp)) 46 hm).2.2 rfl
    · rcases List.mem_cons.1 hm with hm | hm
      · exact absurd hm (by decide)
      · exact hexes_dot (y :: r) (fun z hz => hx z (List.mem_cons_of_mem _ hz)) hm
theorem parse_print (v6 : Bool) (l : List UInt8) (hl : l.length = 16) (hm : mayB v6 l = true) : parseA (printT v6 l) = some (v6, l) := by
  cases v6
  · have hd : l.drop 4 = List.replicate 12 0 := by simpa [mayB] using hm
    rw [parseA, show printT false l = print4 l from rfl, f4_print4 l hl]
    show some (false, l.take 4 ++ List.replicate 12 0) = _
    rw [← hd, List.take_append_drop]
  · have hu := unflat_len l 8 hl
    have hlt := unflat_lt l
    have hf := flat_unflat l 8 hl
    have hp := run_parts _ hu
    have hr := runF_room _ hu 8 (by omega)
    rw [show printT true l = if (runF (unflat l) 8).2 < 2 then hexes (unflat l) else hexes ((unflat l).take (runF (unflat l) 8).1) ++ [58, 58] ++ hexes ((unflat l).drop ((runF (unflat l) 8).1 + (runF (unflat l) 8).2)) from rfl]
    generalize unflat l = gs at *
    generalize runF gs 8 = r at *
    by_cases h2 : r.2 < 2
    · rw [if_pos h2, parseA, f4_none (hexes_dot gs hlt), cut_no gs hlt]
      simp only [Bool.not_false, someG_hexes _ gs hlt, show someG (mkB []) true = some [] from rfl]
      rw [if_neg (by simp [hu])]
      simp [hu, hf]
    · have hA : ∀ x ∈ gs.take r.1, x < 65536 := fun x hx => hlt x (List.mem_of_mem_take hx)
      have hB : ∀ x ∈ gs.drop (r.1 + r.2), x < 65536 := fun x hx => hlt x (List.mem_of_mem_drop hx)
      have hdot : (46 : UInt8) ∉ hexes (gs.take r.1) ++ [58, 58] ++ hexes (gs.drop (r.1 + r.2)) := by
        intro hm
        rcases List.mem_append.1 hm with hm | hm
        · rcases List.mem_append.1 hm with hm | hm
          · exact hexes_dot _ hA hm
          · simp at hm
        · exact hexes_dot _ hB hm
      rw [if_neg h2, parseA, f4_none hdot, cut_yes _ hA]
      simp only [Bool.not_true, someG_hexes _ _ hA, someG_hexes _ _ hB]
      have e1 : (gs.take r.1).length + (gs.drop (r.1 + r.2)).length = 8 - r.2 := by rw [List.length_take, List.length_drop, hu]; omega
      rw [if_neg (by rw [e1]; simp; omega), e1, show 8 - (8 - r.2) = r.2 by omega, hp, hf]
end Go.Proofs.YtgdnckglfhabnaaDoor
