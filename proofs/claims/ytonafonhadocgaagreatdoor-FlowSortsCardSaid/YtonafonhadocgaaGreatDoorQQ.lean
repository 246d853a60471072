/- Laws and walks that the claim's last text leans on, joined: each part says above itself what it proves. -/
import Derived.Test.YtonafonhadocgaaGreatDoorQI
import Derived.Deep.RegionHeld3

/- The reference's text of an IPv6 address, piece by piece. Plain laws, no program. -/
namespace Go.Proofs.YtonafonhadocgaaGreatDoor
open Go.RowKit Go.Shelf

/-- The longest run of two noughts or more, among the first k beginnings; where, how many. -/
def rrun (gs : List Nat) : Nat → Nat × Nat
  | 0 => (0, 1)
  | k + 1 => if (rrun gs k).2 < zrun (gs.drop k) then (k, zrun (gs.drop k)) else rrun gs k
theorem rrun_eq (gs : List Nat) : ∀ k, rrun gs k = if 1 < (runF gs k).2 then runF gs k else (0, 1)
  | 0 => rfl
  | k + 1 => by
    have ih := rrun_eq gs k
    rw [rrun, runF, ih]
    generalize runF gs k = r at *
    generalize zrun (gs.drop k) = z at *
    by_cases h : 1 < r.2 <;> by_cases h2 : r.2 < z <;> by_cases h3 : 1 < z <;> simp [h, h2, h3] <;> omega

theorem hexes_snoc (x : Nat) : ∀ gs : List Nat, gs ≠ [] → hexes (gs ++ [x]) = hexes gs ++ 58 :: hex x
  | [], h => absurd rfl h
  | [a], _ => by rw [List.singleton_append, hexes_two, hexes_one, hexes_one]
  | a :: b :: r, _ => by
    have ih := hexes_snoc x (b :: r) (by simp)
    rw [List.cons_append] at ih
    rw [List.cons_append, List.cons_append, hexes_two, hexes_two, ih, List.append_assoc, List.cons_append]
theorem hex_last (x : Nat) (h : x < 65536) : ∃ t c, hex x = t ++ [c] ∧ c ≠ 58 := by
  have hne := hex_ne x
  refine ⟨(hex x).dropLast, (hex x).getLast hne, (List.dropLast_concat_getLast hne).symm, (hex_all x h _ (List.getLast_mem hne)).2.1⟩
theorem hexes_last (gs : List Nat) (hx : ∀ x ∈ gs, x < 65536) (hne : gs ≠ []) : ∃ t c, hexes gs = t ++ [c] ∧ c ≠ 58 := by
  obtain ⟨r, x, rfl⟩ : ∃ r x, gs = r ++ [x] := ⟨gs.dropLast, gs.getLast hne, (List.dropLast_concat_getLast hne).symm⟩
  obtain ⟨t, c, e, hc⟩ := hex_last x (hx x (by simp))
  by_cases hr : r = []
  · subst hr
    exact ⟨t, c, by rw [List.nil_append, hexes_one, e], hc⟩
  · exact ⟨hexes r ++ 58 :: t, c, by rw [hexes_snoc x r hr, e]; simp, hc⟩

/-- The text behind i of the eight rounds. -/
def rpT (gs : List Nat) (at_ m i : Nat) : List UInt8 :=
  if m ≤ 1 ∨ i ≤ at_ then hexes (gs.take i)
  else if i ≤ at_ + m then hexes (gs.take at_) ++ [58, 58]
  else hexes (gs.take at_) ++ [58, 58] ++ hexes ((gs.drop (at_ + m)).take (i - (at_ + m)))
theorem hexes_nil : hexes [] = [] := rfl
theorem rpT_len (gs : List Nat) (hl : gs.length = 8) (at_ m i : Nat) : (rpT gs at_ m i).length ≤ 82 := by
  have h1 := hexes_len (gs.take i) (by rw [List.length_take]; omega)
  have h2 := hexes_len (gs.take at_) (by rw [List.length_take]; omega)
  have h3 := hexes_len ((gs.drop (at_ + m)).take (i - (at_ + m))) (by rw [List.length_take, List.length_drop]; omega)
  unfold rpT
  split
  · omega
  · split
    · simp; omega
    · simp; omega
/-- At the run's beginning. -/
theorem rpT_at (gs : List Nat) (at_ m : Nat) (hm : 1 < m) : rpT gs at_ m at_ ++ [58, 58] = rpT gs at_ m (at_ + 1) := by
  unfold rpT
  rw [if_pos (.inr (Nat.le_refl _)), if_neg (by omega), if_pos (by omega)]
/-- Within the run. -/
theorem rpT_in (gs : List Nat) (at_ m i : Nat) (hm : 1 < m) (h1 : at_ < i) (h2 : i < at_ + m) : rpT gs at_ m (i + 1) = rpT gs at_ m i := by
  unfold rpT
  rw [if_neg (by omega), if_pos (by omega), if_neg (by omega), if_pos (by omega)]
theorem take_snoc (gs : List Nat) (i : Nat) (h : i < gs.length) : gs.take (i + 1) = gs.take i ++ [gs[i]] := by
  rw [List.take_add_one, List.getElem?_eq_getElem h]
  rfl
/-- A round that writes a group: with a colon ahead, or none. -/
theorem rpT_step (gs : List Nat) (hl : gs.length = 8) (hx : ∀ x ∈ gs, x < 65536) (at_ m i : Nat) (hi : i < 8) (hm : m ≤ 1 ∨ i < at_ ∨ at_ + m ≤ i) :
    (rpT gs at_ m i = [] ∧ rpT gs at_ m (i + 1) = hex (gs[i]'(by omega))) ∨
    (∃ t, rpT gs at_ m i = t ++ [58] ∧ rpT gs at_ m (i + 1) = rpT gs at_ m i ++ hex (gs[i]'(by omega))) ∨
    (∃ t c, rpT gs at_ m i = t ++ [c] ∧ c ≠ 58 ∧ rpT gs at_ m (i + 1) = rpT gs at_ m i ++ [58] ++ hex (gs[i]'(by omega))) := by
  have hi' : i < gs.length := by omega
  by_cases hA : m ≤ 1 ∨ i < at_
  · have e1 : rpT gs at_ m i = hexes (gs.take i) := by rw [rpT, if_pos (by omega)]
    have e2 : rpT gs at_ m (i + 1) = hexes (gs.take i ++ [gs[i]]) := by rw [rpT, if_pos (by omega), take_snoc gs i hi']
    by_cases h0 : i = 0
    · subst h0
      refine .inl ⟨by rw [e1, List.take_zero, hexes_nil], ?_⟩
      rw [e2, List.take_zero, List.nil_append, hexes_one]
    · have hne : gs.take i ≠ [] := by
        intro e
        have := congrArg List.length e
        rw [List.length_take, List.length_nil] at this
        omega
      obtain ⟨t, c, e, hc⟩ := hexes_last (gs.take i) (fun x h => hx x (List.mem_of_mem_take h)) hne
      refine .inr (.inr ⟨t, c, by rw [e1, e], hc, ?_⟩)
      rw [e2, hexes_snoc _ _ hne, e1]
      simp
  · have hm1 : ¬ m ≤ 1 := fun h => hA (.inl h)
    have hat : at_ + m ≤ i := by omega
    have e2 : rpT gs at_ m (i + 1) = hexes (gs.take at_) ++ [58, 58] ++ hexes ((gs.drop (at_ + m)).take (i - (at_ + m)) ++ [gs[i]]) := by
      have e3 : (gs.drop (at_ + m)).take (i + 1 - (at_ + m)) = (gs.drop (at_ + m)).take (i - (at_ + m)) ++ [gs[i]] := by
        rw [show i + 1 - (at_ + m) = (i - (at_ + m)) + 1 by omega, take_snoc _ _ (by rw [List.length_drop]; omega), List.getElem_drop]
        congr 3
        omega
      rw [rpT, if_neg (by omega), if_neg (by omega), e3]
    by_cases h0 : i = at_ + m
    · have e1 : rpT gs at_ m i = hexes (gs.take at_) ++ [58, 58] := by rw [rpT, if_neg (by omega), if_pos (by omega)]
      refine .inr (.inl ⟨hexes (gs.take at_) ++ [58], by rw [e1]; simp, ?_⟩)
      rw [e2, e1, show i - (at_ + m) = 0 by omega, List.take_zero, List.nil_append, hexes_one]
    · have e1 : rpT gs at_ m i = hexes (gs.take at_) ++ [58, 58] ++ hexes ((gs.drop (at_ + m)).take (i - (at_ + m))) := by rw [rpT, if_neg (by omega), if_neg (by omega)]
      have hne : (gs.drop (at_ + m)).take (i - (at_ + m)) ≠ [] := by
        intro e
        have := congrArg List.length e
        rw [List.length_take, List.length_drop, List.length_nil] at this
        omega
      obtain ⟨t, c, e, hc⟩ := hexes_last _ (fun x h => hx x (List.mem_of_mem_drop (List.mem_of_mem_take h))) hne
      refine .inr (.inr ⟨hexes (gs.take at_) ++ [58, 58] ++ t, c, by rw [e1, e]; simp, hc, ?_⟩)
      rw [e2, e1, hexes_snoc _ _ hne]
      simp
theorem rpT_end (l : List UInt8) (hl : l.length = 16) : rpT (unflat l) (rrun (unflat l) 8).1 (rrun (unflat l) 8).2 8 = printT true l := by
  have hu := unflat_len l 8 hl
  have hr := (runF_room _ hu 8 (by omega)).1
  rw [printT, if_pos rfl, rrun_eq]
  generalize unflat l = gs at *
  by_cases h : 1 < (runF gs 8).2
  · rw [if_pos h, if_neg (by omega)]
    generalize runF gs 8 = r at *
    rw [rpT, if_neg (by omega)]
    by_cases h8 : 8 ≤ r.1 + r.2
    · rw [if_pos h8, List.drop_eq_nil_of_le (by omega), hexes_nil, List.append_nil]
    · rw [if_neg h8, List.take_of_length_le (l := gs.drop (r.1 + r.2)) (by rw [List.length_drop]; omega)]
  · rw [if_neg h, if_pos (by omega), rpT, if_pos (.inl (Nat.le_refl _)), List.take_of_length_le (by omega)]
theorem rrun_room (gs : List Nat) (hl : gs.length = 8) (k : Nat) (hk : k ≤ 8) : (rrun gs k).1 + (rrun gs k).2 ≤ 8 := by
  rw [rrun_eq]
  have := (runF_room gs hl k hk).1
  split
  · exact this
  · show 0 + 1 ≤ 8
    omega
end Go.Proofs.YtonafonhadocgaaGreatDoor

/- The reference's digits, group, May. -/
namespace Go.Proofs.YtonafonhadocgaaGreatDoor
open Go.RowKit Go.Shelf

/-- The digits of a number to a base. -/
def digsF : Nat → Nat → Nat → List UInt8
  | 0, _, _ => []
  | f + 1, n, b => if n < b then [hxd (n % b)] else digsF f (n / b) b ++ [hxd (n % b)]

theorem digsF_dec (f : Nat) : ∀ n, n < 2 ^ f → digsF (f + 1) n 10 = dec n := by
  unfold dec
  induction f with
  | zero =>
    intro n h
    have : n = 0 := by simpa using h
    subst this
    rw [Lib.decDigits]
    rfl
  | succ f ih =>
    intro n h
    rw [digsF, Lib.decDigits]
    have e : hxd (n % 10) = UInt8.ofNat (48 + n % 10) := by rw [hxd, if_pos (by omega)]
    by_cases hn : n < 10
    · rw [if_pos hn, dif_pos hn, e, Nat.mod_eq_of_lt hn]
    · rw [if_neg hn, dif_neg hn, ih (n / 10) (by rw [Nat.pow_succ] at h; omega), e]
theorem digsF_hex (n : Nat) (h : n < 65536) : digsF 17 n 16 = hex n := by
  unfold hex
  rw [digsF]
  by_cases h1 : n < 16
  · rw [if_pos h1, if_pos h1, Nat.mod_eq_of_lt h1]
  · rw [if_neg h1, if_neg h1, digsF]
    by_cases h2 : n < 256
    · rw [if_pos (by omega), if_pos h2, Nat.mod_eq_of_lt (by omega : n / 16 < 16)]
      rfl
    · rw [if_neg (by omega), if_neg h2, digsF]
      by_cases h3 : n < 4096
      · rw [if_pos (by omega), if_pos h3, Nat.mod_eq_of_lt (by omega : n / 16 / 16 < 16), Nat.div_div_eq_div_mul]
        rfl
      · rw [if_neg (by omega), if_neg h3, digsF, if_pos (by omega), Nat.mod_eq_of_lt (by omega : n / 16 / 16 / 16 < 16), show n / 16 / 16 / 16 = n / 4096 by omega, show n / 16 / 16 % 16 = n / 256 % 16 by omega]
        rfl
theorem digsF_len (f n b : Nat) : (digsF f n b).length ≤ f := by
  induction f generalizing n with
  | zero => exact Nat.le_refl _
  | succ f ih =>
    rw [digsF]
    split
    · simp
    · have := ih (n / b)
      simp; omega

set_option maxRecDepth 100000 in
set_option maxHeartbeats 4000000 in
theorem digits_any (b : Nat) (hb : 2 ≤ b) (hb2 : b ≤ 16) : ∀ (f : Nat) (n : Nat) (w : World), f ≤ 100 → n < b ^ f → n ≤ 65535 → 0 < f →
    Calls Tryz.prog 65 #[.int .i64 n, .int .i64 b] w fun e w' => e = .returned (.string ⟨(digsF f n b).toArray⟩) ∧ Below w.heap.size w w' := by
  intro f
  induction f with
  | zero => intro n w _ _ _ h; cases h
  | succ f ih =>
    intro n w hf hn h16 _
    have HI := Lib.hid (fun (h0 : 0 < f) (hd : n / b < b ^ f) W => ih (n / b) W (by omega) hd (Nat.le_trans (Nat.div_le_self n b) h16) h0)
    obtain ⟨r, hrd⟩ : ∃ r, r = n % b := ⟨_, rfl⟩
    obtain ⟨q, hqd⟩ : ∃ q, q = n / b := ⟨_, rfl⟩
    have hr16 : r < 16 := by rw [hrd]; exact Nat.lt_of_lt_of_le (Nat.mod_lt _ (by omega)) hb2
    have hq : (n : Int) / (b : Int) = (q : Int) := by rw [hqd]; rfl
    have hr : (n : Int) % (b : Int) = (r : Int) := by rw [hrd]; rfl
    have hq16 : q ≤ 65535 := by rw [hqd]; exact Nat.le_trans (Nat.div_le_self n b) h16
    have HD := Lib.hid (show digsF (f + 1) n b = if n < b then [hxd r] else digsF f q b ++ [hxd r] by rw [digsF, hrd, hqd])
    have HF : n < b ∨ (0 < f ∧ n / b < b ^ f) := by
      by_cases h : n < b
      · exact .inl h
      · refine .inr ⟨?_, ?_⟩
        · cases f with
          | zero => rw [Nat.pow_one] at hn; exact absurd hn h
          | succ f => omega
        · rw [Nat.pow_succ] at hn
          exact Nat.div_lt_of_lt_mul (by rw [Nat.mul_comm]; exact hn)
    rw [← hqd] at HI HF
    have hc : ((hxd r).toNat : Int) = if r ≤ 9 then 48 + (r : Int) else 87 + (r : Int) := by
      unfold hxd
      by_cases h : r ≤ 9
      · rw [if_pos (by omega), if_pos h, UInt8.toNat_ofNat']; omega
      · rw [if_neg (by omega), if_neg h, UInt8.toNat_ofNat']; omega
    have hw1 : IntKind.u8.wrap (48 + (r : Int)) = 48 + (r : Int) := by simp [IntKind.wrap, IntKind.bits, IntKind.signed]; omega
    have hw2 : IntKind.u8.wrap (87 + (r : Int)) = 87 + (r : Int) := by simp [IntKind.wrap, IntKind.bits, IntKind.signed]; omega
    have B1 := Lib.hid ((Below.refl _ w).alloc (Nat.le_refl _) (.cells (bv [hxd r]).toArray 5))
    have hv := conv_str (P := Tryz.prog) (w := w.alloc (.cells (bv [hxd r]).toArray 5)) (A := some ⟨w.heap.size, 0, none⟩) (n := 1) (c := 1) (l := [hxd r]) ⟨rfl, Nat.le_refl _, by omega, fun _ => ⟨w.heap.size, 0, rfl, fun k hk => by
      obtain rfl : k = 0 := by omega
      rw [World.cell?_alloc_new]; rfl⟩⟩ 63 9 Tryz.underlying63 Tryz.underlying5 Tryz.underlying9
    rw [show (bv [hxd r]).toArray = #[.int .u8 ((hxd r).toNat : Int)] from rfl] at hv B1
    have hl := digsF_len f q b
    have HL := Lib.hid (show ¬ 9223372036854775807 < (digsF f q b).length + 1 by omega)
    have HC := Lib.hid (ByteArray.mk_append_mk (digsF f q b) [hxd r])
    generalize digsF f q b = dq at *
    generalize hxd r = cc at *
    clear hrd hqd hn hl
    clear ih
    by_cases h9 : r ≤ 9
    · have h9' : ¬ (9 : Int) < (r : Int) := by omega
      rw [if_pos h9] at hc
      rw [hc] at hv B1
      generalize hW : w.alloc (.cells #[.int .u8 (48 + (r : Int))] 5) = w1 at *
      by_cases hnb : n < b
      · rw [if_pos hnb] at HD
        have hnb' : (n : Int) < (b : Int) := by omega
        go_enter Tryz.func65, Tryz.ntmps65
        go_wp2_with fail
        go_ret
        exact ⟨by rw [HD.out]; rfl, B1.out⟩
      · rw [if_neg hnb] at HD
        have hnb' : ¬ (n : Int) < (b : Int) := by omega
        obtain ⟨hf0, hqf⟩ := HF.resolve_left hnb
        have HJ := Lib.hid (HI.out hf0 hqf)
        clear HF hqf hf0 HI
        go_enter Tryz.func65, Tryz.ntmps65
        go_wp2_with fail
        refine (HJ.out _).mono ?_
        rintro e w2 ⟨rfl, bb⟩
        have B2 := Lib.hid (B1.out.trans (bb.mono B1.out.size))
        have hl := HL.out
        clear bb
        go_wp2_with fail
        go_ret
        exact ⟨by rw [HD.out, ← HC.out]; rfl, B2.out⟩
    · have h9' : (9 : Int) < (r : Int) := by omega
      rw [if_neg h9] at hc
      rw [hc] at hv B1
      generalize hW : w.alloc (.cells #[.int .u8 (87 + (r : Int))] 5) = w1 at *
      by_cases hnb : n < b
      · rw [if_pos hnb] at HD
        have hnb' : (n : Int) < (b : Int) := by omega
        go_enter Tryz.func65, Tryz.ntmps65
        go_wp2_with fail
        go_ret
        exact ⟨by rw [HD.out]; rfl, B1.out⟩
      · rw [if_neg hnb] at HD
        have hnb' : ¬ (n : Int) < (b : Int) := by omega
        obtain ⟨hf0, hqf⟩ := HF.resolve_left hnb
        have HJ := Lib.hid (HI.out hf0 hqf)
        clear HF hqf hf0 HI
        go_enter Tryz.func65, Tryz.ntmps65
        go_wp2_with fail
        refine (HJ.out _).mono ?_
        rintro e w2 ⟨rfl, bb⟩
        have B2 := Lib.hid (B1.out.trans (bb.mono B1.out.size))
        have hl := HL.out
        clear bb
        go_wp2_with fail
        go_ret
        exact ⟨by rw [HD.out, ← HC.out]; rfl, B2.out⟩

/-- Of a number of sixteen bits. -/
theorem digits10 (n : Nat) (h : n < 65536) (w : World) : Calls Tryz.prog 65 #[.int .i64 n, .int .i64 10] w fun e w' => e = .returned (.string ⟨(dec n).toArray⟩) ∧ Below w.heap.size w w' := by
  have := digits_any 10 (by omega) (by omega) 17 n w (by omega) (by omega) (by omega) (by omega)
  rw [digsF_dec 16 n h] at this
  exact this
theorem digits16 (n : Nat) (h : n < 65536) (w : World) : Calls Tryz.prog 65 #[.int .i64 n, .int .i64 16] w fun e w' => e = .returned (.string ⟨(hex n).toArray⟩) ∧ Below w.heap.size w w' := by
  have := digits_any 16 (by omega) (by omega) 17 n w (by omega) (by omega) (by omega) (by omega)
  rw [digsF_hex n h] at this
  exact this
end Go.Proofs.YtonafonhadocgaaGreatDoor

/- The reference's group and May. -/
namespace Go.Proofs.YtonafonhadocgaaGreatDoor
open Go.RowKit Go.Shelf

set_option maxRecDepth 100000 in
set_option maxHeartbeats 4000000 in
theorem group_at (u : Bool) (l : List UInt8) (i : Nat) (hl : l.length = 16) (hi : i < 8) (w : World) :
    Calls Tryz.prog 94 #[.agg (adC u l), .int .i64 i] w fun e w' => e = .returned (.int .i64 (((unflat l)[i]?).getD 0)) ∧ Below w.heap.size w w' := by
  have hU := unflat_at l i (by omega)
  have HR := Lib.hid (show (((unflat l)[i]?).getD 0 : Nat) = (l[2 * i]'(by omega)).toNat * 256 + (l[2 * i + 1]'(by omega)).toNat by rw [hU]; rfl)
  have q1 : (w.alloc (.cells (adC u l) 25)).cell? ⟨w.heap.size, 1 + 2 * i, none⟩ = some (.int .u8 ((l[2 * i]'(by omega)).toNat : Int)) := by
    rw [(Blk.new w 25 (adC u l)).cell, adC_get u l _ (by omega), List.getElem?_eq_getElem (by omega)]
    rfl
  have q2 : (w.alloc (.cells (adC u l) 25)).cell? ⟨w.heap.size, 1 + (2 * i + 1), none⟩ = some (.int .u8 ((l[2 * i + 1]'(by omega)).toNat : Int)) := by
    rw [(Blk.new w 25 (adC u l)).cell, adC_get u l _ (by omega), List.getElem?_eq_getElem (by omega)]
    rfl
  have B := Lib.hid ((Below.refl _ w).alloc (Nat.le_refl _) (.cells (adC u l) 25))
  have hx := (l[2 * i]'(by omega)).toNat_lt
  have hy := (l[2 * i + 1]'(by omega)).toNat_lt
  generalize (l[2 * i]'(by omega)).toNat = x at *
  generalize (l[2 * i + 1]'(by omega)).toNat = y at *
  generalize ((unflat l)[i]?).getD 0 = gr at *
  clear hU hl
  obtain ⟨cs, hcs⟩ : ∃ cs, cs = adC u l := ⟨_, rfl⟩
  rw [← hcs] at q1 q2 B ⊢
  clear hcs
  go_enter Tryz.func94, Tryz.ntmps94
  go_upto_region 1 with fail
  generalize w.alloc (.cells cs 25) = w1 at *
  go_quiet (fail)
  go_wp2
  go_ret
  exact ⟨by rw [HR.out, show ((x * 256 + y : Nat) : Int) = 256 * (x : Int) + (y : Int) by omega]; rfl, below_drewN B.out _⟩

theorem may_no {l : List UInt8} {i : Nat} (h4 : 4 ≤ i) (hi : i < l.length) (h : l[i] ≠ 0) : mayB false l = false := by
  rw [mayB, Bool.false_or, decide_eq_false_iff_not]
  intro e
  have e2 : (l.drop 4)[i - 4]? = some l[i] := by
    rw [List.getElem?_drop, show 4 + (i - 4) = i by omega, List.getElem?_eq_getElem hi]
  rw [e, List.getElem?_replicate] at e2
  split at e2
  · injection e2 with e2
    exact h e2.symm
  · cases e2
theorem may_all {l : List UInt8} (hl : l.length = 16) (h : ∀ j (hj : j < l.length), 4 ≤ j → l[j] = 0) : mayB false l = true := by
  rw [mayB, Bool.false_or, decide_eq_true_eq]
  apply List.ext_getElem
  · simp [hl]
  · intro k h1 h2
    rw [List.getElem_drop, List.getElem_replicate, h (4 + k) (by simp at h1; omega) (by omega)]

end Go.Proofs.YtonafonhadocgaaGreatDoor

/- The reference's Print of an IPv4 address. -/
namespace Go.Proofs.YtonafonhadocgaaGreatDoor
open Go.RowKit Go.Shelf

theorem print4_eq (b0 b1 b2 b3 : UInt8) (r : List UInt8) : print4 (b0 :: b1 :: b2 :: b3 :: r) = dec b0.toNat ++ [46] ++ dec b1.toNat ++ [46] ++ dec b2.toNat ++ [46] ++ dec b3.toNat := by
  show Lib.join [dec b0.toNat, dec b1.toNat, dec b2.toNat, dec b3.toNat] [46] = _
  rw [join_two, join_two, join_two, Lib.join_one]
  simp
theorem cat7 (a b c d : List UInt8) : ((((((⟨a.toArray⟩ : ByteArray) ++ ⟨#[46]⟩) ++ ⟨b.toArray⟩) ++ ⟨#[46]⟩) ++ ⟨c.toArray⟩) ++ ⟨#[46]⟩) ++ ⟨d.toArray⟩ = ⟨(a ++ [46] ++ b ++ [46] ++ c ++ [46] ++ d).toArray⟩ := by
  rw [show (⟨#[46]⟩ : ByteArray) = ⟨([46] : List UInt8).toArray⟩ from rfl]
  simp only [ByteArray.mk_append_mk]

def Four (g : Nat) (x0 x1 x2 x3 : Nat) (w : World) : Prop := w.cell? ⟨g, 1, none⟩ = some (.int .u8 x0) ∧ w.cell? ⟨g, 2, none⟩ = some (.int .u8 x1) ∧ w.cell? ⟨g, 3, none⟩ = some (.int .u8 x2) ∧ w.cell? ⟨g, 4, none⟩ = some (.int .u8 x3)
theorem Four.keep {g x0 x1 x2 x3 : Nat} {w w' : World} (h : Four g x0 x1 x2 x3 w) (hb : Below w.heap.size w w') : Four g x0 x1 x2 x3 w' := ⟨cell_later hb h.1, cell_later hb h.2.1, cell_later hb h.2.2.1, cell_later hb h.2.2.2⟩

set_option maxRecDepth 100000 in
set_option maxHeartbeats 8000000 in
theorem rprint_four (l : List UInt8) (hl : l.length = 16) (w : World) :
    Calls Tryz.prog 64 #[.agg (adC false l)] w fun e w' => e = .returned (.string ⟨(print4 l).toArray⟩) ∧ Below w.heap.size w w' := by
  obtain ⟨b0, b1, b2, b3, b4, b5, b6, b7, b8, b9, b10, b11, b12, b13, b14, b15, rfl⟩ := sixteen l hl
  have HP := Lib.hid (print4_eq b0 b1 b2 b3 [b4, b5, b6, b7, b8, b9, b10, b11, b12, b13, b14, b15])
  have B := Lib.hid ((Below.refl _ w).alloc (Nat.le_refl _) (.cells (adC false [b0, b1, b2, b3, b4, b5, b6, b7, b8, b9, b10, b11, b12, b13, b14, b15]) 25))
  have k := Blk.new w 25 (adC false [b0, b1, b2, b3, b4, b5, b6, b7, b8, b9, b10, b11, b12, b13, b14, b15])
  have q0 : (w.alloc (.cells (adC false [b0, b1, b2, b3, b4, b5, b6, b7, b8, b9, b10, b11, b12, b13, b14, b15]) 25)).cell? ⟨w.heap.size, 0, none⟩ = some (.bool false) := k.cell 0
  have HF := Lib.hid (show Four w.heap.size b0.toNat b1.toNat b2.toNat b3.toNat (w.alloc (.cells (adC false [b0, b1, b2, b3, b4, b5, b6, b7, b8, b9, b10, b11, b12, b13, b14, b15]) 25)) from ⟨k.cell 1, k.cell 2, k.cell 3, k.cell 4⟩)
  clear k
  obtain ⟨cs, hcs⟩ : ∃ cs, cs = adC false [b0, b1, b2, b3, b4, b5, b6, b7, b8, b9, b10, b11, b12, b13, b14, b15] := ⟨_, rfl⟩
  rw [← hcs] at B q0 HF ⊢
  have h0 := b0.toNat_lt
  have h1 := b1.toNat_lt
  have h2 := b2.toNat_lt
  have h3 := b3.toNat_lt
  have HD := Lib.hid (fun (n : Nat) (h : n < 65536) W => digits10 n h W)
  have e0 := dec_len b0.toNat h0
  have e1 := dec_len b1.toNat h1
  have e2 := dec_len b2.toNat h2
  have e3 := dec_len b3.toNat h3
  have HC := Lib.hid (cat7 (dec b0.toNat) (dec b1.toNat) (dec b2.toNat) (dec b3.toNat))
  have D0 := Lib.hid (HD.out b0.toNat (by omega))
  have D1 := Lib.hid (HD.out b1.toNat (by omega))
  have D2 := Lib.hid (HD.out b2.toNat (by omega))
  have D3 := Lib.hid (HD.out b3.toNat (by omega))
  generalize print4 [b0, b1, b2, b3, b4, b5, b6, b7, b8, b9, b10, b11, b12, b13, b14, b15] = pt at *
  generalize dec b0.toNat = t0 at *
  generalize dec b1.toNat = t1 at *
  generalize dec b2.toNat = t2 at *
  generalize dec b3.toNat = t3 at *
  generalize b0.toNat = x0 at *
  generalize b1.toNat = x1 at *
  generalize b2.toNat = x2 at *
  generalize b3.toNat = x3 at *
  have c1 : ¬ 9223372036854775807 < t0.length + 1 := by omega
  have c2 : ¬ 9223372036854775807 < t0.length + 1 + t1.length := by omega
  have c3 : ¬ 9223372036854775807 < t0.length + 1 + t1.length + 1 := by omega
  have c4 : ¬ 9223372036854775807 < t0.length + 1 + t1.length + 1 + t2.length := by omega
  have c5 : ¬ 9223372036854775807 < t0.length + 1 + t1.length + 1 + t2.length + 1 := by omega
  have c6 : ¬ 9223372036854775807 < t0.length + 1 + t1.length + 1 + t2.length + 1 + t3.length := by omega
  clear hcs HD hl e0 e1 e2 e3
  have C := Lib.hid (And.intro c1 (And.intro c2 (And.intro c3 (And.intro c4 (And.intro c5 c6)))))
  clear c1 c2 c3 c4 c5 c6
  have w0 : IntKind.i64.wrap (x0 : Int) = x0 := by rw [IntKind.wrap_i64]; omega
  have w1 : IntKind.i64.wrap (x1 : Int) = x1 := by rw [IntKind.wrap_i64]; omega
  have w2 : IntKind.i64.wrap (x2 : Int) = x2 := by rw [IntKind.wrap_i64]; omega
  have w3 : IntKind.i64.wrap (x3 : Int) = x3 := by rw [IntKind.wrap_i64]; omega
  go_enter Tryz.func64, Tryz.ntmps64
  go_upto_region 2 with fail
  clear q0
  refine wp_region_held_drew (S := Four w.heap.size x0 x1 x2 x3) (by kernel_rfl) (⟨HF.out.1, HF.out.2.1, HF.out.2.2.1, HF.out.2.2.2⟩) (fun hHeld => ?_)
  have BB := Lib.hid (below_drew B.out)
  clear B HF
  refine wpAnyH_take (i := 0) (oi := _) (v := ?_) rfl (by kernel_rfl) (by kernel_rfl) (by kernel_rfl) (fun _ _ _ h => h) (Or.inl ⟨by rfl, ?_⟩) (by assumption) ?_
  case refine_2 => (intro w hSw; (try unfold Four at hSw); go_simp <;> with_reducible rfl)
  try simp only [List.getElem_toArray, List.getElem_cons_zero, Act.put, List.setIfInBounds_toArray, List.set_cons_zero, List.set_cons_succ]
  refine wpAnyH_take (i := 1) (oi := _) (v := ?_) rfl (by kernel_rfl) (by kernel_rfl) (by kernel_rfl) (fun _ _ _ h => h) (Or.inl ⟨by rfl, ?_⟩) (by assumption) ?_
  case refine_2 => (intro w hSw; (try unfold Four at hSw); go_simp <;> with_reducible rfl)
  try simp only [List.getElem_toArray, List.getElem_cons_zero, List.getElem_cons_succ, Act.put, List.setIfInBounds_toArray, List.set_cons_zero, List.set_cons_succ]
  refine wpAnyH_take (i := 2) (oi := _) (v := ?_) rfl (by kernel_rfl) (by kernel_rfl) (by kernel_rfl) (fun _ _ _ h => h) (Or.inl ⟨by rfl, ?_⟩) (by assumption) ?_
  case refine_2 => (intro w hSw; (try unfold Four at hSw); go_simp <;> with_reducible rfl)
  try simp only [List.getElem_toArray, List.getElem_cons_zero, List.getElem_cons_succ, Act.put, List.setIfInBounds_toArray, List.set_cons_zero, List.set_cons_succ]
  refine wpAnyH_take (i := 3) (oi := _) (v := ?_) rfl (by kernel_rfl) (by kernel_rfl) (by kernel_rfl) (fun _ _ _ h => h) (Or.inl ⟨by rfl, ?_⟩) (by assumption) ?_
  case refine_2 => (intro w hSw; (try unfold Four at hSw); go_simp <;> with_reducible rfl)
  try simp only [List.getElem_toArray, List.getElem_cons_zero, List.getElem_cons_succ, Act.put, List.setIfInBounds_toArray, List.set_cons_zero, List.set_cons_succ]
  refine wpAnyH_take (i := 6) (oi := _) (v := ?_) rfl (by kernel_rfl) (by kernel_rfl) (by kernel_rfl) (fun _ _ _ h => h) (Or.inl ⟨by rfl, ?_⟩) (by assumption) ?_
  case refine_2 => (intro w hSw; (try unfold Four at hSw); go_simp <;> with_reducible rfl)
  try simp only [List.getElem_toArray, List.getElem_cons_zero, List.getElem_cons_succ, Act.put, List.setIfInBounds_toArray, List.set_cons_zero, List.set_cons_succ]
  refine wpAnyH_take (i := 7) (oi := _) (v := ?_) rfl (by kernel_rfl) (by kernel_rfl) (by kernel_rfl) (fun _ _ _ h => h) (Or.inl ⟨by rfl, ?_⟩) (by assumption) ?_
  case refine_2 => (intro w hSw; (try unfold Four at hSw); go_simp <;> with_reducible rfl)
  try simp only [List.getElem_toArray, List.getElem_cons_zero, List.getElem_cons_succ, Act.put, List.setIfInBounds_toArray, List.set_cons_zero, List.set_cons_succ]
  refine wpAnyH_take (i := 8) (oi := _) (v := ?_) rfl (by kernel_rfl) (by kernel_rfl) (by kernel_rfl) (fun _ _ _ h => h) (Or.inl ⟨by rfl, ?_⟩) (by assumption) ?_
  case refine_2 => (intro w hSw; (try unfold Four at hSw); go_simp <;> with_reducible rfl)
  try simp only [List.getElem_toArray, List.getElem_cons_zero, List.getElem_cons_succ, Act.put, List.setIfInBounds_toArray, List.set_cons_zero, List.set_cons_succ]
  refine wpAnyH_take (i := 9) (oi := _) (v := ?_) rfl (by kernel_rfl) (by kernel_rfl) (by kernel_rfl) (fun _ _ _ h => h) (Or.inl ⟨by rfl, ?_⟩) (by assumption) ?_
  case refine_2 => (intro w hSw; (try unfold Four at hSw); go_simp <;> with_reducible rfl)
  try simp only [List.getElem_toArray, List.getElem_cons_zero, List.getElem_cons_succ, Act.put, List.setIfInBounds_toArray, List.set_cons_zero, List.set_cons_succ]
  refine wpAnyH_take (i := 13) (oi := _) (v := ?_) rfl (by kernel_rfl) (by kernel_rfl) (by kernel_rfl) (fun _ _ _ h => h) (Or.inl ⟨by rfl, ?_⟩) (by assumption) ?_
  case refine_2 => (intro w hSw; (try unfold Four at hSw); go_simp <;> with_reducible rfl)
  try simp only [List.getElem_toArray, List.getElem_cons_zero, List.getElem_cons_succ, Act.put, List.setIfInBounds_toArray, List.set_cons_zero, List.set_cons_succ]
  refine wpAnyH_take (i := 14) (oi := _) (v := ?_) rfl (by kernel_rfl) (by kernel_rfl) (by kernel_rfl) (fun _ _ _ h => h) (Or.inl ⟨by rfl, ?_⟩) (by assumption) ?_
  case refine_2 => (intro w hSw; (try unfold Four at hSw); go_simp <;> with_reducible rfl)
  try simp only [List.getElem_toArray, List.getElem_cons_zero, List.getElem_cons_succ, Act.put, List.setIfInBounds_toArray, List.set_cons_zero, List.set_cons_succ]
  refine wpAnyH_take (i := 15) (oi := _) (v := ?_) rfl (by kernel_rfl) (by kernel_rfl) (by kernel_rfl) (fun _ _ _ h => h) (Or.inl ⟨by rfl, ?_⟩) (by assumption) ?_
  case refine_2 => (intro w hSw; (try unfold Four at hSw); go_simp <;> with_reducible rfl)
  try simp only [List.getElem_toArray, List.getElem_cons_zero, List.getElem_cons_succ, Act.put, List.setIfInBounds_toArray, List.set_cons_zero, List.set_cons_succ]
  refine wpAnyH_take (i := 16) (oi := _) (v := ?_) rfl (by kernel_rfl) (by kernel_rfl) (by kernel_rfl) (fun _ _ _ h => h) (Or.inl ⟨by rfl, ?_⟩) (by assumption) ?_
  case refine_2 => (intro w hSw; (try unfold Four at hSw); go_simp <;> with_reducible rfl)
  try simp only [List.getElem_toArray, List.getElem_cons_zero, List.getElem_cons_succ, Act.put, List.setIfInBounds_toArray, List.set_cons_zero, List.set_cons_succ]
  refine wpAnyH_take (i := 20) (oi := _) (v := ?_) rfl (by kernel_rfl) (by kernel_rfl) (by kernel_rfl) (fun _ _ _ h => h) (Or.inl ⟨by rfl, ?_⟩) (by assumption) ?_
  case refine_2 => (intro w hSw; (try unfold Four at hSw); go_simp <;> with_reducible rfl)
  try simp only [List.getElem_toArray, List.getElem_cons_zero, List.getElem_cons_succ, Act.put, List.setIfInBounds_toArray, List.set_cons_zero, List.set_cons_succ]
  refine wpAnyH_take (i := 21) (oi := _) (v := ?_) rfl (by kernel_rfl) (by kernel_rfl) (by kernel_rfl) (fun _ _ _ h => h) (Or.inl ⟨by rfl, ?_⟩) (by assumption) ?_
  case refine_2 => (intro w hSw; (try unfold Four at hSw); go_simp <;> with_reducible rfl)
  try simp only [List.getElem_toArray, List.getElem_cons_zero, List.getElem_cons_succ, Act.put, List.setIfInBounds_toArray, List.set_cons_zero, List.set_cons_succ]
  refine wpAnyH_take (i := 22) (oi := _) (v := ?_) rfl (by kernel_rfl) (by kernel_rfl) (by kernel_rfl) (fun _ _ _ h => h) (Or.inl ⟨by rfl, ?_⟩) (by assumption) ?_
  case refine_2 => (intro w hSw; (try unfold Four at hSw); go_simp <;> with_reducible rfl)
  try simp only [List.getElem_toArray, List.getElem_cons_zero, List.getElem_cons_succ, Act.put, List.setIfInBounds_toArray, List.set_cons_zero, List.set_cons_succ]
  refine wpAnyH_take (i := 23) (oi := _) (v := ?_) rfl (by kernel_rfl) (by kernel_rfl) (by kernel_rfl) (fun _ _ _ h => h) (Or.inl ⟨by rfl, ?_⟩) (by assumption) ?_
  case refine_2 => (intro w hSw; (try unfold Four at hSw); go_simp <;> with_reducible rfl)
  try simp only [List.getElem_toArray, List.getElem_cons_zero, List.getElem_cons_succ, Act.put, List.setIfInBounds_toArray, List.set_cons_zero, List.set_cons_succ]
  refine wpAnyH_ready (rs := [4]) (by kernel_rfl) (by simp) ?_
  refine AllReadyH.cons (o := _) rfl (fun K hK => ?_) AllReadyH.nil
  simp only [List.getElem_toArray, List.getElem_cons_zero, List.getElem_cons_succ]
  go_simp
  refine (D0.out _).mono ?_
  rintro e wn ⟨rfl, b⟩
  have Bn := Lib.hid (BB.out.trans (b.mono BB.out.size))
  have hH := hHeld.keep b
  clear b BB
  go_simp
  refine hK.out _ _ hH (fun hHeld2 => ?_)
  clear hK K hHeld hH
  have hHeld := hHeld2
  have BB := Bn
  clear hHeld2 Bn
  try simp only [List.getElem_toArray, List.getElem_cons_zero, List.getElem_cons_succ, Act.put, List.setIfInBounds_toArray, List.set_cons_zero, List.set_cons_succ]
  obtain ⟨c1, c2, c3, c4, c5, c6⟩ := C.out
  refine wpAnyH_take (i := 5) (oi := _) (v := ?_) rfl (by kernel_rfl) (by kernel_rfl) (by kernel_rfl) (fun _ _ _ h => h) (Or.inl ⟨by rfl, ?_⟩) (by assumption) ?_
  case refine_2 => (intro w hSw; (try unfold Four at hSw); go_simp <;> with_reducible rfl)
  try simp only [List.getElem_toArray, List.getElem_cons_zero, List.getElem_cons_succ, Act.put, List.setIfInBounds_toArray, List.set_cons_zero, List.set_cons_succ]
  clear c1 c2 c3 c4 c5 c6
  refine wpAnyH_ready (rs := [10]) (by kernel_rfl) (by simp) ?_
  refine AllReadyH.cons (o := _) rfl (fun K hK => ?_) AllReadyH.nil
  simp only [List.getElem_toArray, List.getElem_cons_zero, List.getElem_cons_succ]
  go_simp
  refine (D1.out _).mono ?_
  rintro e wn ⟨rfl, b⟩
  have Bn := Lib.hid (BB.out.trans (b.mono BB.out.size))
  have hH := hHeld.keep b
  clear b BB
  go_simp
  refine hK.out _ _ hH (fun hHeld2 => ?_)
  clear hK K hHeld hH
  have hHeld := hHeld2
  have BB := Bn
  clear hHeld2 Bn
  try simp only [List.getElem_toArray, List.getElem_cons_zero, List.getElem_cons_succ, Act.put, List.setIfInBounds_toArray, List.set_cons_zero, List.set_cons_succ]
  obtain ⟨c1, c2, c3, c4, c5, c6⟩ := C.out
  refine wpAnyH_take (i := 11) (oi := _) (v := ?_) rfl (by kernel_rfl) (by kernel_rfl) (by kernel_rfl) (fun _ _ _ h => h) (Or.inl ⟨by rfl, ?_⟩) (by assumption) ?_
  case refine_2 => (intro w hSw; (try unfold Four at hSw); go_simp <;> with_reducible rfl)
  try simp only [List.getElem_toArray, List.getElem_cons_zero, List.getElem_cons_succ, Act.put, List.setIfInBounds_toArray, List.set_cons_zero, List.set_cons_succ]
  refine wpAnyH_take (i := 12) (oi := _) (v := ?_) rfl (by kernel_rfl) (by kernel_rfl) (by kernel_rfl) (fun _ _ _ h => h) (Or.inl ⟨by rfl, ?_⟩) (by assumption) ?_
  case refine_2 => (intro w hSw; (try unfold Four at hSw); go_simp <;> with_reducible rfl)
  try simp only [List.getElem_toArray, List.getElem_cons_zero, List.getElem_cons_succ, Act.put, List.setIfInBounds_toArray, List.set_cons_zero, List.set_cons_succ]
  clear c1 c2 c3 c4 c5 c6
  refine wpAnyH_ready (rs := [17]) (by kernel_rfl) (by simp) ?_
  refine AllReadyH.cons (o := _) rfl (fun K hK => ?_) AllReadyH.nil
  simp only [List.getElem_toArray, List.getElem_cons_zero, List.getElem_cons_succ]
  go_simp
  refine (D2.out _).mono ?_
  rintro e wn ⟨rfl, b⟩
  have Bn := Lib.hid (BB.out.trans (b.mono BB.out.size))
  have hH := hHeld.keep b
  clear b BB
  go_simp
  refine hK.out _ _ hH (fun hHeld2 => ?_)
  clear hK K hHeld hH
  have hHeld := hHeld2
  have BB := Bn
  clear hHeld2 Bn
  try simp only [List.getElem_toArray, List.getElem_cons_zero, List.getElem_cons_succ, Act.put, List.setIfInBounds_toArray, List.set_cons_zero, List.set_cons_succ]
  obtain ⟨c1, c2, c3, c4, c5, c6⟩ := C.out
  refine wpAnyH_take (i := 18) (oi := _) (v := ?_) rfl (by kernel_rfl) (by kernel_rfl) (by kernel_rfl) (fun _ _ _ h => h) (Or.inl ⟨by rfl, ?_⟩) (by assumption) ?_
  case refine_2 => (intro w hSw; (try unfold Four at hSw); go_simp <;> with_reducible rfl)
  try simp only [List.getElem_toArray, List.getElem_cons_zero, List.getElem_cons_succ, Act.put, List.setIfInBounds_toArray, List.set_cons_zero, List.set_cons_succ]
  refine wpAnyH_take (i := 19) (oi := _) (v := ?_) rfl (by kernel_rfl) (by kernel_rfl) (by kernel_rfl) (fun _ _ _ h => h) (Or.inl ⟨by rfl, ?_⟩) (by assumption) ?_
  case refine_2 => (intro w hSw; (try unfold Four at hSw); go_simp <;> with_reducible rfl)
  try simp only [List.getElem_toArray, List.getElem_cons_zero, List.getElem_cons_succ, Act.put, List.setIfInBounds_toArray, List.set_cons_zero, List.set_cons_succ]
  clear c1 c2 c3 c4 c5 c6
  refine wpAnyH_ready (rs := [24]) (by kernel_rfl) (by simp) ?_
  refine AllReadyH.cons (o := _) rfl (fun K hK => ?_) AllReadyH.nil
  simp only [List.getElem_toArray, List.getElem_cons_zero, List.getElem_cons_succ]
  go_simp
  refine (D3.out _).mono ?_
  rintro e wn ⟨rfl, b⟩
  have Bn := Lib.hid (BB.out.trans (b.mono BB.out.size))
  have hH := hHeld.keep b
  clear b BB
  go_simp
  refine hK.out _ _ hH (fun hHeld2 => ?_)
  clear hK K hHeld hH
  have hHeld := hHeld2
  have BB := Bn
  clear hHeld2 Bn
  try simp only [List.getElem_toArray, List.getElem_cons_zero, List.getElem_cons_succ, Act.put, List.setIfInBounds_toArray, List.set_cons_zero, List.set_cons_succ]
  obtain ⟨c1, c2, c3, c4, c5, c6⟩ := C.out
  refine wpAnyH_take (i := 25) (oi := _) (v := ?_) rfl (by kernel_rfl) (by kernel_rfl) (by kernel_rfl) (fun _ _ _ h => h) (Or.inl ⟨by rfl, ?_⟩) (by assumption) ?_
  case refine_2 => (intro w hSw; (try unfold Four at hSw); go_simp <;> with_reducible rfl)
  try simp only [List.getElem_toArray, List.getElem_cons_zero, List.getElem_cons_succ, Act.put, List.setIfInBounds_toArray, List.set_cons_zero, List.set_cons_succ]
  clear c1 c2 c3 c4 c5 c6
  refine wpAnyH_take (i := 26) (oi := _) (v := ?_) rfl (by kernel_rfl) (by kernel_rfl) (by kernel_rfl) (fun _ _ _ h => h) (Or.inl ⟨by rfl, ?_⟩) (by assumption) ?_
  case refine_2 => (intro w hSw; (try unfold Four at hSw); go_simp <;> with_reducible rfl)
  try simp only [List.getElem_toArray, List.getElem_cons_zero, List.getElem_cons_succ, Act.put, List.setIfInBounds_toArray, List.set_cons_zero, List.set_cons_succ]
  refine wpAnyH_done (by kernel_rfl) ?_ _
  clear hHeld
  go_wp2_with fail
  all_goals (go_ret; exact ⟨by rw [HP.out, ← HC.out]; rfl, BB.out⟩)
end Go.Proofs.YtonafonhadocgaaGreatDoor
