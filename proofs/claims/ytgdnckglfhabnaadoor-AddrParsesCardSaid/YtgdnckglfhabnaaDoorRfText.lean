/- The reference's text of an IPv6 address, piece by piece. Plain laws, no program. -/
import Derived.Test.YtgdnckglfhabnaaDoorAdEnds
namespace Go.Proofs.YtgdnckglfhabnaaDoor
open Go.RowKit Go.Shelf

/-- The longest run of two noughts or more, among the first k beginnings; where, how many. -/
def rrun (gs : List Nat) : Nat → Nat × Nat
  | 0 => (0, 1)
  | k + 1 => if (rrun gs k).2 < zrun (gs.drop k) then (k, zrun (gs.drop k)) else rrun gs k
theorem rrun_eq (gs : List Nat) : ∀ k, rrun gs k = if 1 < (runF gs k).2 then runF gs k else (0, 1)
  | 0 => rfl
  | k + 1 => by
    have ih := rrun_eq gs k
    rw [rrun, runF, ih]
    generalize runF gs k = r at *
    generalize zrun (gs.drop k) = z at *
    by_cases h : 1 < r.2 <;> by_cases h2 : r.2 < z <;> by_cases h3 : 1 < z <;> simp [h, h2, h3] <;> omega

theorem hexes_snoc (x : Nat) : ∀ gs : List Nat, gs ≠ [] → hexes (gs ++ [x]) = hexes gs ++ 58 :: hex x
  | [], h => absurd rfl h
  | [a], _ => by rw [List.singleton_append, hexes_two, hexes_one, hexes_one]
  | a :: b :: r, _ => by
    have ih := hexes_snoc x (b :: r) (by simp)
    rw [List.cons_append] at ih
    rw [List.cons_append, List.cons_append, hexes_two, hexes_two, ih, List.append_assoc, List.cons_append]
theorem hex_last (x : Nat) (h : x < 65536) : ∃ t c, hex x = t ++ [c] ∧ c ≠ 58 := by
  have hne := hex_ne x
  refine ⟨(hex x).dropLast, (hex x).getLast hne, (List.dropLast_concat_getLast hne).symm, (hex_all x h _ (List.getLast_mem hne)).2.1⟩
theorem hexes_last (gs : List Nat) (hx : ∀ x ∈ gs, x < 65536) (hne : gs ≠ []) : ∃ t c, hexes gs = t ++ [c] ∧ c ≠ 58 := by
  obtain ⟨r, x, rfl⟩ : ∃ r x, gs = r ++ [x] := ⟨gs.dropLast, gs.getLast hne, (List.dropLast_concat_getLast hne).symm⟩
  obtain ⟨t, c, e, hc⟩ := hex_last x (hx x (by simp))
  by_cases hr : r = []
  · subst hr
    exact ⟨t, c, by rw [List.nil_append, hexes_one, e], hc⟩
  · exact ⟨hexes r ++ 58 :: t, c, by rw [hexes_snoc x r hr, e]; simp, hc⟩

/-- The text behind i of the eight rounds. -/
def rpT (gs : List Nat) (at_ m i : Nat) : List UInt8 :=
  if m ≤ 1 ∨ i ≤ at_ then hexes (gs.take i)
  else if i ≤ at_ + m then hexes (gs.take at_) ++ [58, 58]
  else hexes (gs.take at_) ++ [58, 58] ++ hexes ((gs.drop (at_ + m)).take (i - (at_ + m)))
theorem hexes_nil : hexes [] = [] := rfl
theorem rpT_len (gs : List Nat) (hl : gs.length = 8) (at_ m i : Nat) : (rpT gs at_ m i).length ≤ 82 := by
  have h1 := hexes_len (gs.take i) (by rw [List.length_take]; omega)
  have h2 := hexes_len (gs.take at_) (by rw [List.length_take]; omega)
  have h3 := hexes_len ((gs.drop (at_ + m)).take (i - (at_ + m))) (by rw [List.length_take, List.length_drop]; omega)
  unfold rpT
  split
  · omega
  · split
    · simp; omega
    · simp; omega
/-- At the run's beginning. -/
theorem rpT_at (gs : List Nat) (at_ m : Nat) (hm : 1 < m) : rpT gs at_ m at_ ++ [58, 58] = rpT gs at_ m (at_ + 1) := by
  unfold rpT
  rw [if_pos (.inr (Nat.le_refl _)), if_neg (by omega), if_pos (by omega)]
/-- Within the run. -/
theorem rpT_in (gs : List Nat) (at_ m i : Nat) (hm : 1 < m) (h1 : at_ < i) (h2 : i < at_ + m) : rpT gs at_ m (i + 1) = rpT gs at_ m i := by
  unfold rpT
  rw [if_neg (by omega), if_pos (by omega), if_neg (by omega), if_pos (by omega)]
theorem take_snoc (gs : List Nat) (i : Nat) (h : i < gs.length) : gs.take (i + 1) = gs.take i ++ [gs[i]] := by
  rw [List.take_add_one, List.getElem?_eq_getElem h]
  rfl
/-- A round that writes a group: with a colon ahead, or none. -/
theorem rpT_step (gs : List Nat) (hl : gs.length = 8) (hx : ∀ x ∈ gs, x < 65536) (at_ m i : Nat) (hi : i < 8) (hm : m ≤ 1 ∨ i < at_ ∨ at_ + m ≤ i) :
    (rpT gs at_ m i = [] ∧ rpT gs at_ m (i + 1) = hex (gs[i]'(by omega))) ∨
    (∃ t, rpT gs at_ m i = t ++ [58] ∧ rpT gs at_ m (i + 1) = rpT gs at_ m i ++ hex (gs[i]'(by omega))) ∨
    (∃ t c, rpT gs at_ m i = t ++ [c] ∧ c ≠ 58 ∧ rpT gs at_ m (i + 1) = rpT gs at_ m i ++ [58] ++ hex (gs[i]'(by omega))) := by
  have hi' : i < gs.length := by omega
  by_cases hA : m ≤ 1 ∨ i < at_
  · have e1 : rpT gs at_ m i = hexes (gs.take i) := by rw [rpT, if_pos (by omega)]
    have e2 : rpT gs at_ m (i + 1) = hexes (gs.take i ++ [gs[i]]) := by rw [rpT, if_pos (by omega), take_snoc gs i hi']
    by_cases h0 : i = 0
    · subst h0
      refine .inl ⟨by rw [e1, List.take_zero, hexes_nil], ?_⟩
      rw [e2, List.take_zero, List.nil_append, hexes_one]
    · have hne : gs.take i ≠ [] := by
        intro e
        have := congrArg List.length e
        rw [List.length_take, List.length_nil] at this
        omega
      obtain ⟨t, c, e, hc⟩ := hexes_last (gs.take i) (fun x h => hx x (List.mem_of_mem_take h)) hne
      refine .inr (.inr ⟨t, c, by rw [e1, e], hc, ?_⟩)
      rw [e2, hexes_snoc _ _ hne, e1]
      simp
  · have hm1 : ¬ m ≤ 1 := fun h => hA (.inl h)
    have hat : at_ + m ≤ i := by omega
    have e2 : rpT gs at_ m (i + 1) = hexes (gs.take at_) ++ [58, 58] ++ hexes ((gs.drop (at_ + m)).take (i - (at_ + m)) ++ [gs[i]]) := by
      have e3 : (gs.drop (at_ + m)).take (i + 1 - (at_ + m)) = (gs.drop (at_ + m)).take (i - (at_ + m)) ++ [gs[i]] := by
        rw [show i + 1 - (at_ + m) = (i - (at_ + m)) + 1 by omega, take_snoc _ _ (by rw [List.length_drop]; omega), List.getElem_drop]
        congr 3
        omega
      rw [rpT, if_neg (by omega), if_neg (by omega), e3]
    by_cases h0 : i = at_ + m
    · have e1 : rpT gs at_ m i = hexes (gs.take at_) ++ [58, 58] := by rw [rpT, if_neg (by omega), if_pos (by omega)]
      refine .inr (.inl ⟨hexes (gs.take at_) ++ [58], by rw [e1]; simp, ?_⟩)
      rw [e2, e1, show i - (at_ + m) = 0 by omega, List.take_zero, List.nil_append, hexes_one]
    · have e1 : rpT gs at_ m i = hexes (gs.take at_) ++ [58, 58] ++ hexes ((gs.drop (at_ + m)).take (i - (at_ + m))) := by rw [rpT, if_neg (by omega), if_neg (by omega)]
      have hne : (gs.drop (at_ + m)).take (i - (at_ + m)) ≠ [] := by
        intro e
        have := congrArg List.length e
        rw [List.length_take, List.length_drop, List.length_nil] at this
        omega
      obtain ⟨t, c, e, hc⟩ := hexes_last _ (fun x h => hx x (List.mem_of_mem_drop (List.mem_of_mem_take h))) hne
      refine .inr (.inr ⟨hexes (gs.take at_) ++ [58, 58] ++ t, c, by rw [e1, e]; simp, hc, ?_⟩)
      rw [e2, e1, hexes_snoc _ _ hne]
      simp
theorem rpT_end (l : List UInt8) (hl : l.length = 16) : rpT (unflat l) (rrun (unflat l) 8).1 (rrun (unflat l) 8).2 8 = printT true l := by
  have hu := unflat_len l 8 hl
  have hr := (runF_room _ hu 8 (by omega)).1
  rw [printT, if_pos rfl, rrun_eq]
  generalize unflat l = gs at *
  by_cases h : 1 < (runF gs 8).2
  · rw [if_pos h, if_neg (by omega)]
    generalize runF gs 8 = r at *
    rw [rpT, if_neg (by omega)]
    by_cases h8 : 8 ≤ r.1 + r.2
    · rw [if_pos h8, List.drop_eq_nil_of_le (by omega), hexes_nil, List.append_nil]
    · rw [if_neg h8, List.take_of_length_le (l := gs.drop (r.1 + r.2)) (by rw [List.length_drop]; omega)]
  · rw [if_neg h, if_pos (by omega), rpT, if_pos (.inl (Nat.le_refl _)), List.take_of_length_le (by omega)]
theorem rrun_room (gs : List Nat) (hl : gs.length = 8) (k : Nat) (hk : k ≤ 8) : (rrun gs k).1 + (rrun gs k).2 ≤ 8 := by
  rw [rrun_eq]
  have := (runF_room gs hl k hk).1
  split
  · exact this
  · show 0 + 1 ≤ 8
    omega
end Go.Proofs.YtgdnckglfhabnaaDoor
