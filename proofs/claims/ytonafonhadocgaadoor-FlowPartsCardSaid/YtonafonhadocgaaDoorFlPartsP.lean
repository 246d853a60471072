/- What FlowParts counts: plain. -/
import Derived.Test.YtonafonhadocgaaDoorQL
import Derived.Test.YtonafonhadocgaaDoorFlOf
namespace Go.Proofs.YtonafonhadocgaaDoor
open Go.RowKit

theorem of_pos (ks : List Ky) (f : En × En) : (ofK ks f).map (·.1) = pos (ks.map (·.1)) f := by
  unfold ofK iks pos
  rw [List.filter_map, List.map_map, List.length_map]
  have e : ((fun x : Nat × Ky => x.1) ∘ fun i => (i, ks[i]?.getD zK)) = id := rfl
  rw [e, List.map_id]
  apply List.filter_congr
  intro i hi
  rw [List.mem_range] at hi
  show decide ((ks[i]?.getD zK).1 = f) = _
  rw [List.getElem?_map, List.getElem?_eq_getElem hi]
  simp
theorem of_at {ks : List Ky} {f : En × En} {x : Nat × Ky} (h : x ∈ ofK ks f) : ks[x.1]? = some x.2 ∧ x.2.1 = f := by
  unfold ofK iks at h
  rw [List.mem_filter, List.mem_map] at h
  obtain ⟨⟨i, hi, rfl⟩, h2⟩ := h
  rw [List.mem_range] at hi
  refine ⟨?_, of_decide_eq_true h2⟩
  show ks[i]? = some (ks[i]?.getD zK)
  rw [List.getElem?_eq_getElem hi]
  rfl

/-! ### each place once -/
section
variable {F : Type} [DecidableEq F]
def allP (l : List F) : List Nat := (grpL l).flatten
theorem pos_nodup (l : List F) (f : F) : (pos l f).Nodup := (pos_rise l f).imp fun h => Nat.ne_of_lt h
theorem allP_nodup (l : List F) : (allP l).Nodup := by
  unfold allP grpL
  rw [List.Nodup, List.pairwise_flatten]
  refine ⟨fun g hg => ?_, ?_⟩
  · obtain ⟨f, _, rfl⟩ := List.mem_map.1 hg
    exact pos_nodup l f
  · rw [List.pairwise_map]
    refine (nodup_dd l).imp ?_
    intro f g hfg x hx y hy e
    subst e
    have h1 := mem_pos.1 hx
    rw [mem_pos.1 hy] at h1
    injection h1 with h1
    exact hfg h1.symm
theorem allP_mem {l : List F} {k : Nat} (h : k < l.length) : k ∈ allP l := by
  unfold allP grpL
  rw [List.mem_flatten]
  exact ⟨pos l l[k], List.mem_map.2 ⟨l[k], (mem_dd _ l).2 (List.getElem_mem h), rfl⟩, mem_pos.2 (List.getElem?_eq_getElem h)⟩
/-- What has been handed out: the groups before the j-th, and a part of it. -/
theorem not_yet {l : List F} {j : Nat} {g pre post : List Nat} {k : Nat} (hg : (grpL l)[j]? = some g) (hp : g = pre ++ k :: post) : k ∉ ((grpL l).take j).flatten ++ pre := by
  have h := allP_nodup l
  have hj := (List.getElem?_eq_some_iff.1 hg).1
  have e : allP l = (((grpL l).take j).flatten ++ pre) ++ k :: (post ++ ((grpL l).drop (j + 1)).flatten) := by
    unfold allP
    have e1 : grpL l = (grpL l).take j ++ g :: (grpL l).drop (j + 1) := by
      rw [List.getElem?_eq_getElem hj] at hg
      injection hg with hg
      rw [← hg, List.getElem_cons_drop, List.take_append_drop]
    rw [show (grpL l).flatten = ((grpL l).take j ++ g :: (grpL l).drop (j + 1)).flatten by rw [← e1], List.flatten_append, List.flatten_cons, hp]
    simp
  rw [e, List.nodup_append] at h
  intro hm
  exact h.2.2 k hm k List.mem_cons_self rfl
theorem done_next {l : List F} {j : Nat} {g : List Nat} (hg : (grpL l)[j]? = some g) : ((grpL l).take (j + 1)).flatten = ((grpL l).take j).flatten ++ g := by
  rw [List.take_add_one, hg, List.flatten_append]
  simp
end

/-! ### the row of what was seen -/
def seenL (n : Nat) (l : List Nat) : List Value := (List.range n).map fun k => Value.int .i64 (if k ∈ l then 1 else 0)
theorem seen_len (n : Nat) (l : List Nat) : (seenL n l).length = n := by simp [seenL]
theorem seen_get {n k : Nat} {l : List Nat} (h : k < n) : (seenL n l)[k]? = some (.int .i64 (if k ∈ l then 1 else 0)) := by
  unfold seenL
  rw [List.getElem?_map, List.getElem?_range h]
  rfl
theorem seen_set {n k : Nat} {l : List Nat} (h : k < n) : (seenL n l).set k (.int .i64 1) = seenL n (l ++ [k]) := by
  apply List.ext_getElem?
  intro j
  rw [List.getElem?_set]
  by_cases hj : j < n
  · rw [seen_len]
    by_cases e : k = j
    · subst e
      rw [if_pos rfl, if_pos h, seen_get h, if_pos (List.mem_append_right _ List.mem_cons_self)]
    · rw [if_neg e, seen_get hj, seen_get hj]
      by_cases hm : j ∈ l
      · rw [if_pos hm, if_pos (List.mem_append_left _ hm)]
      · rw [if_neg hm, if_neg (fun h' => by
          rcases List.mem_append.1 h' with h' | h'
          · exact hm h'
          · rw [List.mem_singleton] at h'
            exact e h'.symm)]
  · rw [List.getElem?_eq_none (l := seenL n (l ++ [k])) (by rw [seen_len]; omega), seen_len]
    split
    · omega
    · exact List.getElem?_eq_none (by rw [seen_len]; omega)
theorem seen_nil (n : Nat) : seenL n [] = List.replicate n (.int .i64 0) := by
  apply List.ext_getElem?
  intro j
  by_cases hj : j < n
  · rw [seen_get hj, List.getElem?_replicate, if_pos hj]
    rfl
  · rw [List.getElem?_eq_none (by rw [seen_len]; omega), List.getElem?_eq_none (by rw [List.length_replicate]; omega)]
end Go.Proofs.YtonafonhadocgaaDoor
