/- Flows in order, each once: there is one such row: plain. -/
import Derived.Test.YtonafonhadocgaaGreatDoorQV
namespace Go.Proofs.YtonafonhadocgaaGreatDoor
open Go.RowKit

abbrev Rise (l : List Fl) : Prop := l.Pairwise fun f g => cmpF f g < 0
theorem rise_one : ∀ (l m : List Fl), Rise l → Rise m → (∀ x, x ∈ l ↔ x ∈ m) → l = m
  | [], [], _, _, _ => rfl
  | [], y :: m, _, _, h => by have := (h y).2 List.mem_cons_self; cases this
  | x :: l, [], _, _, h => by have := (h x).1 List.mem_cons_self; cases this
  | x :: l, y :: m, hl, hm, h => by
    rw [Rise, List.pairwise_cons] at hl hm
    have hxy : x = y := by
      rcases List.mem_cons.1 ((h x).1 List.mem_cons_self) with e | hx
      · exact e
      · rcases List.mem_cons.1 ((h y).2 List.mem_cons_self) with e | hy
        · exact e.symm
        · have h1 := hm.1 x hx
          have h2 := hl.1 y hy
          rw [cmpF_swap] at h2
          omega
    subst hxy
    have hn : ∀ {r : List Fl}, (∀ b ∈ r, cmpF x b < 0) → x ∉ r := fun hr hx => by
      have := hr x hx
      rw [cmpF_self] at this
      omega
    rw [rise_one l m hl.2 hm.2 fun z => ?_]
    constructor
    · intro hz
      rcases List.mem_cons.1 ((h z).1 (List.mem_cons_of_mem _ hz)) with e | hz'
      · exact absurd (e ▸ hz) (hn hl.1)
      · exact hz'
    · intro hz
      rcases List.mem_cons.1 ((h z).2 (List.mem_cons_of_mem _ hz)) with e | hz'
      · exact absurd (e ▸ hz) (hn hm.1)
      · exact hz'

/-! ### the reference: one by one to its place -/
def insAt (x : Fl) (l : List Fl) : Nat := (l.takeWhile fun y => lessF y x).length
def insU (x : Fl) (l : List Fl) : List Fl := if l[insAt x l]? = some x then l else l.take (insAt x l) ++ x :: l.drop (insAt x l)
def rsortL (l : List Fl) : List Fl := l.foldl (fun acc x => insU x acc) []
theorem ins_cons (x y : Fl) (l : List Fl) : insU x (y :: l) = if cmpF y x < 0 then y :: insU x l else if y = x then y :: l else x :: y :: l := by
  unfold insU insAt lessF
  by_cases h : cmpF y x < 0
  · rw [if_pos h, List.takeWhile_cons_of_pos (by simp [h]), List.length_cons, List.getElem?_cons_succ, List.take_succ_cons, List.drop_succ_cons]
    split <;> rfl
  · rw [if_neg h, List.takeWhile_cons_of_neg (by simp [h])]
    by_cases e : y = x
    · rw [if_pos e, if_pos (by simp [e])]
    · rw [if_neg e, if_neg (by simp [e])]
      rfl
theorem ins_mem (x z : Fl) (l : List Fl) : z ∈ insU x l ↔ z = x ∨ z ∈ l := by
  induction l with
  | nil => simp [insU, insAt]
  | cons y l ih =>
    rw [ins_cons]
    split
    · rw [List.mem_cons, ih, List.mem_cons]
      constructor
      · rintro (h | h | h)
        · exact .inr (.inl h)
        · exact .inl h
        · exact .inr (.inr h)
      · rintro (h | h | h)
        · exact .inr (.inl h)
        · exact .inl h
        · exact .inr (.inr h)
    · split
      · rename_i e
        rw [List.mem_cons, e]
        constructor
        · rintro (h | h)
          · exact .inl h
          · exact .inr (.inr h)
        · rintro (h | h | h)
          · exact .inl h
          · exact .inl h
          · exact .inr h
      · rw [List.mem_cons]
theorem ins_rise (x : Fl) (l : List Fl) (h : Rise l) : Rise (insU x l) := by
  induction l with
  | nil => simp [insU, insAt]
  | cons y l ih =>
    rw [ins_cons]
    have h' := h
    rw [Rise, List.pairwise_cons] at h'
    split
    · rename_i hc
      rw [Rise, List.pairwise_cons]
      refine ⟨fun z hz => ?_, ih h'.2⟩
      rcases (ins_mem x z l).1 hz with e | hz
      · rw [e]; exact hc
      · exact h'.1 z hz
    · rename_i hc
      split
      · exact h
      · rename_i hne
        rw [Rise, List.pairwise_cons]
        have hxy : cmpF x y < 0 := by
          have h1 := cmpF_swap x y
          have h2 : cmpF y x ≠ 0 := fun e => hne (cmpF_zero e)
          omega
        refine ⟨fun z hz => ?_, h⟩
        rcases List.mem_cons.1 hz with e | hz
        · rw [e]; exact hxy
        · exact cmpF_trans hxy (h'.1 z hz)
theorem rsort_snoc (l : List Fl) (x : Fl) : rsortL (l ++ [x]) = insU x (rsortL l) := by
  unfold rsortL
  rw [List.foldl_append]
  rfl
theorem fold_ins (l : List Fl) : ∀ acc, Rise acc → Rise (l.foldl (fun acc x => insU x acc) acc) ∧ ∀ z, z ∈ l.foldl (fun acc x => insU x acc) acc ↔ z ∈ acc ∨ z ∈ l := by
  induction l with
  | nil => exact fun acc h => ⟨h, fun z => by simp⟩
  | cons x l ih =>
    intro acc h
    obtain ⟨h1, h2⟩ := ih (insU x acc) (ins_rise x acc h)
    refine ⟨h1, fun z => ?_⟩
    rw [List.foldl_cons, h2 z, ins_mem, List.mem_cons]
    constructor
    · rintro ((h | h) | h)
      · exact .inr (.inl h)
      · exact .inl h
      · exact .inr (.inr h)
    · rintro (h | h | h)
      · exact .inl (.inr h)
      · exact .inl (.inl h)
      · exact .inr h
theorem rsort_rise (l : List Fl) : Rise (rsortL l) := (fold_ins l [] List.Pairwise.nil).1
theorem rsort_mem (l : List Fl) (z : Fl) : z ∈ rsortL l ↔ z ∈ l := by
  rw [rsortL, (fold_ins l [] List.Pairwise.nil).2 z]
  simp

/-! ### the program: sorted, then each once -/
def compL : List Fl → List Fl
  | [] => []
  | [x] => [x]
  | x :: y :: r => if x = y then compL (y :: r) else x :: compL (y :: r)
theorem comp_mem : ∀ (l : List Fl) (z : Fl), z ∈ compL l ↔ z ∈ l
  | [], _ => Iff.rfl
  | [_], _ => Iff.rfl
  | x :: y :: r, z => by
    have ih := comp_mem (y :: r) z
    rw [compL]
    split
    · rename_i e
      rw [ih, List.mem_cons (a := z) (b := x), e]
      constructor
      · exact .inr
      · rintro (h | h)
        · rw [h]; exact List.mem_cons_self
        · exact h
    · rw [List.mem_cons, ih, List.mem_cons (a := z) (b := x)]
theorem comp_rise : ∀ l : List Fl, l.Pairwise (fun f g => ¬ cmpF g f < 0) → Rise (compL l)
  | [], _ => List.Pairwise.nil
  | [x], _ => by simp [compL]
  | x :: y :: r, h => by
    rw [List.pairwise_cons] at h
    have ih := comp_rise (y :: r) h.2
    rw [compL]
    split
    · exact ih
    · rename_i hne
      rw [Rise, List.pairwise_cons]
      refine ⟨fun z hz => ?_, ih⟩
      have hz' := (comp_mem (y :: r) z).1 hz
      have hxy : cmpF x y < 0 := by
        have h1 := h.1 y List.mem_cons_self
        have h2 := cmpF_swap x y
        have h3 : cmpF x y ≠ 0 := fun e => hne (cmpF_zero e)
        omega
      rcases List.mem_cons.1 hz' with e | hz'
      · rw [e]; exact hxy
      · rw [List.pairwise_cons] at h
        have h4 := h.2.1 z hz'
        have h5 := cmpF_swap y z
        by_cases e : cmpF y z = 0
        · rw [← cmpF_zero e]; exact hxy
        · exact cmpF_trans hxy (by omega)
/-- What the program sorts is what the reference sorts. -/
theorem comp_rsort {l m : List Fl} (hs : m.Pairwise fun f g => ¬ cmpF g f < 0) (hm : ∀ z, z ∈ m ↔ z ∈ l) : compL m = rsortL l :=
  rise_one _ _ (comp_rise m hs) (rsort_rise l) fun z => by rw [comp_mem, hm, rsort_mem]
end Go.Proofs.YtonafonhadocgaaGreatDoor
