/- Ranges over functions that may be left early; the iterator reads what the loop's invariant tells: beside RangeR's law. -/
import Derived.Test.YtonafonhadocgaaDoorQA
namespace Go.Proofs.YtonafonhadocgaaDoor
open Go.RowKit

/-- An iterator that hands out xs, one behind the other, as long as R holds and the loop is not left. -/
def SeqXS {α : Type} (P : Program) (gf : Nat) (lb : Array Value) (encs : α → Array Value) (xs : List α) (X : Nat → Prop) (R : World → Prop) (W : World) : Prop :=
  ∀ (l : Nat) (J Jx : List α → World → Prop),
    (∀ s A B row, J s A → A.grownBy B row → (∀ r, row = some r → X r) → J s B) →
    (∀ s A B row, Jx s A → A.grownBy B row → (∀ r, row = some r → X r) → Jx s B) →
    (∀ s A, J s A → R A) →
    (∀ pre x rest A, xs = pre ++ x :: rest → J pre A → (∀ r, X r → r < A.heap.size) →
      YieldAt Fence.wide 0 P l (encs x) A fun e B => (e = .returned (.bool true) ∧ J (pre ++ [x]) B ∧ A.heap.size ≤ B.heap.size ∧ ∀ r, X r → B.heap[r]? = A.heap[r]?) ∨ (e = .returned (.bool false) ∧ Jx (pre ++ [x]) B)) →
    J [] W → CallsIn Fence.wide 0 P gf (#[.func (.yield l) #[] #[]] ++ lb) W fun e W' => (∃ v, e = .returned v) ∧ (J xs W' ∨ ∃ pre rest, xs = pre ++ rest ∧ Jx pre W')
/-- How a round may end. -/
def stopPost {α : Type} (X : Nat → Prop) (I : List α → World → Prop) (Ix : Code → List α → World → Prop) (xs : List α) (A : World) : Exit → Act → World → Prop
  | .normal, _, B => KeepsX X A B ∧ I xs B
  | .ret, _, B => KeepsX X A B ∧ Ix .ret xs B
  | .exit id, _, B => KeepsX X A B ∧ Ix (.exit id) xs B
  | .goto t, _, B => KeepsX X A B ∧ Ix (.goto t) xs B
  | .panic _, _, _ => False
  | .outgrown, _, _ => False

variable {P : Program}

/-- An outermost loop; the invariant tells what the iterator reads. -/
theorem range_outerS {α : Type} {g : Operand} {ps : Array Tmp} {assign body : Code} {Q : Exit → Act → World → Prop} {a : Act} {w : World}
    {gf : Nat} {lb : Array Value} (hg : a.eval g = .func (.func gf) #[] lb) (eg : ∀ args w, (callFunc gf args).run P w = .ok (.enter gf args) w)
    {encs : α → Array Value} (hps : ∀ x, (encs x).size = ps.size) (xs : List α) (X : Nat → Prop) (R : World → Prop)
    (hseq : ∀ W1, Below w.heap.size w W1 → W1.heap.size = w.heap.size + 2 → SeqXS P gf lb encs xs X R W1)
    (hX : ∀ r, X r → r ≠ w.heap.size ∧ r ≠ w.heap.size + 1)
    (I : List α → World → Prop) (hI : ∀ s A B row, I s A → A.grownBy B row → (∀ r, row = some r → X r ∨ r = w.heap.size ∨ r = w.heap.size + 1) → I s B) (Ix : Code → List α → World → Prop) (hIx : ∀ c s A B row, Ix c s A → A.grownBy B row → (∀ r, row = some r → X r ∨ r = w.heap.size ∨ r = w.heap.size + 1) → Ix c s B) (h0 : I [] w) (hR : ∀ s A, I s A → R A)
    (Ax : α → Act → World → Prop) (hAx : ∀ x a' A o, A.heap.size > w.heap.size + 1 → Ax x a' A → Ax x a' (A.putObj (w.heap.size + 1) o))
    (hassign : ∀ (pre : List α) (x : α) (rest : List α) (A : World) (K : Act → World → Prop), xs = pre ++ x :: rest → I pre A → (∀ r, X r → r < A.heap.size) → w.heap.size + 2 ≤ A.heap.size →
      (∀ a' A', KeepsX (fun r => X r ∨ r = w.heap.size ∨ r = w.heap.size + 1) A A' → I pre A' → Ax x a' A' → K a' A') →
      assign.wpIn (Fence.wide.inRound (w.heap.size + 1)) 0 P (Exit.then K (fun _ _ _ => False)) { tmps := (ps.zip (encs x)).foldl (fun t (p, v) => t.setIfInBounds p v) a.tmps, defers := [] } A)
    (hbody : ∀ (pre : List α) (x : α) (rest : List α) (a' : Act) (A : World), xs = pre ++ x :: rest → I pre A → Ax x a' A → (∀ r, X r → r < A.heap.size) → w.heap.size + 2 ≤ A.heap.size → (∃ r, A.heap[w.heap.size + 1]? = some (.loop r)) →
      body.wpIn (Fence.wide.inRound (w.heap.size + 1)) 0 P (stopPost (fun r => X r ∨ r = w.heap.size ∨ r = w.heap.size + 1) I Ix (pre ++ [x]) A) a' A)
    (hdone : ∀ (W : World), I xs W → w.heap.size + 2 ≤ W.heap.size → W.heap[w.heap.size]? = some (.deferred (some [])) → Q .normal { a with defers := { target := .collected w.heap.size, args := #[] } :: a.defers } W)
    (hstop : ∀ (c : Code) (pre rest : List α) (W : World), xs = pre ++ rest → Ix c pre W → w.heap.size + 2 ≤ W.heap.size → W.heap[w.heap.size]? = some (.deferred (some [])) → c.wpIn Fence.wide 0 P Q { a with defers := { target := .collected w.heap.size, args := #[] } :: a.defers } W) :
    (Code.rangeFunc g ps assign body).wpIn Fence.wide 0 P Q a w := by
  refine wpIn_rangeFunc fun fn hfn => ?_
  obtain ⟨rec, hrec⟩ : ∃ rec : LoopState → Option Code → Loop, rec = fun st pe => { state := st, pending := pe, fn, tmps := a.tmps, params := ps, assign, body, defers := w.heap.size } := ⟨_, rfl⟩
  have e1 : (w.alloc (.deferred (some []))).heap.size = w.heap.size + 1 := by simp
  have hA : Below w.heap.size w ((w.alloc (.deferred (some []))).alloc (.loop (rec .ready none))) := ((Below.refl _ w).alloc (Nat.le_refl _) _).alloc (by simp) _
  have hD : ((w.alloc (.deferred (some []))).alloc (.loop (rec .ready none))).heap[w.heap.size]? = some (.deferred (some [])) :=
    (Below.heap_alloc _ _ _ (by simp)).trans (World.alloc_heap_new w _)
  have hL : ((w.alloc (.deferred (some []))).alloc (.loop (rec .ready none))).heap[w.heap.size + 1]? = some (.loop (rec .ready none)) := by
    have h := World.alloc_heap_new (w.alloc (.deferred (some []))) (.loop (rec .ready none))
    rwa [e1] at h
  have hz : ((w.alloc (.deferred (some []))).alloc (.loop (rec .ready none))).heap.size = w.heap.size + 2 := by simp
  have hi0 : I [] ((w.alloc (.deferred (some []))).alloc (.loop (rec .ready none))) :=
    hI _ _ _ none (hI _ _ _ none h0 (World.grownBy_alloc w _ none) (fun r e => by cases e)) (World.grownBy_alloc _ _ none) (fun r e => by cases e)
  have henter : (Instr.enterLoop fn a.tmps ps assign body none).run P w = .ok (w.heap.size + 1, [{ target := .collected w.heap.size, args := #[] }]) ((w.alloc (.deferred (some []))).alloc (.loop (rec .ready none))) := by
    rw [hrec]; exact run_enterLoop_outer _ _ _ _ _
  generalize (w.alloc (.deferred (some []))).alloc (.loop (rec .ready none)) = W1 at *
  refine ⟨w.heap.size + 1, [{ target := .collected w.heap.size, args := #[] }], W1, { target := .fn (.func gf) lb, args := #[.func (.yield (w.heap.size + 1)) #[] #[]] }, W1, gf, #[.func (.yield (w.heap.size + 1)) #[] #[]] ++ lb, W1, henter, ?_, ?_, ?_, (fun h => by cases h), ?_⟩
  · simp only [resolve, hg]
    simp [go_sem]
  · intro f' _; trivial
  · simp [invoke, go_sem, eg]
  refine (hseq W1 hA hz (w.heap.size + 1) (fun pre A => I pre A ∧ A.heap[w.heap.size + 1]? = some (.loop (rec .ready none)) ∧ A.heap[w.heap.size]? = some (.deferred (some []))) (fun pre A => ∃ c, Ix c pre A ∧ A.heap[w.heap.size + 1]? = some (.loop (rec .done (some c))) ∧ A.heap[w.heap.size]? = some (.deferred (some []))) ?_ ?_ (fun s A h => hR s A h.1) ?_ ⟨hi0, hL, hD⟩).mono ?_
  · rintro s A B row ⟨hi, hl, hd⟩ hgr hrow
    have ne : ∀ k, (k = w.heap.size ∨ k = w.heap.size + 1) → some k ≠ row := fun k hk e => by
      have h := hX k (hrow k e.symm)
      rcases hk with rfl | rfl
      · exact h.1 rfl
      · exact h.2 rfl
    exact ⟨hI s A B row hi hgr (fun r e => .inl (hrow r e)), (hgr.block _ (Array.getElem?_eq_some_iff.1 hl).1 (ne _ (.inr rfl))).trans hl, (hgr.block _ (Array.getElem?_eq_some_iff.1 hd).1 (ne _ (.inl rfl))).trans hd⟩
  · rintro s A B row ⟨c, hi, hl, hd⟩ hgr hrow
    have ne : ∀ k, (k = w.heap.size ∨ k = w.heap.size + 1) → some k ≠ row := fun k hk e => by
      have h := hX k (hrow k e.symm)
      rcases hk with rfl | rfl
      · exact h.1 rfl
      · exact h.2 rfl
    exact ⟨c, hIx c s A B row hi hgr (fun r e => .inl (hrow r e)), (hgr.block _ (Array.getElem?_eq_some_iff.1 hl).1 (ne _ (.inr rfl))).trans hl, (hgr.block _ (Array.getElem?_eq_some_iff.1 hd).1 (ne _ (.inl rfl))).trans hd⟩
  · rintro pre x rest A hxs ⟨hi, hl, hd⟩ hXA
    have hlt : w.heap.size + 1 < A.heap.size := (Array.getElem?_eq_some_iff.1 hl).1
    have hy := run_yield (P := P) (args := encs x) hl (by rw [hrec]; exact hps x)
    rw [hrec] at hy
    refine ⟨fn, _, assign, body, hy, roundIn_of_wpIn hfn (hassign pre x rest A _ hxs hi hXA (by omega) ?_)⟩
    intro a' A1 hk1 hi1 hax
    have hl1 : A1.heap[w.heap.size + 1]? = some (.loop (rec .ready none)) := (hk1.2 _ (.inr (.inr rfl))).trans hl
    have hd1 : A1.heap[w.heap.size]? = some (.deferred (some [])) := (hk1.2 _ (.inr (.inl rfl))).trans hd
    have hlt1 : w.heap.size + 1 < A1.heap.size := (Array.getElem?_eq_some_iff.1 hl1).1
    refine ⟨_, run_beginRound hl1 (by rw [hrec]), ?_⟩
    have put : ∀ (C : World) (o : Obj), C.grownBy (C.putObj (w.heap.size + 1) o) (some (w.heap.size + 1)) := fun C o => grownBy_putObj' C _ o
    have hi2 := hI _ _ _ _ hi1 (put A1 (.loop { rec .ready none with state := .busy })) (fun r e => by cases e; exact .inr (.inr rfl))
    have hax2 := hAx x a' A1 (.loop { rec .ready none with state := .busy }) hlt1 hax
    have hl2 : (A1.putObj (w.heap.size + 1) (.loop { rec .ready none with state := .busy })).heap[w.heap.size + 1]? = some (.loop { rec .ready none with state := .busy }) := World.putObj_heap_same hlt1
    have hd2 : (A1.putObj (w.heap.size + 1) (.loop { rec .ready none with state := .busy })).heap[w.heap.size]? = some (.deferred (some [])) := (World.putObj_heap_other (by omega)).trans hd1
    have hz2 : A1.heap.size ≤ (A1.putObj (w.heap.size + 1) (.loop { rec .ready none with state := .busy })).heap.size := (put A1 _).size
    have hk2 : ∀ r, X r → (A1.putObj (w.heap.size + 1) (.loop { rec .ready none with state := .busy })).heap[r]? = A1.heap[r]? := fun r hr => World.putObj_heap_other (hX r hr).2
    generalize A1.putObj (w.heap.size + 1) (.loop { rec .ready none with state := .busy }) = A2 at *
    refine wpIn_mono (hbody pre x rest a' A2 hxs hi2 hax2 (fun r hr => Nat.lt_of_lt_of_le (hXA r hr) (Nat.le_trans hk1.1 hz2)) (by omega) ⟨_, hl2⟩) ?_
    rintro e a3 A3 hp
    cases e with
    | normal =>
        obtain ⟨hk3, hi3⟩ := hp
        have hl3 : A3.heap[w.heap.size + 1]? = some (.loop { rec .ready none with state := .busy }) := (hk3.2 _ (.inr (.inr rfl))).trans hl2
        have hd3 : A3.heap[w.heap.size]? = some (.deferred (some [])) := (hk3.2 _ (.inr (.inl rfl))).trans hd2
        have hlt3 : w.heap.size + 1 < A3.heap.size := (Array.getElem?_eq_some_iff.1 hl3).1
        have hend := run_endRound (P := P) none hl3
        rw [hrec] at hend hl3
        refine ⟨_, _, hend, .inl ⟨rfl, ⟨hI _ _ _ _ hi3 (put A3 _) (fun r e => by cases e; exact .inr (.inr rfl)), ?_, (World.putObj_heap_other (by omega)).trans hd3⟩, ?_, fun r hr => ?_⟩⟩
        · rw [World.putObj_heap_same hlt3, hrec]; rfl
        · exact Nat.le_trans hk1.1 (Nat.le_trans hz2 (Nat.le_trans hk3.1 (put A3 _).size))
        · exact (World.putObj_heap_other (hX r hr).2).trans ((hk3.2 r (.inl hr)).trans ((hk2 r hr).trans (hk1.2 r (.inl hr))))
    | ret =>
        obtain ⟨hk3, hi3⟩ := hp
        have hl3 : A3.heap[w.heap.size + 1]? = some (.loop { rec .ready none with state := .busy }) := (hk3.2 _ (.inr (.inr rfl))).trans hl2
        have hd3 : A3.heap[w.heap.size]? = some (.deferred (some [])) := (hk3.2 _ (.inr (.inl rfl))).trans hd2
        have hlt3 : w.heap.size + 1 < A3.heap.size := (Array.getElem?_eq_some_iff.1 hl3).1
        have hend := run_endRound (P := P) (some .ret) hl3
        rw [hrec] at hend hl3
        refine ⟨_, _, hend, .inr ⟨rfl, .ret, hIx _ _ _ _ _ hi3 (put A3 _) (fun r e => by cases e; exact .inr (.inr rfl)), ?_, (World.putObj_heap_other (by omega)).trans hd3⟩⟩
        rw [World.putObj_heap_same hlt3, hrec]; rfl
    | goto t =>
        obtain ⟨hk3, hi3⟩ := hp
        have hl3 : A3.heap[w.heap.size + 1]? = some (.loop { rec .ready none with state := .busy }) := (hk3.2 _ (.inr (.inr rfl))).trans hl2
        have hd3 : A3.heap[w.heap.size]? = some (.deferred (some [])) := (hk3.2 _ (.inr (.inl rfl))).trans hd2
        have hlt3 : w.heap.size + 1 < A3.heap.size := (Array.getElem?_eq_some_iff.1 hl3).1
        have hend := run_endRound (P := P) (some (.goto t)) hl3
        rw [hrec] at hend hl3
        refine ⟨_, _, hend, .inr ⟨rfl, (.goto t), hIx _ _ _ _ _ hi3 (put A3 _) (fun r e => by cases e; exact .inr (.inr rfl)), ?_, (World.putObj_heap_other (by omega)).trans hd3⟩⟩
        rw [World.putObj_heap_same hlt3, hrec]; rfl
    | panic ch => exact hp.elim
    | outgrown => exact hp.elim
    | _ =>
        rename_i id
        obtain ⟨hk3, hi3⟩ := hp
        have hl3 : A3.heap[w.heap.size + 1]? = some (.loop { rec .ready none with state := .busy }) := (hk3.2 _ (.inr (.inr rfl))).trans hl2
        have hd3 : A3.heap[w.heap.size]? = some (.deferred (some [])) := (hk3.2 _ (.inr (.inl rfl))).trans hd2
        have hlt3 : w.heap.size + 1 < A3.heap.size := (Array.getElem?_eq_some_iff.1 hl3).1
        have hend := run_endRound (P := P) (some (.exit id)) hl3
        rw [hrec] at hend hl3
        refine ⟨_, _, hend, .inr ⟨rfl, (.exit id), hIx _ _ _ _ _ hi3 (put A3 _) (fun r e => by cases e; exact .inr (.inr rfl)), ?_, (World.putObj_heap_other (by omega)).trans hd3⟩⟩
        rw [World.putObj_heap_same hlt3, hrec]; rfl
  · rintro e W2 ⟨⟨v, rfl⟩, (⟨hi, hl, hd⟩ | ⟨pre, rest, hxs, c, hi, hl, hd⟩)⟩
    · have hend := run_endLoop (P := P) hl (by rw [hrec]; simp)
      rw [hrec] at hend
      have hlt : w.heap.size + 1 < W2.heap.size := (Array.getElem?_eq_some_iff.1 hl).1
      exact ⟨none, _, hend, hdone _ (hI _ _ _ _ hi (grownBy_putObj' W2 _ _) (fun r e => by cases e; exact .inr (.inr rfl))) (by have := (grownBy_putObj' W2 (w.heap.size + 1) (.loop { rec .ready none with state := .exhausted })).size; rw [hrec] at this; exact Nat.le_trans hlt this) ((World.putObj_heap_other (by omega)).trans hd)⟩
    · have hend := run_endLoop (P := P) hl (by rw [hrec]; simp)
      rw [hrec] at hend
      have hlt : w.heap.size + 1 < W2.heap.size := (Array.getElem?_eq_some_iff.1 hl).1
      exact ⟨some c, _, hend, hstop c pre rest _ hxs (hIx _ _ _ _ _ hi (grownBy_putObj' W2 _ _) (fun r e => by cases e; exact .inr (.inr rfl))) (by have := (grownBy_putObj' W2 (w.heap.size + 1) (.loop { rec .done (some c) with state := .exhausted })).size; rw [hrec] at this; exact Nat.le_trans hlt this) ((World.putObj_heap_other (by omega)).trans hd)⟩
end Go.Proofs.YtonafonhadocgaaDoor
