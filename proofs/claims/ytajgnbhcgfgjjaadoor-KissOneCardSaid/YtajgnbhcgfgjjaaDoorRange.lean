/- Ranges over functions whose iterator keeps cells of its own: the contract of such an iterator names the blocks that are its own ('X'); the caller's invariant abides turns of them, a round leaves them. No round leaves the loop. Over any program; the wide fence. -/
import Derived.Test.YtajgnbhcgfgjjaaDoorBase
import Derived.RangeFuncNested
import Derived.RangeFuncBound
import Derived.RangeFuncCalls
import Derived.RangeFuncLeaves
namespace Go.Proofs.YtajgnbhcgfgjjaaDoor
open Go.RowKit

/-- An iterator that hands out xs, one behind the other. -/
def SeqX {α : Type} (P : Program) (gf : Nat) (lb : Array Value) (encs : α → Array Value) (xs : List α) (X : Nat → Prop) (W : World) : Prop :=
  ∀ (l : Nat) (J : List α → World → Prop),
    (∀ s A B row, J s A → A.grownBy B row → (∀ r, row = some r → X r) → J s B) →
    (∀ pre x rest A, xs = pre ++ x :: rest → J pre A → (∀ r, X r → r < A.heap.size) →
      YieldAt Fence.wide 0 P l (encs x) A fun e B => e = .returned (.bool true) ∧ J (pre ++ [x]) B ∧ A.heap.size ≤ B.heap.size ∧ ∀ r, X r → B.heap[r]? = A.heap[r]?) →
    J [] W → CallsIn Fence.wide 0 P gf (#[.func (.yield l) #[] #[]] ++ lb) W fun e W' => (∃ v, e = .returned v) ∧ J xs W'

/-- What a round leaves as it lay. -/
def KeepsX (X : Nat → Prop) (A B : World) : Prop := A.heap.size ≤ B.heap.size ∧ ∀ r, X r → B.heap[r]? = A.heap[r]?
theorem KeepsX.refl (X : Nat → Prop) (A : World) : KeepsX X A A := ⟨Nat.le_refl _, fun _ _ => rfl⟩
theorem KeepsX.trans {X : Nat → Prop} {A B C : World} (h : KeepsX X A B) (k : KeepsX X B C) : KeepsX X A C := ⟨Nat.le_trans h.1 k.1, fun r hr => (k.2 r hr).trans (h.2 r hr)⟩
theorem KeepsX.alloc {X : Nat → Prop} {A B : World} (h : KeepsX X A B) (hX : ∀ r, X r → r < B.heap.size) (o : Obj) : KeepsX X A (B.alloc o) :=
  ⟨by simp; have := h.1; omega, fun r hr => (Below.heap_alloc B o r (hX r hr)).trans (h.2 r hr)⟩
theorem KeepsX.set_ {X : Nat → Prop} {A B : World} (h : KeepsX X A B) {p : Addr} (hp : ¬ X p.block) (u : Value) : KeepsX X A (B.setCell p u) :=
  ⟨by have := h.1; simpa using this, fun r hr => (Below.heap_setCell B p u r (fun e => hp (e ▸ hr))).trans (h.2 r hr)⟩
theorem KeepsX.below {X : Nat → Prop} {A B C : World} {b : Nat} (h : KeepsX X A B) (hX : ∀ r, X r → r < b) (hb : Below b B C) : KeepsX X A C :=
  ⟨Nat.le_trans h.1 hb.size, fun r hr => (hb.block r (hX r hr)).trans (h.2 r hr)⟩
theorem KeepsX.grown {X : Nat → Prop} {A B C : World} {row : Option Nat} (h : KeepsX X A B) (hX : ∀ r, X r → r < B.heap.size) (hg : B.grownBy C row) (hr : ∀ r, row = some r → ¬ X r) : KeepsX X A C :=
  ⟨Nat.le_trans h.1 hg.size, fun r hx => (hg.block r (hX r hx) (fun e => hr r e.symm hx)).trans (h.2 r hx)⟩

variable {P : Program}

/-- An outermost loop. -/
theorem range_outer {α : Type} {g : Operand} {ps : Array Tmp} {assign body : Code} {Q : Exit → Act → World → Prop} {a : Act} {w : World}
    {gf : Nat} {lb : Array Value} (hg : a.eval g = .func (.func gf) #[] lb) (eg : ∀ args w, (callFunc gf args).run P w = .ok (.enter gf args) w)
    {encs : α → Array Value} (hps : ∀ x, (encs x).size = ps.size) (xs : List α) (X : Nat → Prop)
    (hseq : ∀ W1, Below w.heap.size w W1 → W1.heap.size = w.heap.size + 2 → SeqX P gf lb encs xs X W1)
    (hX : ∀ r, X r → r ≠ w.heap.size ∧ r ≠ w.heap.size + 1)
    (I : List α → World → Prop) (hI : ∀ s A B row, I s A → A.grownBy B row → (∀ r, row = some r → X r ∨ r = w.heap.size ∨ r = w.heap.size + 1) → I s B) (h0 : I [] w)
    (Ax : α → Act → World → Prop) (hAx : ∀ x a' A o, A.heap.size > w.heap.size + 1 → Ax x a' A → Ax x a' (A.putObj (w.heap.size + 1) o))
    (hassign : ∀ (pre : List α) (x : α) (A : World) (K : Act → World → Prop), I pre A → (∀ r, X r → r < A.heap.size) → w.heap.size + 2 ≤ A.heap.size →
      (∀ a' A', KeepsX (fun r => X r ∨ r = w.heap.size ∨ r = w.heap.size + 1) A A' → I pre A' → Ax x a' A' → K a' A') →
      assign.wpIn (Fence.wide.inRound (w.heap.size + 1)) 0 P (Exit.then K (fun _ _ _ => False)) { tmps := (ps.zip (encs x)).foldl (fun t (p, v) => t.setIfInBounds p v) a.tmps, defers := [] } A)
    (hbody : ∀ (pre : List α) (x : α) (rest : List α) (a' : Act) (A : World), xs = pre ++ x :: rest → I pre A → Ax x a' A → (∀ r, X r → r < A.heap.size) → w.heap.size + 2 ≤ A.heap.size → (∃ r, A.heap[w.heap.size + 1]? = some (.loop r)) →
      body.wpIn (Fence.wide.inRound (w.heap.size + 1)) 0 P (fun e _ B => e = .normal ∧ KeepsX (fun r => X r ∨ r = w.heap.size ∨ r = w.heap.size + 1) A B ∧ I (pre ++ [x]) B) a' A)
    (hdone : ∀ (W : World), I xs W → w.heap.size + 2 ≤ W.heap.size → W.heap[w.heap.size]? = some (.deferred (some [])) → Q .normal { a with defers := { target := .collected w.heap.size, args := #[] } :: a.defers } W) :
    (Code.rangeFunc g ps assign body).wpIn Fence.wide 0 P Q a w := by
  refine wpIn_rangeFunc fun fn hfn => ?_
  obtain ⟨rec, hrec⟩ : ∃ rec : LoopState → Option Code → Loop, rec = fun st pe => { state := st, pending := pe, fn, tmps := a.tmps, params := ps, assign, body, defers := w.heap.size } := ⟨_, rfl⟩
  have e1 : (w.alloc (.deferred (some []))).heap.size = w.heap.size + 1 := by simp
  have hA : Below w.heap.size w ((w.alloc (.deferred (some []))).alloc (.loop (rec .ready none))) := ((Below.refl _ w).alloc (Nat.le_refl _) _).alloc (by simp) _
  have hD : ((w.alloc (.deferred (some []))).alloc (.loop (rec .ready none))).heap[w.heap.size]? = some (.deferred (some [])) :=
    (Below.heap_alloc _ _ _ (by simp)).trans (World.alloc_heap_new w _)
  have hL : ((w.alloc (.deferred (some []))).alloc (.loop (rec .ready none))).heap[w.heap.size + 1]? = some (.loop (rec .ready none)) := by
    have h := World.alloc_heap_new (w.alloc (.deferred (some []))) (.loop (rec .ready none))
    rwa [e1] at h
  have hz : ((w.alloc (.deferred (some []))).alloc (.loop (rec .ready none))).heap.size = w.heap.size + 2 := by simp
  have hi0 : I [] ((w.alloc (.deferred (some []))).alloc (.loop (rec .ready none))) :=
    hI _ _ _ none (hI _ _ _ none h0 (World.grownBy_alloc w _ none) (fun r e => by cases e)) (World.grownBy_alloc _ _ none) (fun r e => by cases e)
  have henter : (Instr.enterLoop fn a.tmps ps assign body none).run P w = .ok (w.heap.size + 1, [{ target := .collected w.heap.size, args := #[] }]) ((w.alloc (.deferred (some []))).alloc (.loop (rec .ready none))) := by
    rw [hrec]; exact run_enterLoop_outer _ _ _ _ _
  generalize (w.alloc (.deferred (some []))).alloc (.loop (rec .ready none)) = W1 at *
  refine ⟨w.heap.size + 1, [{ target := .collected w.heap.size, args := #[] }], W1, { target := .fn (.func gf) lb, args := #[.func (.yield (w.heap.size + 1)) #[] #[]] }, W1, gf, #[.func (.yield (w.heap.size + 1)) #[] #[]] ++ lb, W1, henter, ?_, ?_, ?_, (fun h => by cases h), ?_⟩
  · simp only [resolve, hg]
    simp [go_sem]
  · intro f' _; trivial
  · simp [invoke, go_sem, eg]
  refine (hseq W1 hA hz (w.heap.size + 1) (fun pre A => I pre A ∧ A.heap[w.heap.size + 1]? = some (.loop (rec .ready none)) ∧ A.heap[w.heap.size]? = some (.deferred (some []))) ?_ ?_ ⟨hi0, hL, hD⟩).mono ?_
  · rintro s A B row ⟨hi, hl, hd⟩ hgr hrow
    have ne : ∀ k, (k = w.heap.size ∨ k = w.heap.size + 1) → some k ≠ row := fun k hk e => by
      have h := hX k (hrow k e.symm)
      rcases hk with rfl | rfl
      · exact h.1 rfl
      · exact h.2 rfl
    exact ⟨hI s A B row hi hgr (fun r e => .inl (hrow r e)), (hgr.block _ (Array.getElem?_eq_some_iff.1 hl).1 (ne _ (.inr rfl))).trans hl, (hgr.block _ (Array.getElem?_eq_some_iff.1 hd).1 (ne _ (.inl rfl))).trans hd⟩
  · rintro pre x rest A hxs ⟨hi, hl, hd⟩ hXA
    have hlt : w.heap.size + 1 < A.heap.size := (Array.getElem?_eq_some_iff.1 hl).1
    have hy := run_yield (P := P) (args := encs x) hl (by rw [hrec]; exact hps x)
    rw [hrec] at hy
    refine ⟨fn, _, assign, body, hy, roundIn_of_wpIn hfn (hassign pre x A _ hi hXA (by omega) ?_)⟩
    intro a' A1 hk1 hi1 hax
    have hl1 : A1.heap[w.heap.size + 1]? = some (.loop (rec .ready none)) := (hk1.2 _ (.inr (.inr rfl))).trans hl
    have hd1 : A1.heap[w.heap.size]? = some (.deferred (some [])) := (hk1.2 _ (.inr (.inl rfl))).trans hd
    have hlt1 : w.heap.size + 1 < A1.heap.size := (Array.getElem?_eq_some_iff.1 hl1).1
    refine ⟨_, run_beginRound hl1 (by rw [hrec]), ?_⟩
    have put : ∀ (C : World) (o : Obj), C.grownBy (C.putObj (w.heap.size + 1) o) (some (w.heap.size + 1)) := fun C o => grownBy_putObj' C _ o
    have hi2 := hI _ _ _ _ hi1 (put A1 (.loop { rec .ready none with state := .busy })) (fun r e => by cases e; exact .inr (.inr rfl))
    have hax2 := hAx x a' A1 (.loop { rec .ready none with state := .busy }) hlt1 hax
    have hl2 : (A1.putObj (w.heap.size + 1) (.loop { rec .ready none with state := .busy })).heap[w.heap.size + 1]? = some (.loop { rec .ready none with state := .busy }) := World.putObj_heap_same hlt1
    have hd2 : (A1.putObj (w.heap.size + 1) (.loop { rec .ready none with state := .busy })).heap[w.heap.size]? = some (.deferred (some [])) := (World.putObj_heap_other (by omega)).trans hd1
    have hz2 : A1.heap.size ≤ (A1.putObj (w.heap.size + 1) (.loop { rec .ready none with state := .busy })).heap.size := (put A1 _).size
    have hk2 : ∀ r, X r → (A1.putObj (w.heap.size + 1) (.loop { rec .ready none with state := .busy })).heap[r]? = A1.heap[r]? := fun r hr => World.putObj_heap_other (hX r hr).2
    generalize A1.putObj (w.heap.size + 1) (.loop { rec .ready none with state := .busy }) = A2 at *
    refine wpIn_mono (hbody pre x rest a' A2 hxs hi2 hax2 (fun r hr => Nat.lt_of_lt_of_le (hXA r hr) (Nat.le_trans hk1.1 hz2)) (by omega) ⟨_, hl2⟩) ?_
    rintro e a3 A3 ⟨rfl, hk3, hi3⟩
    have hl3 : A3.heap[w.heap.size + 1]? = some (.loop { rec .ready none with state := .busy }) := (hk3.2 _ (.inr (.inr rfl))).trans hl2
    have hd3 : A3.heap[w.heap.size]? = some (.deferred (some [])) := (hk3.2 _ (.inr (.inl rfl))).trans hd2
    have hlt3 : w.heap.size + 1 < A3.heap.size := (Array.getElem?_eq_some_iff.1 hl3).1
    have hend := run_endRound (P := P) none hl3
    rw [hrec] at hend hl3
    refine ⟨_, _, hend, rfl, ⟨hI _ _ _ _ hi3 (put A3 _) (fun r e => by cases e; exact .inr (.inr rfl)), ?_, (World.putObj_heap_other (by omega)).trans hd3⟩, ?_, fun r hr => ?_⟩
    · rw [World.putObj_heap_same hlt3, hrec]; rfl
    · exact Nat.le_trans hk1.1 (Nat.le_trans hz2 (Nat.le_trans hk3.1 (put A3 _).size))
    · exact (World.putObj_heap_other (hX r hr).2).trans ((hk3.2 r (.inl hr)).trans ((hk2 r hr).trans (hk1.2 r (.inl hr))))
  · rintro e W2 ⟨⟨v, rfl⟩, hi, hl, hd⟩
    have hend := run_endLoop (P := P) hl (by rw [hrec]; simp)
    rw [hrec] at hend
    have hlt : w.heap.size + 1 < W2.heap.size := (Array.getElem?_eq_some_iff.1 hl).1
    exact ⟨none, _, hend, hdone _ (hI _ _ _ _ hi (grownBy_putObj' W2 _ _) (fun r e => by cases e; exact .inr (.inr rfl))) (by have := (grownBy_putObj' W2 (w.heap.size + 1) (.loop { rec .ready none with state := .exhausted })).size; rw [hrec] at this; exact Nat.le_trans hlt this) ((World.putObj_heap_other (by omega)).trans hd)⟩

/-- A loop within a round of loop l₀. -/
theorem range_inner {α : Type} {g : Operand} {ps : Array Tmp} {assign body : Code} {Q : Exit → Act → World → Prop} {a : Act} {w : World} {l₀ : Nat} {r₀ : Loop} (hl₀ : w.heap[l₀]? = some (.loop r₀))
    {gf : Nat} {lb : Array Value} (hg : a.eval g = .func (.func gf) #[] lb) (eg : ∀ args w, (callFunc gf args).run P w = .ok (.enter gf args) w)
    {encs : α → Array Value} (hps : ∀ x, (encs x).size = ps.size) (xs : List α) (X : Nat → Prop)
    (hseq : ∀ W1, Below w.heap.size w W1 → W1.heap.size = w.heap.size + 1 → SeqX P gf lb encs xs X W1)
    (hX : ∀ r, X r → r ≠ w.heap.size)
    (I : List α → World → Prop) (hI : ∀ s A B row, I s A → A.grownBy B row → (∀ r, row = some r → X r ∨ r = w.heap.size) → I s B) (h0 : I [] w)
    (a₁ : α → Act)
    (hassign : ∀ (x : α) (A : World) (K : Act → World → Prop), K (a₁ x) A →
      assign.wpIn (Fence.wide.inRound w.heap.size) 0 P (Exit.then K (fun _ _ _ => False)) { tmps := (ps.zip (encs x)).foldl (fun t (p, v) => t.setIfInBounds p v) a.tmps, defers := [] } A)
    (hbody : ∀ (pre : List α) (x : α) (rest : List α) (A : World), xs = pre ++ x :: rest → I pre A → (∀ r, X r → r < A.heap.size) → w.heap.size + 1 ≤ A.heap.size →
      body.wpIn (Fence.wide.inRound w.heap.size) 0 P (fun e _ B => e = .normal ∧ KeepsX (fun r => X r ∨ r = w.heap.size) A B ∧ I (pre ++ [x]) B) (a₁ x) A)
    (hdone : ∀ (W : World), I xs W → w.heap.size + 1 ≤ W.heap.size → Q .normal a W) :
    (Code.rangeFunc g ps assign body).wpIn (Fence.wide.inRound l₀) 0 P Q a w := by
  refine wpIn_rangeFunc fun fn hfn => ?_
  obtain ⟨rec, hrec⟩ : ∃ rec : LoopState → Option Code → Loop, rec = fun st pe => { state := st, pending := pe, fn, tmps := a.tmps, params := ps, assign, body, defers := r₀.defers } := ⟨_, rfl⟩
  have hA : Below w.heap.size w (w.alloc (.loop (rec .ready none))) := (Below.refl _ w).alloc (Nat.le_refl _) _
  have hL : (w.alloc (.loop (rec .ready none))).heap[w.heap.size]? = some (.loop (rec .ready none)) := World.alloc_heap_new w _
  have hz : (w.alloc (.loop (rec .ready none))).heap.size = w.heap.size + 1 := by simp
  have hi0 : I [] (w.alloc (.loop (rec .ready none))) := hI _ _ _ none h0 (World.grownBy_alloc _ _ none) (fun r e => by cases e)
  have henter : (Instr.enterLoop fn a.tmps ps assign body (some l₀)).run P w = .ok (w.heap.size, []) (w.alloc (.loop (rec .ready none))) := by
    rw [hrec]; exact run_enterLoop_inner hl₀ _ _ _ _ _
  generalize w.alloc (.loop (rec .ready none)) = W1 at *
  refine ⟨w.heap.size, [], W1, { target := .fn (.func gf) lb, args := #[.func (.yield w.heap.size) #[] #[]] }, W1, gf, #[.func (.yield w.heap.size) #[] #[]] ++ lb, W1, henter, ?_, ?_, ?_, (fun h => by cases h), ?_⟩
  · simp only [resolve, hg]
    simp [go_sem]
  · intro f' _; trivial
  · simp [invoke, go_sem, eg]
  refine CallsIn.mono (R := fun e W' => (∃ v, e = .returned v) ∧ (I xs W' ∧ W'.heap[w.heap.size]? = some (.loop (rec .ready none)))) (CallsIn.inRound l₀ (hseq W1 hA hz w.heap.size (fun pre A => I pre A ∧ A.heap[w.heap.size]? = some (.loop (rec .ready none))) ?_ ?_ ⟨hi0, hL⟩)) ?_
  · rintro s A B row ⟨hi, hl⟩ hgr hrow
    have ne : some w.heap.size ≠ row := fun e => hX _ (hrow _ e.symm) rfl
    exact ⟨hI s A B row hi hgr (fun r e => .inl (hrow r e)), (hgr.block _ (Array.getElem?_eq_some_iff.1 hl).1 ne).trans hl⟩
  · rintro pre x rest A hxs ⟨hi, hl⟩ hXA
    have hlt : w.heap.size < A.heap.size := (Array.getElem?_eq_some_iff.1 hl).1
    have hy := run_yield (P := P) (args := encs x) hl (by rw [hrec]; exact hps x)
    rw [hrec] at hy
    refine ⟨fn, _, assign, body, hy, roundIn_of_wpIn hfn (hassign x A _ ?_)⟩
    refine ⟨_, run_beginRound hl (by rw [hrec]), ?_⟩
    have put : ∀ (C : World) (o : Obj), C.grownBy (C.putObj w.heap.size o) (some w.heap.size) := fun C o => grownBy_putObj' C _ o
    have hi2 := hI _ _ _ _ hi (put A (.loop { rec .ready none with state := .busy })) (fun r e => by cases e; exact .inr rfl)
    have hl2 : (A.putObj w.heap.size (.loop { rec .ready none with state := .busy })).heap[w.heap.size]? = some (.loop { rec .ready none with state := .busy }) := World.putObj_heap_same hlt
    have hz2 : A.heap.size ≤ (A.putObj w.heap.size (.loop { rec .ready none with state := .busy })).heap.size := (put A _).size
    have hk2 : ∀ r, X r → (A.putObj w.heap.size (.loop { rec .ready none with state := .busy })).heap[r]? = A.heap[r]? := fun r hr => World.putObj_heap_other (hX r hr)
    generalize A.putObj w.heap.size (.loop { rec .ready none with state := .busy }) = A2 at *
    refine wpIn_mono (hbody pre x rest A2 hxs hi2 (fun r hr => Nat.lt_of_lt_of_le (hXA r hr) hz2) (by omega)) ?_
    rintro e a3 A3 ⟨rfl, hk3, hi3⟩
    have hl3 : A3.heap[w.heap.size]? = some (.loop { rec .ready none with state := .busy }) := (hk3.2 _ (.inr rfl)).trans hl2
    have hlt3 : w.heap.size < A3.heap.size := (Array.getElem?_eq_some_iff.1 hl3).1
    have hend := run_endRound (P := P) none hl3
    rw [hrec] at hend hl3
    refine ⟨_, _, hend, rfl, ⟨hI _ _ _ _ hi3 (put A3 _) (fun r e => by cases e; exact .inr rfl), ?_⟩, ?_, fun r hr => ?_⟩
    · rw [World.putObj_heap_same hlt3, hrec]; rfl
    · exact Nat.le_trans hz2 (Nat.le_trans hk3.1 (put A3 _).size)
    · exact (World.putObj_heap_other (hX r hr)).trans ((hk3.2 r (.inl hr)).trans (hk2 r hr))
  · rintro e W2 ⟨⟨v, rfl⟩, hi, hl⟩
    have hend := run_endLoop (P := P) hl (by rw [hrec]; simp)
    rw [hrec] at hend
    have hlt : w.heap.size < W2.heap.size := (Array.getElem?_eq_some_iff.1 hl).1
    exact ⟨none, _, hend, hdone _ (hI _ _ _ _ hi (grownBy_putObj' W2 _ _) (fun r e => by cases e; exact .inr rfl)) (by have := (grownBy_putObj' W2 w.heap.size (.loop { rec .ready none with state := .exhausted })).size; rw [hrec] at this; exact Nat.le_trans hlt this)⟩
end Go.Proofs.YtajgnbhcgfgjjaaDoor
