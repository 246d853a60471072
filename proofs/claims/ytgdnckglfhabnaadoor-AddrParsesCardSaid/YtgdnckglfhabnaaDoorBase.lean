/- Words for memory: a slice of bytes that reads as a list; steps of worlds. Plain lemmas, no program. -/
import Derived.Test.YtgdnckglfhabnaaDoorRows
import Derived.WalkKit
import Derived.WalkSpells
import Derived.WalkLawsBesides
import Derived.Handy
import Derived.BigQuiet
import Derived.Deep.QuietTactic
import Derived.Lib.Hide
import Derived.Deep.DeepMust
import Derived.Deep.DeepFit
import Derived.Maps.AppendAt
import Derived.Deep.AppendLies
import Derived.Deep.Draws
import Derived.RegionTactic
namespace Go.Proofs.YtgdnckglfhabnaaDoor
open Go.RowKit

/-- What was there before a call reads as it did. -/
theorem bcell {W w1 : World} (hb : Below W.heap.size W w1) : (∀ b o, b < W.heap.size → w1.cell? ⟨b, o, none⟩ = W.cell? ⟨b, o, none⟩) ∧ (∀ b o, b < W.heap.size → w1.frozen? ⟨b, o, none⟩ = W.frozen? ⟨b, o, none⟩) :=
  ⟨fun b o h => hb.cell (p := ⟨b, o, none⟩) h, fun b o h => hb.frozen (p := ⟨b, o, none⟩) h⟩

theorem carry3 {W W' : World} {b : Nat} {v0 v1 v2 : Value} (hb : Below W.heap.size W W') (h : W.cell? ⟨b, 0, none⟩ = some v0 ∧ W.cell? ⟨b, 1, none⟩ = some v1 ∧ W.cell? ⟨b, 2, none⟩ = some v2) :
    W'.cell? ⟨b, 0, none⟩ = some v0 ∧ W'.cell? ⟨b, 1, none⟩ = some v1 ∧ W'.cell? ⟨b, 2, none⟩ = some v2 :=
  ⟨cell_later hb h.1, cell_later hb h.2.1, cell_later hb h.2.2⟩

theorem cell_far {w : World} {b o : Nat} {p : Addr} (hp : b ≠ p.block) (u : Value) : (w.setCell p u).cell? ⟨b, o, none⟩ = w.cell? ⟨b, o, none⟩ :=
  World.cell?_of_block (Below.heap_setCell w p u b hp)
theorem frozen_far {w : World} {b o : Nat} {p : Addr} (hp : b ≠ p.block) (u : Value) : (w.setCell p u).frozen? ⟨b, o, none⟩ = w.frozen? ⟨b, o, none⟩ :=
  World.frozen?_of_block (Below.heap_setCell w p u b hp)
theorem carry3set {W : World} {b : Nat} {v0 v1 v2 : Value} {p : Addr} (hp : b ≠ p.block) (u : Value) (h : W.cell? ⟨b, 0, none⟩ = some v0 ∧ W.cell? ⟨b, 1, none⟩ = some v1 ∧ W.cell? ⟨b, 2, none⟩ = some v2) :
    (W.setCell p u).cell? ⟨b, 0, none⟩ = some v0 ∧ (W.setCell p u).cell? ⟨b, 1, none⟩ = some v1 ∧ (W.setCell p u).cell? ⟨b, 2, none⟩ = some v2 :=
  ⟨(cell_far hp u).trans h.1, (cell_far hp u).trans h.2.1, (cell_far hp u).trans h.2.2⟩

/-- The cells of a row of bytes. -/
def bv (l : List UInt8) : List Value := l.map fun u => Value.int .u8 (u.toNat : Int)

theorem bv_length (l : List UInt8) : (bv l).length = l.length := by simp [bv]
theorem bv_append (l m : List UInt8) : bv (l ++ m) = bv l ++ bv m := by simp [bv]
theorem bv_one (l : List UInt8) : ∀ u ∈ bv l, u.oneCell' = true := by
  intro u hu
  obtain ⟨_, _, rfl⟩ := List.mem_map.1 hu
  rfl
theorem bv_get (l : List UInt8) (k : Nat) (h : k < l.length) : (bv l)[k]? = some (Value.int .u8 ((l[k]?.getD 0).toNat : Int)) := by
  simp [bv, h]

/-- A slice value '.slice A n c' of bytes reads as the list l. -/
def Rd (w : World) (A : Option Addr) (n c : Nat) (l : List UInt8) : Prop :=
  l.length = n ∧ n ≤ c ∧ c ≤ 9223372036854775807 ∧
    (0 < n → ∃ b off, A = some ⟨b, off, none⟩ ∧ ∀ k, k < n → w.cell? ⟨b, off + k, none⟩ = some (.int .u8 ((l[k]?.getD 0).toNat : Int)))

section
variable {w w' : World} {A : Option Addr} {n c : Nat} {l : List UInt8}

theorem Rd.len (h : Rd w A n c l) : l.length = n := h.1
theorem Rd.nil (w : World) : Rd w none 0 0 [] := ⟨rfl, Nat.le_refl _, by omega, fun h => absurd h (by omega)⟩
theorem Rd.at_ (h : Rd w A n c l) (hn : 0 < n) : ∃ b off, A = some ⟨b, off, none⟩ ∧ b < w.heap.size ∧ ∀ k, k < n → w.cell? ⟨b, off + k, none⟩ = some (.int .u8 ((l[k]?.getD 0).toNat : Int)) := by
  obtain ⟨b, off, hA, hk⟩ := h.2.2.2 hn
  exact ⟨b, off, hA, World.block_lt_of_cell? w _ (hk 0 hn), hk⟩
theorem Rd.below (h : Rd w A n c l) (hb : Below w.heap.size w w') : Rd w' A n c l :=
  ⟨h.1, h.2.1, h.2.2.1, fun hn => by
    obtain ⟨b, off, hA, hk⟩ := h.2.2.2 hn
    exact ⟨b, off, hA, fun k hk' => cell_later hb (hk k hk')⟩⟩
theorem Rd.alloc (h : Rd w A n c l) (o : Obj) : Rd (w.alloc o) A n c l := h.below ((Below.refl _ _).alloc (Nat.le_refl _) o)
theorem Rd.drew (h : Rd w A n c l) : Rd w.drew A n c l := h
theorem Rd.drewN (h : Rd w A n c l) (k : Nat) : Rd (w.drewN k) A n c l := h
/-- A part of a slice. -/
theorem Rd.cut (h : Rd w A n c l) {lo hi c' : Nat} (h1 : lo ≤ hi) (h2 : hi ≤ n) (h3 : hi - lo ≤ c') (h4 : c' ≤ c) (A' : Option Addr)
    (hA : lo < hi → A' = A.map fun x => x.add lo) : Rd w A' (hi - lo) c' ((l.drop lo).take (hi - lo)) := by
  have hl := h.1
  refine ⟨by simp; omega, h3, by have := h.2.2.1; omega, fun hn => ?_⟩
  obtain ⟨b, off, rfl, hk⟩ := h.2.2.2 (by omega)
  refine ⟨b, off + lo, by rw [hA (by omega)]; simp [Addr.add_lit], fun k hk' => ?_⟩
  have e := hk (lo + k) (by omega)
  rw [Nat.add_assoc, e]
  simp [hk', List.getElem?_drop]
theorem Rd.of_own {base e : Nat} (h : w.ownsRow base e 1 (.slice A n c) n (bv l)) : Rd w A n c l := by
  obtain ⟨h1, h2⟩ := h
  have hl : l.length = n := by simpa [bv] using h1
  rcases h2 with ⟨hv, hn⟩ | ⟨g, cap, cur, hv, hb, hg, hnc, hcm, hcs, ht⟩
  · injection hv with a b d
    subst a; subst b; subst d
    have : l = [] := List.eq_nil_of_length_eq_zero hl
    subst this
    exact Rd.nil w
  · injection hv with a b d
    subst a; subst d
    refine ⟨hl, hnc, by simpa [maxLen] using hcm, fun hn => ⟨g, 0, rfl, fun k hk => ?_⟩⟩
    rw [Nat.zero_add, cell_of_row w g k cur e (0, 0) hg]
    have e1 : (bv l)[k]? = cur[k]? := by
      rw [← ht, List.getElem?_take, if_pos (by omega)]
      simp
    rw [← e1, bv_get l k (by omega)]
end

/-- Block g is known whole: the cells cs, none frozen. -/
def Blk (w : World) (g : Nat) (t : TypeId) (cs : Array Value) : Prop := w.heap[g]? = some (.cells cs t (0, 0))

section
variable {w w' : World} {g : Nat} {t : TypeId} {cs : Array Value}
theorem Blk.lt (h : Blk w g t cs) : g < w.heap.size := (Array.getElem?_eq_some_iff.1 h).1
theorem Blk.cell (h : Blk w g t cs) (i : Nat) : w.cell? ⟨g, i, none⟩ = cs[i]? := cell_of_row w g i cs t (0, 0) h
theorem Blk.frozen (h : Blk w g t cs) (i : Nat) : w.frozen? ⟨g, i, none⟩ = false := by
  unfold Blk at h
  simp [World.frozen?, h]
theorem Blk.new (w : World) (t : TypeId) (cs : Array Value) : Blk (w.alloc (.cells cs t)) w.heap.size t cs := heap_alloc_new w _
theorem Blk.drew (h : Blk w g t cs) : Blk w.drew g t cs := h
theorem Blk.drewN (h : Blk w g t cs) (n : Nat) : Blk (w.drewN n) g t cs := h
theorem Blk.alloc (h : Blk w g t cs) (o : Obj) : Blk (w.alloc o) g t cs := (Below.heap_alloc w o g h.lt).trans h
theorem Blk.set_ (h : Blk w g t cs) (i : Nat) (u : Value) : Blk (w.setCell ⟨g, i, none⟩ u) g t (cs.setIfInBounds i u) := by
  unfold Blk at h ⊢
  simp [World.setCell, Array.getElem?_modify, h]
theorem Blk.far (h : Blk w g t cs) {p : Addr} (hp : g ≠ p.block) (u : Value) : Blk (w.setCell p u) g t cs := (Below.heap_setCell w p u g hp).trans h
theorem Blk.below {B : Nat} (h : Blk w g t cs) (hb : Below B w w') (hg : g < B) : Blk w' g t cs := (hb.block g hg).trans h
theorem Blk.grown {row : Option Nat} (h : Blk w g t cs) (hb : w.grownBy w' row) (hg : some g ≠ row) : Blk w' g t cs := (hb.block g h.lt hg).trans h
theorem Blk.keep (h : Blk w g t cs) (hb : Below w.heap.size w w') : Blk w' g t cs := h.below hb h.lt
end

end Go.Proofs.YtgdnckglfhabnaaDoor
