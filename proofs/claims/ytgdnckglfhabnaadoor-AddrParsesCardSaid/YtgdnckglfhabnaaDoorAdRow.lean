/- Slices of one-cell elements that read as a list; rows of the call's own. Plain laws. -/
import Derived.Test.YtgdnckglfhabnaaDoorBase
namespace Go.Proofs.YtgdnckglfhabnaaDoor
open Go.RowKit

/-- A slice value '.slice A n c' reads as the list xs. -/
def RdV (w : World) (A : Option Addr) (n c : Nat) (xs : List Value) : Prop :=
  xs.length = n ∧ n ≤ c ∧ c ≤ 9223372036854775807 ∧ (0 < n → ∃ b off, A = some ⟨b, off, none⟩ ∧ ∀ k, k < n → w.cell? ⟨b, off + k, none⟩ = xs[k]?)
/-- The value v is nil or the head of a row of the call's own (a block from base on), and holds xs. -/
def OwnV (T : TypeId) (w : World) (base : Nat) (v : Value) (xs : List Value) : Prop := w.ownsRow base T 1 v xs.length xs

section
variable {w w' : World} {A : Option Addr} {n c base : Nat} {xs : List Value} {v : Value} {T : TypeId}
theorem RdV.nil (w : World) : RdV w none 0 0 [] := ⟨rfl, Nat.le_refl _, by omega, fun h => absurd h (by omega)⟩
theorem RdV.at_ (h : RdV w A n c xs) (hn : 0 < n) : ∃ b off, A = some ⟨b, off, none⟩ ∧ b < w.heap.size ∧ ∀ k, k < n → w.cell? ⟨b, off + k, none⟩ = xs[k]? := by
  obtain ⟨b, off, hA, hk⟩ := h.2.2.2 hn
  have h0 := hk 0 hn
  rw [List.getElem?_eq_getElem (by rw [h.1]; exact hn)] at h0
  exact ⟨b, off, hA, World.block_lt_of_cell? w _ h0, hk⟩
theorem RdV.below (h : RdV w A n c xs) (hb : Below w.heap.size w w') : RdV w' A n c xs :=
  ⟨h.1, h.2.1, h.2.2.1, fun hn => by
    obtain ⟨b, off, hA, hk⟩ := h.2.2.2 hn
    refine ⟨b, off, hA, fun k hk' => ?_⟩
    have e := hk k hk'
    rw [List.getElem?_eq_getElem (by rw [h.1]; exact hk')] at e ⊢
    exact cell_later hb e⟩
theorem RdV.alloc (h : RdV w A n c xs) (o : Obj) : RdV (w.alloc o) A n c xs := h.below ((Below.refl _ _).alloc (Nat.le_refl _) o)
theorem RdV.cut (h : RdV w A n c xs) {lo hi c' : Nat} (h1 : lo ≤ hi) (h2 : hi ≤ n) (h3 : hi - lo ≤ c') (h4 : c' ≤ c) (A' : Option Addr)
    (hA : lo < hi → A' = A.map fun x => x.add lo) : RdV w A' (hi - lo) c' ((xs.drop lo).take (hi - lo)) := by
  have hl := h.1
  refine ⟨by simp; omega, h3, by have := h.2.2.1; omega, fun hn => ?_⟩
  obtain ⟨b, off, rfl, hk⟩ := h.2.2.2 (by omega)
  refine ⟨b, off + lo, by rw [hA (by omega)]; simp [Addr.add_lit], fun k hk' => ?_⟩
  have e := hk (lo + k) (by omega)
  rw [Nat.add_assoc, e]
  simp [hk', List.getElem?_drop]
theorem OwnV.form (h : OwnV T w base v xs) : ∃ A c, v = .slice A xs.length c ∧ RdV w A xs.length c xs ∧ (A = none ∨ ∃ g, A = some ⟨g, 0, none⟩ ∧ base ≤ g ∧ g < w.heap.size) := by
  rcases h.2 with ⟨hv, hn⟩ | ⟨g, cap, cur, hv, hb, hg, hnc, hcm, hcs, ht⟩
  · have hl : xs = [] := List.eq_nil_of_length_eq_zero hn
    subst hl
    exact ⟨none, 0, hv, RdV.nil w, .inl rfl⟩
  · subst hv
    refine ⟨some ⟨g, 0, none⟩, cap, rfl, ⟨rfl, hnc, by simpa [maxLen] using hcm, fun hn => ⟨g, 0, rfl, fun k hk => ?_⟩⟩, .inr ⟨g, rfl, hb, (Array.getElem?_eq_some_iff.1 hg).1⟩⟩
    rw [Nat.zero_add, cell_of_row w g k cur T (0, 0) hg, ← ht, List.getElem?_take, if_pos (by omega)]
    simp
theorem OwnV.nil (w : World) (base : Nat) : OwnV T w base (.slice none 0 0) [] := World.ownsRow_nil w base _ 1
theorem OwnV.kept (h : OwnV T w base v xs) {B : Nat} (hb : Below B w w') (hB : ∀ g, v.ownBlock = some g → g < B) : OwnV T w' base v xs := by
  refine ⟨h.1, ?_⟩
  rcases h.2 with hn | ⟨g, cap, cur, rfl, hb', hg, rest⟩
  · exact .inl hn
  · exact .inr ⟨g, cap, cur, rfl, hb', by rw [hb.block g (hB g rfl)]; exact hg, rest⟩
theorem OwnV.below (h : OwnV T w base v xs) (hb : Below w.heap.size w w') : OwnV T w' base v xs := h.kept hb (fun g hg => (h.lt g hg).2)
theorem OwnV.alloc (h : OwnV T w base v xs) (o : Obj) : OwnV T (w.alloc o) base v xs := World.ownsRow.alloc h o
theorem OwnV.grown (h : OwnV T w base v xs) {row : Option Nat} (hg : w.grownBy w' row) (hr : ∀ g, v.ownBlock = some g → some g ≠ row) : OwnV T w' base v xs := by
  refine ⟨h.1, ?_⟩
  rcases h.2 with hn | ⟨g, cap, cur, rfl, hb', hgg, rest⟩
  · exact .inl hn
  · exact .inr ⟨g, cap, cur, rfl, hb', by rw [hg.block g (Array.getElem?_eq_some_iff.1 hgg).1 (hr g rfl)]; exact hgg, rest⟩
theorem OwnV.mono (h : OwnV T w base v xs) {base' : Nat} (hb : base' ≤ base) : OwnV T w base' v xs := by
  refine ⟨h.1, ?_⟩
  rcases h.2 with hn | ⟨g, cap, cur, hv, hb', rest⟩
  · exact .inl hn
  · exact .inr ⟨g, cap, cur, hv, by omega, rest⟩
theorem OwnV.blk_lt (h : OwnV T w base v xs) {g : Nat} (hg : v.ownBlock = some g) : base ≤ g ∧ g < w.heap.size := h.lt g hg
end

/-- append(s, x) of one or more elements that a literal has just laid. -/
theorem wpList_append_lit {P : Program} (w : World) {ops : Array Oper} {rest : List Oper} {o : Oper} {a : Act} {Q : Exit → Act → World → Prop} (hgd : o.guard = none) (s x : Operand) (t T : TypeId)
    (ho : o.op = .call { callee := .builtin .append, args := #[s, x], argTypes := #[t, t] })
    (base : Nat) (i : TypeInfo) (z : Value) (bytes : Nat) (ht : P.underlying t = some (.slice T)) (hi : P.info? T = some i) (hz : i.zero = some z) (hsize : i.size = 1) (hby : i.bytes = bytes) (hzs : z.cells.size = 1)
    (v : Value) (xs : List Value) (hs : a.eval s = v) (hown : OwnV T w base v xs) (news : List Value) (m : Nat) (hm : news.length = m) (hx : a.eval x = .slice (some ⟨w.heap.size, 0, none⟩) m m) (h1 : ∀ u ∈ news, u.oneCell' = true)
    (cs : Array Value) (hcs : cs = news.toArray) (h63 : xs.length + m ≤ 1099511627776) (hb16 : bytes ≤ 16) (hbase : base ≤ w.heap.size)
    (h : ∀ v' w', OwnV T w' base v' (xs ++ news) → Below base (w.alloc (.cells cs T)) w' → (w.alloc (.cells cs T)).grownBy w' v.ownBlock → wpList P ops Q rest (a.put o.dst v') w') : wpList P ops Q (o :: rest) a (w.alloc (.cells cs T)) := by
  subst hcs
  refine wpList_append_own (w.alloc (.cells news.toArray T)) hgd s x t ho base T i z 1 bytes ht hi hz hsize hby hzs (by omega) v xs.length xs hs (hown.alloc _) ⟨w.heap.size, 0, none⟩ m m news hx (by omega) (fun j u hj => ?_) h1 (by unfold maxLen; omega) ?_ (by simp; omega) (fun v' w' h2 h3 _ => ?_)
  · rw [Addr.add_lit, World.cell?_alloc_new]
    simpa using hj
  · have : (xs.length + m) * bytes ≤ 1099511627776 * 16 := Nat.mul_le_mul h63 hb16
    omega
  · refine h v' w' ?_ ((Below.refl _ _).grown h3 (by simp; omega) (fun k hk => (hown.blk_lt hk).1)) h3
    unfold OwnV
    rw [List.length_append, hm]
    exact h2
end Go.Proofs.YtgdnckglfhabnaaDoor
