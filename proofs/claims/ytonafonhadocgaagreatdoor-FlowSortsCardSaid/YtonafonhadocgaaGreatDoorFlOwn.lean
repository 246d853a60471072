/- The reference's Sorted of chapter 28; an own row of flows that grows. -/
import Derived.Test.YtonafonhadocgaaGreatDoorFlRLess
import Derived.Test.YtonafonhadocgaaGreatDoorFlComp
import Derived.Laws.AppendOwnNone
namespace Go.Proofs.YtonafonhadocgaaGreatDoor
open Go.RowKit Go.Shelf

/-- '.slice A n c' is nil, or a row of the call's own: it holds fs. -/
structure OwnFl (w : World) (base : Nat) (A : Option Addr) (n c : Nat) (fs : List Fl) : Prop where
  own : w.ownsRow base 30 36 (.slice A n c) n (rowC fs)
  ok : ∀ f ∈ fs, FlOk f
  len : fs.length = n
section
variable {w w' : World} {base n c : Nat} {A : Option Addr} {fs : List Fl}
theorem OwnFl.form (h : OwnFl w base A n c fs) : (A = none ∧ n = 0 ∧ c = 0) ∨ ∃ g, A = some ⟨g, 0, none⟩ ∧ n ≤ c := by
  rcases h.own.2 with ⟨e, e2⟩ | ⟨g, cap, cur, e, _, _, h1, _⟩
  · injection e with e e3 e4
    exact .inl ⟨e, e2, e4⟩
  · injection e with e e3 e4
    exact .inr ⟨g, e, by omega⟩
theorem OwnFl.nil_ (w : World) (base : Nat) : OwnFl w base none 0 0 [] := ⟨World.ownsRow_nil w base 30 36, fun f h => (by cases h), rfl⟩
theorem OwnFl.rd (h : OwnFl w base A n c fs) : RdF w A n c fs := by
  rcases h.own.2 with ⟨e, e2⟩ | ⟨g, cap, cur, e, _, hg, h1, h2, h3, h4⟩
  · injection e with e e3 e4
    subst e e2 e4
    exact ⟨h.len, Nat.le_refl _, fun _ => ⟨rfl, rfl⟩, fun hn => by omega⟩
  · injection e with e e3 e4
    subst e e4
    refine ⟨h.len, h1, fun e => (by cases e), fun _ => ⟨g, 0, rfl, (Array.getElem?_eq_some_iff.1 hg).1, fun j f hf i u hu => ?_⟩⟩
    have hi : i < 36 := by
      have := (List.getElem?_eq_some_iff.1 hu).1
      rw [flC_len (h.ok f (List.mem_of_getElem? hf))] at this
      exact this
    have hj := (List.getElem?_eq_some_iff.1 hf).1
    have hn := h.len
    have h5 := rowC_at fs h.ok j f hf i hi
    rw [← h4, List.getElem?_take, if_pos (by omega), hu] at h5
    rw [Blk.cell (t := 30) (cs := cur) hg]
    rw [show 0 + j * 36 + i = j * 36 + i by omega]
    simpa using h5
theorem OwnFl.mono {base' : Nat} (h : OwnFl w base A n c fs) (hb : base' ≤ base) : OwnFl w base' A n c fs := by
  refine ⟨⟨h.own.1, ?_⟩, h.ok, h.len⟩
  rcases h.own.2 with e | ⟨g, cap, cur, e, h0, h1⟩
  · exact .inl e
  · exact .inr ⟨g, cap, cur, e, Nat.le_trans hb h0, h1⟩
theorem OwnFl.alloc (h : OwnFl w base A n c fs) (o : Obj) : OwnFl (w.alloc o) base A n c fs := ⟨h.own.alloc o, h.ok, h.len⟩
theorem OwnFl.below (h : OwnFl w base A n c fs) (hb : Below w.heap.size w w') : OwnFl w' base A n c fs := by
  refine ⟨⟨h.own.1, ?_⟩, h.ok, h.len⟩
  rcases h.own.2 with e | ⟨g, cap, cur, e, h0, hg, h1⟩
  · exact .inl e
  · exact .inr ⟨g, cap, cur, e, h0, by rw [hb.block g (Array.getElem?_eq_some_iff.1 hg).1]; exact hg, h1⟩
/-- Flows read from the start, or from a place on. -/
theorem RdF.take_ (h : RdF w A n c fs) (k : Nat) (hk : k ≤ n) : RdF w A k c (fs.take k) := by
  refine ⟨by rw [List.length_take, h.len]; omega, Nat.le_trans hk h.cap, fun e => ?_, fun hk0 => ?_⟩
  · obtain ⟨h1, h2⟩ := h.nil_ e
    omega
  · obtain ⟨b, off, e, hl, hr⟩ := h.at_ (by omega)
    refine ⟨b, off, e, hl, fun j f hf => hr j f ?_⟩
    rw [List.getElem?_take] at hf
    split at hf
    · exact hf
    · cases hf
theorem RdF.drop_ {b off : Nat} (h : RdF w (some ⟨b, off, none⟩) n c fs) (k : Nat) (hk : k ≤ n) (hb : b < w.heap.size) (m c' : Nat) (hm : m = n - k) (hc : m ≤ c') (off' : Nat) (ho : k < n → off' = off + k * 36) : RdF w (some ⟨b, off', none⟩) m c' (fs.drop k) := by
  subst hm
  refine ⟨by rw [List.length_drop, h.len], hc, fun e => (by cases e), fun hk0 => ⟨b, off', rfl, hb, fun j f hf => ?_⟩⟩
  rw [List.getElem?_drop] at hf
  have := h.of hf
  rw [ho (by omega), show off + k * 36 + j * 36 = off + (k + j) * 36 by omega]
  exact this
end
set_option maxRecDepth 100000 in
theorem RdF.one (w : World) (f : Fl) : RdF (w.alloc (.cells (flC f.1 f.2) 30)) (some ⟨w.heap.size, 0, none⟩) 1 1 [f] :=
  ⟨rfl, Nat.le_refl _, fun e => (by cases e), fun _ => ⟨w.heap.size, 0, rfl, by simp, fun j g hg i u hu => by
    cases j with
    | zero =>
      injection hg with hg
      subst hg
      rw [(Blk.new w 30 (flC f.1 f.2)).cell]
      rw [show 0 + 0 * 36 + i = i by omega]
      simpa using hu
    | succ j => cases hg⟩⟩

set_option maxRecDepth 100000 in
theorem info_fl3 : ∃ i0 z, Tryz.prog.info? 30 = some i0 ∧ i0.zero = some z ∧ i0.size = 36 ∧ i0.bytes = 40 ∧ z.cells.size = 36 := by
  obtain ⟨i0, h1, h2⟩ := Option.map_eq_some_iff.1 info_fl
  injection h2 with h3 h4
  injection h4 with h4 h5
  obtain ⟨z, hz⟩ := Option.isSome_iff_exists.1 h3
  refine ⟨i0, z, h1, hz, h4, h5, ?_⟩
  have h := zero_fl
  rw [h1] at h
  injection h with h
  dsimp only at h
  rw [hz] at h
  injection h

set_option maxRecDepth 100000 in
theorem wpList_append_fl (w : World) {ops : Array Oper} {rest : List Oper} {o : Oper} {a : Act} {Q : Exit → Act → World → Prop} (hgd : o.guard = none) (s x : Operand)
    (ho : o.op = .call { callee := .builtin .append, args := #[s, x], argTypes := #[50, 50] })
    (base : Nat) (A : Option Addr) (n c : Nat) (fs : List Fl) (hs : a.eval s = .slice A n c) (hown : OwnFl w base A n c fs)
    (A' : Option Addr) (m c' : Nat) (gs : List Fl) (hx : a.eval x = .slice A' m c') (hr : RdF w A' m c' gs) (hok : ∀ f ∈ gs, FlOk f) (h63 : n + m ≤ 1000000) (hbase : base ≤ w.heap.size) (N : Nat) (hN : n + m = N)
    (h : ∀ A'' c'' w', OwnFl w' base A'' N c'' (fs ++ gs) → Below base w w' → wpList Tryz.prog ops Q rest (a.put o.dst (.slice A'' N c'')) w') : wpList Tryz.prog ops Q (o :: rest) a w := by
  subst hN
  obtain ⟨i0, z, hi, hz, hsz, hby, hzs⟩ := info_fl3
  have hoko : ∀ f ∈ fs ++ gs, FlOk f := fun f hf => by
    rcases List.mem_append.1 hf with h1 | h1
    · exact hown.ok f h1
    · exact hok f h1
  cases A' with
  | none =>
    obtain ⟨rfl, rfl⟩ := hr.nil_ rfl
    obtain rfl : gs = [] := List.eq_nil_of_length_eq_zero hr.len
    refine wpList_append_own_none hgd s x 50 ho base 30 i0 36 Tryz.underlying50 hi _ n (rowC fs) hs hown.own hx ?_
    have := h A c w (by rw [List.append_nil]; exact hown) (Below.refl _ w)
    exact this
  | some ad =>
    have hrow : rowC (fs ++ gs) = rowC fs ++ rowC gs := by unfold rowC; rw [List.flatMap_append]
    refine wpList_append_own w hgd s x 50 ho base 30 i0 z 36 40 Tryz.underlying50 hi hz hsz hby hzs (by omega) _ n (rowC fs) hs hown.own ad m c' (rowC gs) hx (by rw [rowC_len gs hok, hr.len]) (fun j u hj => ?_) (rowC_one gs) (by unfold maxLen; omega) (by omega) hbase (fun v' w' h2 h3 _ => ?_)
    · obtain ⟨f, hf, hu⟩ := rowC_get gs hok j u hj
      have hlt := (List.getElem?_eq_some_iff.1 hf).1
      obtain ⟨b, off, e, _, hrw⟩ := hr.at_ (by have := hr.len; omega)
      injection e with e
      subst e
      have := hrw (j / 36) f hf (j % 36) u hu
      rw [Addr.add_lit, ← this]
      congr 2
      omega
    · have hb : Below base w w' := (Below.refl _ _).grown h3 hbase (fun k hk => (hown.own.lt k hk).1)
      rw [← hrow] at h2
      rcases h2.2 with ⟨e, e2⟩ | ⟨g, cap, cur, e, _⟩
      · subst e
        obtain ⟨rfl, rfl⟩ : n = 0 ∧ m = 0 := by omega
        exact h none 0 w' ⟨h2, hoko, by rw [List.length_append, hown.len, hr.len]⟩ hb
      · subst e
        exact h _ cap w' ⟨h2, hoko, by rw [List.length_append, hown.len, hr.len]⟩ hb
end Go.Proofs.YtonafonhadocgaaGreatDoor
