/- Laws for the reference's Parse. -/
import Derived.Test.YtgdnckglfhabnaaDoorRfSplit
import Derived.Test.YtgdnckglfhabnaaDoorRfHex
import Derived.Test.YtgdnckglfhabnaaDoorAdPEnds
import Derived.Deep.LoopGhost
namespace Go.Proofs.YtgdnckglfhabnaaDoor
open Go.RowKit Go.Shelf

def rparseV (l : List UInt8) : Value := match parseA l with
  | some (v6, b) => .tuple #[.agg (adC v6 b), .bool true]
  | none => .tuple #[.agg (adC false z16), .bool false]

/-- append(s, x) of elements that a literal has just laid, of any width. -/
theorem wpList_append_litB {P : Program} (w : World) {ops : Array Oper} {rest : List Oper} {o : Oper} {a : Act} {Q : Exit → Act → World → Prop} (hgd : o.guard = none) (s x : Operand) (t T : TypeId)
    (ho : o.op = .call { callee := .builtin .append, args := #[s, x], argTypes := #[t, t] })
    (base : Nat) (i : TypeInfo) (z : Value) (bytes : Nat) (ht : P.underlying t = some (.slice T)) (hi : P.info? T = some i) (hz : i.zero = some z) (hsize : i.size = 1) (hby : i.bytes = bytes) (hzs : z.cells.size = 1)
    (v : Value) (xs : List Value) (hs : a.eval s = v) (hown : OwnV T w base v xs) (news : List Value) (m : Nat) (hm : news.length = m) (hx : a.eval x = .slice (some ⟨w.heap.size, 0, none⟩) m m) (h1 : ∀ u ∈ news, u.oneCell' = true)
    (cs : Array Value) (hcs : cs = news.toArray) (h63 : xs.length + m ≤ 1073741824) (hb16 : bytes ≤ 16384) (hbase : base ≤ w.heap.size)
    (h : ∀ v' w', OwnV T w' base v' (xs ++ news) → Below base (w.alloc (.cells cs T)) w' → (w.alloc (.cells cs T)).grownBy w' v.ownBlock → wpList P ops Q rest (a.put o.dst v') w') : wpList P ops Q (o :: rest) a (w.alloc (.cells cs T)) := by
  subst hcs
  refine wpList_append_own (w.alloc (.cells news.toArray T)) hgd s x t ho base T i z 1 bytes ht hi hz hsize hby hzs (by omega) v xs.length xs hs (hown.alloc _) ⟨w.heap.size, 0, none⟩ m m news hx (by omega) (fun j u hj => ?_) h1 (by unfold maxLen; omega) ?_ (by simp; omega) (fun v' w' h2 h3 _ => ?_)
  · rw [Addr.add_lit, World.cell?_alloc_new]
    simpa using hj
  · have : (xs.length + m) * bytes ≤ 1073741824 * 16384 := Nat.mul_le_mul h63 hb16
    omega
  · refine h v' w' ?_ ((Below.refl _ _).grown h3 (by simp; omega) (fun k hk => (hown.blk_lt hk).1)) h3
    unfold OwnV
    rw [List.length_append, hm]
    exact h2

/-- Rows of two types lie apart. -/
theorem OwnV.apart {t t' : TypeId} {w : World} {b b' : Nat} {v v' : Value} {xs ys : List Value} (h : OwnV t w b v xs) (h' : OwnV t' w b' v' ys) (hne : t ≠ t') : ∀ g, v.ownBlock = some g → some g ≠ v'.ownBlock := by
  intro g hg e
  rcases h.2 with ⟨rfl, _⟩ | ⟨g1, c1, cur1, rfl, _, hg1, _⟩
  · cases hg
  · rcases h'.2 with ⟨rfl, _⟩ | ⟨g2, c2, cur2, rfl, _, hg2, _⟩
    · cases e
    · have e1 : g1 = g := by injection hg
      have e2 : g = g2 := by injection e
      subst e1 e2
      rw [hg1] at hg2
      injection hg2 with hg2
      injection hg2 with _ h3 _
      exact hne h3

/-- Where the first two colons stand. -/
theorem cut_none {l : List UInt8} (h : ∀ i, i + 1 < l.length → ¬ (l[i]? = some 58 ∧ l[i + 1]? = some 58)) : cutL l = (l, [], false) := by
  have hx : Lib.index l [58, 58] = -1 := by
    rcases Lib.index_spec l [58, 58] with ⟨h1, _⟩ | ⟨i, h1, h2, h3, _⟩
    · exact h1
    · exfalso
      rw [Lib.occAt, List.isPrefixOf_iff_prefix] at h3
      obtain ⟨t, ht⟩ := h3
      have hl : l.length - i = 2 + t.length := by
        have := congrArg List.length ht
        rw [List.length_drop] at this
        simp at this
        omega
      refine h i (by omega) ⟨?_, ?_⟩
      · have := congrArg (·[0]?) ht
        rw [List.getElem?_drop] at this
        simpa using this.symm
      · have := congrArg (·[1]?) ht
        rw [List.getElem?_drop] at this
        simpa using this.symm
  rw [cutL, Lib.cut, hx]
  rfl
theorem cut_at {l : List UInt8} {k : Nat} (hk : k + 1 < l.length) (h0 : l[k]? = some 58) (h1 : l[k + 1]? = some 58) (h : ∀ i, i < k → ¬ (l[i]? = some 58 ∧ l[i + 1]? = some 58)) : cutL l = (l.take k, l.drop (k + 2), true) := by
  have hx : Lib.index l [58, 58] = k := by
    refine Lib.index_first (by omega) ?_ (fun j hj => ?_)
    · rw [Lib.occAt, List.isPrefixOf_iff_prefix]
      refine ⟨l.drop (k + 2), ?_⟩
      rw [List.drop_eq_getElem_cons (by omega : k < l.length), List.drop_eq_getElem_cons (by omega : k + 1 < l.length)]
      rw [List.getElem?_eq_getElem (by omega)] at h0 h1
      injection h0 with h0
      injection h1 with h1
      rw [h0, h1]
      rfl
    · rw [Lib.occAt, Bool.eq_false_iff]
      intro e
      rw [List.isPrefixOf_iff_prefix] at e
      obtain ⟨t, ht⟩ := e
      refine h j hj ⟨?_, ?_⟩
      · have := congrArg (·[0]?) ht
        rw [List.getElem?_drop] at this
        simpa using this.symm
      · have := congrArg (·[1]?) ht
        rw [List.getElem?_drop] at this
        simpa using this.symm
  rw [cutL, Lib.cut, hx, if_pos (by omega)]
  rfl
theorem flat_two (a b c d : UInt8) : flat (two [a, b, c, d]) = [a, b, c, d] := by
  have ha := a.toNat_lt
  have hb := b.toNat_lt
  have hc := c.toNat_lt
  have hd := d.toNat_lt
  rw [two, flat, flat, flat]
  rw [show (a.toNat * 256 + b.toNat) / 256 = a.toNat by omega, show (a.toNat * 256 + b.toNat) % 256 = b.toNat by omega, show (c.toNat * 256 + d.toNat) / 256 = c.toNat by omega, show (c.toNat * 256 + d.toNat) % 256 = d.toNat by omega]
  simp
theorem fill_two (o0 o1 : List UInt8) (h : o0.length + o1.length ≤ 16) : (o0 ++ List.replicate (16 - o0.length) 0).take (16 - o1.length) ++ o1 = o0 ++ List.replicate (16 - (o0.length + o1.length)) 0 ++ o1 := by
  rw [List.take_append, List.take_of_length_le (by omega : o0.length ≤ 16 - o1.length), List.take_replicate]
  congr 3
  omega
theorem flat_zeros : ∀ n : Nat, flat (List.replicate n 0) = List.replicate (2 * n) 0
  | 0 => rfl
  | n + 1 => by
    rw [List.replicate_succ, flat, flat_zeros n, show 2 * (n + 1) = 2 * n + 1 + 1 by omega, List.replicate_succ, List.replicate_succ]
    rfl
end Go.Proofs.YtgdnckglfhabnaaDoor
