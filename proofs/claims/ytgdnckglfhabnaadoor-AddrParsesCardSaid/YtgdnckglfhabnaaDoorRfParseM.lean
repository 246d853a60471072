/- The memory of the reference's Parse. -/
import Derived.Test.YtgdnckglfhabnaaDoorRfParseL
namespace Go.Proofs.YtgdnckglfhabnaaDoor
open Go.RowKit Go.Shelf

theorem results_rad {fn : Func} {p t : Tmp} (h : fn.results = #[.cell p 24, .tmp t]) (tmps : Array Value) (w : World) (g : Nat) (cs : Array Value)
    (hp : tmps.getD p undef = .pointer (some ⟨g, 0, none⟩)) (hg : Blk w g 24 cs) (hi : cs.size = 17) :
    (results fn tmps).run Tryd.prog w = .ok (.tuple #[.agg cs, tmps.getD t undef]) w := results_ad h tmps w g cs hp hg hi
/-- The memory: the result's cells, the address's. -/
structure RInv (w : World) (u : Bool) (l : List UInt8) (wr : World) : Prop where
  res : Blk wr w.heap.size 24 (adC false z16)
  adr : Blk wr (w.heap.size + 1) 24 (adC u l)
  bel : Below w.heap.size w wr
theorem RInv.next {w : World} {u : Bool} {l : List UInt8} {wr w' : World} (h : RInv w u l wr) (hb : Below wr.heap.size wr w') : RInv w u l w' := ⟨h.res.keep hb, h.adr.keep hb, h.bel.trans (hb.mono h.bel.size)⟩
theorem RInv.set_ {w : World} {u : Bool} {l : List UInt8} {wr : World} (h : RInv w u l wr) (j : Nat) (x : UInt8) : RInv w u (l.set j x) (wr.setCell ⟨w.heap.size + 1, 1 + j, none⟩ (.int .u8 (x.toNat : Int))) :=
  ⟨h.res.far (by show w.heap.size ≠ w.heap.size + 1; omega) _, by rw [← adC_set]; exact h.adr.set_ (1 + j) _, h.bel.setCell (by show w.heap.size ≤ w.heap.size + 1; omega) _⟩
theorem RInv.size1 {w : World} {u : Bool} {l : List UInt8} {wr : World} (h : RInv w u l wr) : w.heap.size + 1 < wr.heap.size := h.adr.lt
theorem RInv.first {w w1 : World} (hk : Blk w1 (w.heap.size + 1) 24 (adC false z16)) (hg : ((w.alloc (.cells (adC false z16) 24)).alloc (.cells (adC false z16) 24)).grownBy w1 (some (w.heap.size + 1))) : RInv w false z16 w1 :=
  ⟨((Blk.new w 24 (adC false z16)).alloc _).grown hg (fun e => by have := Option.some.inj e; omega), hk,
    (((Below.refl _ w).alloc (Nat.le_refl _) _).alloc (by simp) _).grown hg (by simp; omega) (fun k e => by cases e; omega)⟩
theorem blk_second (w : World) : Blk ((w.alloc (.cells (adC false z16) 24)).alloc (.cells (adC false z16) 24)) (w.heap.size + 1) 24 (adC false z16) := by
  have := Blk.new (w.alloc (.cells (adC false z16) 24)) 24 (adC false z16)
  rw [World.size_alloc] at this
  exact this
/-- The parts of a text at its two colons. -/
def PartsOf (l : List UInt8) (P : Nat) (ps : List ByteArray) : Prop :=
  (P = 1 ∧ ps = [mkB l] ∧ cutL l = (l, [], false)) ∨ (P = 2 ∧ ps = [mkB (cutL l).1, mkB (cutL l).2.1] ∧ (cutL l).2.2 = true)
theorem PartsOf.len {l : List UInt8} {P : Nat} {ps : List ByteArray} (h : PartsOf l P ps) : ps.length = P := by
  rcases h with ⟨rfl, rfl, _⟩ | ⟨rfl, rfl, _⟩ <;> rfl
theorem PartsOf.small {l : List UInt8} {P : Nat} {ps : List ByteArray} (h : PartsOf l P ps) : ∀ x ∈ ps, x.size ≤ l.length := by
  have hc := cut_len l
  intro x hx
  rcases h with ⟨rfl, rfl, _⟩ | ⟨rfl, rfl, _⟩
  · simp only [List.mem_cons, List.not_mem_nil, or_false] at hx
    rw [hx]; exact Nat.le_refl _
  · simp only [List.mem_cons, List.not_mem_nil, or_false] at hx
    rcases hx with rfl | rfl
    · exact hc.1
    · exact hc.2
/-- The memory of the loop over the parts. -/
structure GInv (w : World) (B gp P : Nat) (ps : List ByteArray) (gss : List (List Nat)) (av : Value) (wr : World) : Prop where
  r : RInv w false z16 wr
  parts : ∀ j, j < P → wr.cell? ⟨gp, j, none⟩ = (ps.map Value.string)[j]?
  vals : ∃ vs : List Value, OwnV 33 wr B av vs ∧ vs.length = gss.length ∧ ∀ (j : Nat) (v : Value) (g : List Nat), vs[j]? = some v → gss[j]? = some g → OwnV 5 wr B v (bv (flat g))
  ok : ∀ (j : Nat) (g : List Nat), gss[j]? = some g → ∃ x, ps[j]? = some x ∧ someG x (decide (j + 1 = P)) = some g
theorem GInv.next {w : World} {B gp P : Nat} {ps : List ByteArray} {gss : List (List Nat)} {av : Value} {wr w' : World} (h : GInv w B gp P ps gss av wr) (hpl : ps.length = P) (hb : Below wr.heap.size wr w') : GInv w B gp P ps gss av w' := by
  obtain ⟨vs, h1, h2, h3⟩ := h.vals
  refine ⟨h.r.next hb, fun j hj => ?_, ⟨vs, h1.below hb, h2, fun j v g e1 e2 => (h3 j v g e1 e2).below hb⟩, h.ok⟩
  have e := h.parts j hj
  rw [List.getElem?_map, List.getElem?_eq_getElem (by rw [hpl]; exact hj)] at e ⊢
  exact cell_later hb e
/-- One more row of bytes. -/
theorem GInv.add {w : World} {B gp P : Nat} {ps : List ByteArray} {gss : List (List Nat)} {av av' : Value} {vs : List Value} {wr w' : World} {o : Obj} {v : Value} {g : List Nat} {Bs : Nat} (h : GInv w B gp P ps gss av wr) (hpl : ps.length = P) (hB : B ≤ Bs)
    (hvs : OwnV 33 wr B av vs) (hvl : vs.length = gss.length) (hvv : ∀ (j : Nat) (v : Value) (g : List Nat), vs[j]? = some v → gss[j]? = some g → OwnV 5 wr B v (bv (flat g)))
    (hv : OwnV 5 wr Bs v (bv (flat g))) (hx : ∃ x, ps[gss.length]? = some x ∧ someG x (decide (gss.length + 1 = P)) = some g)
    (hown : OwnV 33 w' B av' (vs ++ [v])) (hg : (wr.alloc o).grownBy w' av.ownBlock) (hgp : ∀ gb, av.ownBlock = some gb → gp ≠ gb ∧ w.heap.size + 1 < gb) : GInv w B gp P ps (gss ++ [g]) av' w' := by
  have hk : ∀ {b : Nat} {t : TypeId} {cs : Array Value}, Blk wr b t cs → (∀ gb, av.ownBlock = some gb → b ≠ gb) → Blk w' b t cs := fun hb hne => (hb.alloc o).grown hg (fun e => hne _ e.symm rfl)
  refine ⟨⟨hk h.r.res fun gb e => by have := (hgp gb e).2; omega, hk h.r.adr fun gb e => by have := (hgp gb e).2; omega, ?_⟩, fun j hj => ?_, ⟨vs ++ [v], hown, by simp [hvl], fun j u q e1 e2 => ?_⟩, fun j q e => ?_⟩
  · exact (h.r.bel.alloc h.r.bel.size o).grown hg (by have := h.r.bel.size; simp; omega) (fun k e => by have := (hgp k e).2; omega)
  · have e := h.parts j hj
    rw [List.getElem?_map, List.getElem?_eq_getElem (by rw [hpl]; exact hj)] at e ⊢
    have hlt := World.block_lt_of_cell? wr _ e
    have e2 : (wr.alloc o).cell? ⟨gp, j, none⟩ = _ := (World.cell?_of_block (Below.heap_alloc wr o gp hlt)).trans e
    rw [World.cell?_of_block (hg.block gp (by simp; exact Nat.lt_succ_of_lt hlt) (fun e => (hgp _ e.symm).1 rfl))]
    exact e2
  · by_cases hj : j < gss.length
    · rw [List.getElem?_append_left (by omega)] at e1 e2
      exact ((hvv j u q e1 e2).alloc o).grown hg (OwnV.apart (hvv j u q e1 e2) hvs (by decide))
    · have hj2 : j = gss.length := by
        have := (List.getElem?_eq_some_iff.1 e2).1
        simp at this
        omega
      subst hj2
      rw [List.getElem?_append_right (Nat.le_refl _), Nat.sub_self] at e2
      rw [← hvl, List.getElem?_append_right (Nat.le_refl _), Nat.sub_self] at e1
      injection e1 with e1
      injection e2 with e2
      subst e1 e2
      exact ((hv.mono hB).alloc o).grown hg (OwnV.apart hv hvs (by decide))
  · by_cases hj : j < gss.length
    · rw [List.getElem?_append_left hj] at e
      exact h.ok j q e
    · have hj2 : j = gss.length := by
        have := (List.getElem?_eq_some_iff.1 e).1
        simp at this
        omega
      subst hj2
      rw [List.getElem?_append_right (Nat.le_refl _), Nat.sub_self] at e
      injection e with e
      subst e
      exact hx
theorem someA_drop (last : Bool) (qs : List ByteArray) (i : Nat) (h : i < qs.length) (acc : List Nat) : someA last acc (qs.drop i) =
    if last && decide (i + 1 = qs.length) && (f4 qs[i]).isSome then some (acc ++ two ((f4 qs[i]).getD [])) else if grpB qs[i] then someA last (acc ++ [grpN qs[i]]) (qs.drop (i + 1)) else none := by
  rw [List.drop_eq_getElem_cons h, someA]
  have e : decide (qs.drop (i + 1) = []) = decide (i + 1 = qs.length) := by
    rw [decide_eq_decide, List.drop_eq_nil_iff]
    omega
  rw [e]
theorem parseA_bad {l : List UInt8} {P : Nat} {ps : List ByteArray} (hp : PartsOf l P ps) (hf : f4 (mkB l) = none) {j : Nat} {x : ByteArray} (hx : ps[j]? = some x) (hn : someG x (decide (j + 1 = P)) = none) : rparseV l = .tuple #[.agg (adC false z16), .bool false] := by
  have hA : parseA l = none := by
    rw [parseA, hf]
    rcases hp with ⟨rfl, rfl, hc⟩ | ⟨rfl, rfl, hc⟩
    · have : j = 0 := by
        have := (List.getElem?_eq_some_iff.1 hx).1
        simpa using this
      subst this
      simp at hx
      subst hx
      rw [hc]
      simp only [Bool.not_false]
      rw [show someG (mkB l) true = none from hn]
    · match j, hx with
      | 0, hx =>
        simp at hx
        subst hx
        rw [hc]
        simp only [Bool.not_true]
        rw [show someG (mkB (cutL l).1) false = none from hn]
      | 1, hx =>
        simp at hx
        subst hx
        rw [show someG (mkB (cutL l).2.1) true = none from hn]
        cases someG (mkB (cutL l).1) (!(cutL l).2.2) <;> rfl
      | j + 2, hx => simp at hx
  rw [rparseV, hA]
theorem info_bs : (Tryd.prog.info? 33).map (fun i => (i.zero, i.size, i.bytes)) = some (some (.slice none 0 0), 1, 24) := by kernel_rfl
/-- Bytes at the head of sixteen. -/
def fillB (b : List UInt8) (k : Nat) : List UInt8 := b.take k ++ List.replicate (16 - k) 0
theorem fillB_step (b : List UInt8) (k : Nat) (hk : k < b.length) (hb : b.length ≤ 16) : (fillB b k).set k b[k] = fillB b (k + 1) := by
  obtain ⟨m, hm⟩ : ∃ m, 16 - k = m + 1 := ⟨16 - k - 1, by omega⟩
  rw [fillB, fillB, List.set_append_right _ _ (by rw [List.length_take]; omega), hm, List.length_take, Nat.min_eq_left (by omega), Nat.sub_self, List.replicate_succ, List.set_cons_zero, List.take_add_one, List.getElem?_eq_getElem hk, show 16 - (k + 1) = m by omega]
  simp only [Option.toList_some, List.append_assoc, List.singleton_append]
theorem fillB_len (b : List UInt8) (k : Nat) (hk : k ≤ b.length) (hb : b.length ≤ 16) : (fillB b k).length = 16 := by
  rw [fillB, List.length_append, List.length_take, List.length_replicate]
  omega


theorem take_snocG (gs : List UInt8) (i : Nat) (h : i < gs.length) : gs.take (i + 1) = gs.take i ++ [gs[i]] := by
  rw [List.take_add_one, List.getElem?_eq_getElem h]
  rfl
theorem put_step (FB o : List UInt8) (c k : Nat) (hk : k < o.length) (hc : c + o.length = FB.length) :
    (FB.take c ++ o.take k ++ FB.drop (c + k)).set (c + k) o[k] = FB.take c ++ o.take (k + 1) ++ FB.drop (c + (k + 1)) := by
  have e1 : (FB.take c ++ o.take k).length = c + k := by rw [List.length_append, List.length_take, List.length_take]; omega
  rw [List.set_append_right _ _ (by omega), e1, Nat.sub_self, List.drop_eq_getElem_cons (by omega : c + k < FB.length), List.set_cons_zero, take_snocG o k hk, Nat.add_assoc c k 1]
  simp only [List.append_assoc, List.singleton_append]
theorem parts_one {l : List UInt8} {ps : List ByteArray} {g0 : List Nat} (hp : PartsOf l 1 ps) (hf : f4 (mkB l) = none) (h0 : ∃ x, ps[0]? = some x ∧ someG x (decide (0 + 1 = 1)) = some g0) :
    parseA l = if g0.length ≠ 8 then none else some (true, flat g0) := by
  obtain ⟨x, hx, hs⟩ := h0
  rcases hp with ⟨_, rfl, hc⟩ | ⟨h, _, _⟩
  · simp at hx
    subst hx
    have hs' : someG (mkB l) true = some g0 := hs
    rw [parseA, hf, hc]
    simp only [Bool.not_false, hs', show someG (mkB []) true = some [] from rfl]
    by_cases h8 : g0.length = 8
    · simp [h8]
    · simp [h8]
  · cases h
theorem parts_two {l : List UInt8} {ps : List ByteArray} {g0 g1 : List Nat} (hp : PartsOf l 2 ps) (hf : f4 (mkB l) = none) (h0 : ∃ x, ps[0]? = some x ∧ someG x (decide (0 + 1 = 2)) = some g0) (h1 : ∃ x, ps[1]? = some x ∧ someG x (decide (1 + 1 = 2)) = some g1) :
    parseA l = if 8 ≤ g0.length + g1.length then none else some (true, flat (g0 ++ List.replicate (8 - (g0.length + g1.length)) 0 ++ g1)) := by
  obtain ⟨x, hx, hs⟩ := h0
  obtain ⟨y, hy, ht⟩ := h1
  rcases hp with ⟨h, _, _⟩ | ⟨_, rfl, hc⟩
  · cases h
  · simp at hx hy
    subst hx hy
    have hs' : someG (mkB (cutL l).1) false = some g0 := hs
    have ht' : someG (mkB (cutL l).2.1) true = some g1 := ht
    rw [parseA, hf, hc]
    simp only [Bool.not_true, hs', ht']
    by_cases h8 : 8 ≤ g0.length + g1.length
    · simp [h8]
    · simp [h8]
theorem parts_long1 {l : List UInt8} {ps : List ByteArray} {g0 : List Nat} (hp : PartsOf l 1 ps) (hf : f4 (mkB l) = none) (h0 : ∃ x, ps[0]? = some x ∧ someG x (decide (0 + 1 = 1)) = some g0) (h : g0.length ≠ 8) : parseA l = none := by
  rw [parts_one hp hf h0, if_pos h]
theorem parts_long2 {l : List UInt8} {ps : List ByteArray} {g0 g1 : List Nat} (hp : PartsOf l 2 ps) (hf : f4 (mkB l) = none) (h0 : ∃ x, ps[0]? = some x ∧ someG x (decide (0 + 1 = 2)) = some g0) (h1 : ∃ x, ps[1]? = some x ∧ someG x (decide (1 + 1 = 2)) = some g1) (h : 8 ≤ g0.length + g1.length) : parseA l = none := by
  rw [parts_two hp hf h0 h1, if_pos h]
theorem parts_good1 {l : List UInt8} {ps : List ByteArray} {g0 : List Nat} (hp : PartsOf l 1 ps) (hf : f4 (mkB l) = none) (h0 : ∃ x, ps[0]? = some x ∧ someG x (decide (0 + 1 = 1)) = some g0) (h : g0.length = 8) :
    parseA l = some (true, (fillB (flat g0) (2 * g0.length)).take (16 - 2 * g0.length) ++ flat g0) := by
  rw [parts_one hp hf h0, if_neg (fun e => e h), h]
  rfl
theorem parts_good2 {l : List UInt8} {ps : List ByteArray} {g0 g1 : List Nat} (hp : PartsOf l 2 ps) (hf : f4 (mkB l) = none) (h0 : ∃ x, ps[0]? = some x ∧ someG x (decide (0 + 1 = 2)) = some g0) (h1 : ∃ x, ps[1]? = some x ∧ someG x (decide (1 + 1 = 2)) = some g1) (h : g0.length + g1.length < 8) :
    parseA l = some (true, (fillB (flat g0) (2 * g0.length)).take (16 - 2 * g1.length) ++ flat g1) := by
  rw [parts_two hp hf h0 h1, if_neg (by omega)]
  have e0 : (flat g0).length = 2 * g0.length := flat_len g0
  have e1 : (flat g1).length = 2 * g1.length := flat_len g1
  have hf := fill_two (flat g0) (flat g1) (by omega)
  rw [e0, e1] at hf
  have e2 : (flat g0).take (2 * g0.length) = flat g0 := List.take_of_length_le (by omega)
  rw [fillB, e2, hf, flat_append, flat_append, flat_zeros]
  congr 6
  omega
end Go.Proofs.YtgdnckglfhabnaaDoor
