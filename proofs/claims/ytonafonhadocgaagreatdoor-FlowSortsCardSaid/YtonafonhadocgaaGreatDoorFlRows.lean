/- Rows of flows: a row of the call's own; slices.Clone, slices.SortFunc at flows. -/
import Derived.Test.YtonafonhadocgaaGreatDoorQV
import Derived.Test.YtonafonhadocgaaGreatDoorFlSort
import Derived.Test.YtonafonhadocgaaGreatDoorQM
import Derived.Test.YtonafonhadocgaaGreatDoorShelfS
import Derived.Lib.SliceRun
namespace Go.Proofs.YtonafonhadocgaaGreatDoor
open Go.RowKit Go.Shelf

theorem flC_len {f : Fl} (h : FlOk f) : (flC f.1 f.2).toList.length = 36 := by rw [Array.length_toList, flC_size _ _ h.la h.lb]
/-- The cells of a row of flows. -/
def rowC (fs : List Fl) : List Value := fs.flatMap fun f => (flC f.1 f.2).toList
theorem rowC_len : ∀ fs : List Fl, (∀ f ∈ fs, FlOk f) → (rowC fs).length = fs.length * 36
  | [], _ => rfl
  | f :: fs, h => by
    have ih := rowC_len fs fun g hg => h g (List.mem_cons_of_mem _ hg)
    show ((flC f.1 f.2).toList ++ rowC fs).length = _
    rw [List.length_append, flC_len (h f List.mem_cons_self), ih, List.length_cons]
    omega
theorem rowC_at : ∀ (fs : List Fl), (∀ f ∈ fs, FlOk f) → ∀ (j : Nat) (f : Fl), fs[j]? = some f → ∀ i, i < 36 → (rowC fs)[j * 36 + i]? = (flC f.1 f.2).toList[i]?
  | [], _, j, f, h, _, _ => by cases h
  | g :: fs, h, 0, f, hf, i, hi => by
    injection hf with hf
    subst hf
    show ((flC g.1 g.2).toList ++ rowC fs)[0 * 36 + i]? = _
    rw [List.getElem?_append_left (by rw [flC_len (h g List.mem_cons_self)]; omega)]
    congr 1
    omega
  | g :: fs, h, j + 1, f, hf, i, hi => by
    have ih := rowC_at fs (fun x hx => h x (List.mem_cons_of_mem _ hx)) j f hf i hi
    show ((flC g.1 g.2).toList ++ rowC fs)[(j + 1) * 36 + i]? = _
    have hl := flC_len (h g List.mem_cons_self)
    rw [List.getElem?_append_right (by rw [hl]; omega), hl, ← ih]
    congr 1
    omega
theorem rowC_get (fs : List Fl) (hok : ∀ f ∈ fs, FlOk f) (t : Nat) (u : Value) (h : (rowC fs)[t]? = some u) : ∃ f, fs[t / 36]? = some f ∧ (flC f.1 f.2).toList[t % 36]? = some u := by
  have ht := (List.getElem?_eq_some_iff.1 h).1
  rw [rowC_len fs hok] at ht
  have hq : t / 36 < fs.length := by omega
  refine ⟨fs[t / 36], List.getElem?_eq_getElem hq, ?_⟩
  rw [← rowC_at fs hok (t / 36) _ (List.getElem?_eq_getElem hq) (t % 36) (by omega), ← h]
  congr 1
  omega
theorem rowC_one (fs : List Fl) : ∀ u ∈ rowC fs, u.oneCell' = true := by
  intro u hu
  obtain ⟨f, _, hf⟩ := List.mem_flatMap.1 hu
  exact List.all_eq_true.1 (flC_one f.1 f.2) u hf

/-- A slice value '.slice A n c' reads as the flows fs. -/
structure RdF (w : World) (A : Option Addr) (n c : Nat) (fs : List Fl) : Prop where
  len : fs.length = n
  cap : n ≤ c
  nil_ : A = none → n = 0 ∧ c = 0
  at_ : 0 < n → ∃ b off, A = some ⟨b, off, none⟩ ∧ b < w.heap.size ∧ ∀ j f, fs[j]? = some f → w.rangeAt b (off + j * 36) (flC f.1 f.2).toList
theorem RdF.below {w w' : World} {A : Option Addr} {n c : Nat} {fs : List Fl} (h : RdF w A n c fs) (hb : Below w.heap.size w w') : RdF w' A n c fs :=
  ⟨h.len, h.cap, h.nil_, fun hn => by
    obtain ⟨b, off, hA, hlt, hr⟩ := h.at_ hn
    exact ⟨b, off, hA, Nat.lt_of_lt_of_le hlt hb.size, fun j k hj i v hv => cell_later hb (hr j k hj i v hv)⟩⟩
theorem RdF.of {w : World} {b off n c j : Nat} {fs : List Fl} {f : Fl} (h : RdF w (some ⟨b, off, none⟩) n c fs) (hf : fs[j]? = some f) : w.rangeAt b (off + j * 36) (flC f.1 f.2).toList := by
  have hj := (List.getElem?_eq_some_iff.1 hf).1
  obtain ⟨b', off', hA, _, hr⟩ := h.at_ (by rw [← h.len]; omega)
  injection hA with hA
  injection hA with e1 e2
  subst e1 e2
  exact hr j f hf
/-- A row of the call's own: block g, of so many flows; the first ones are fs. -/
structure RowF (W : World) (base g cap : Nat) (fs : List Fl) : Prop where
  blk : ∃ cur, W.heap[g]? = some (.cells cur 30 (0, 0)) ∧ cur.size = cap * 36
  lo : base ≤ g
  len : fs.length ≤ cap
  capm : cap ≤ 9223372036854775807
  at_ : ∀ (j : Nat) (f : Fl), fs[j]? = some f → W.rangeAt g (j * 36) (flC f.1 f.2).toList
  ok : ∀ f ∈ fs, FlOk f
section
variable {W W' : World} {base g cap : Nat} {fs : List Fl}
theorem RowF.lt (h : RowF W base g cap fs) : g < W.heap.size := by
  obtain ⟨cur, hc, _⟩ := h.blk
  exact (Array.getElem?_eq_some_iff.1 hc).1
theorem RowF.rd (h : RowF W base g cap fs) : RdF W (some ⟨g, 0, none⟩) fs.length cap fs :=
  ⟨rfl, h.len, fun e => (by cases e), fun _ => ⟨g, 0, rfl, h.lt, fun j f hf => by rw [Nat.zero_add]; exact h.at_ j f hf⟩⟩
theorem RowF.sub (h : RowF W base g cap fs) {gs : List Fl} (n : Nat) (hg : gs = fs.take n) : RowF W base g cap gs := by
  subst hg
  refine ⟨h.blk, h.lo, by have := h.len; rw [List.length_take]; omega, h.capm, fun j f hf => ?_, fun f hf => h.ok f (List.mem_of_mem_take hf)⟩
  rw [List.getElem?_take] at hf
  split at hf
  · exact h.at_ j f hf
  · cases hf
theorem RowF.same (h : RowF W base g cap fs) (e : W'.heap[g]? = W.heap[g]?) : RowF W' base g cap fs := by
  obtain ⟨cur, hc, hs⟩ := h.blk
  refine ⟨⟨cur, by rw [e]; exact hc, hs⟩, h.lo, h.len, h.capm, fun j f hf i v hv => ?_, h.ok⟩
  have := h.at_ j f hf i v hv
  unfold World.cell? at this ⊢
  rw [e]
  exact this
theorem RowF.frozen (h : RowF W base g cap fs) (k : Nat) : W.frozen? ⟨g, k, none⟩ = false := by
  obtain ⟨cur, hc, _⟩ := h.blk
  exact Blk.frozen (t := 30) (cs := cur) hc k
theorem RowF.of_own (hok : ∀ f ∈ fs, FlOk f) {v : Value} (ho : W.ownsRow base 30 36 v fs.length (rowC fs)) (hv : v ≠ .slice none 0 0) : ∃ g cap, v = .slice (some ⟨g, 0, none⟩) fs.length cap ∧ RowF W base g cap fs := by
  rcases ho.2 with ⟨e, _⟩ | ⟨g, cap, cur, e, hb, hg, hn, hm, hc, ht⟩
  · exact absurd e hv
  · refine ⟨g, cap, e, ⟨cur, hg, hc⟩, hb, hn, by simpa [maxLen] using hm, fun j f hf i u hu => ?_, hok⟩
    have hi : i < 36 := by
      have := (List.getElem?_eq_some_iff.1 hu).1
      rw [flC_len (hok f (List.mem_of_getElem? hf))] at this
      exact this
    have hj := (List.getElem?_eq_some_iff.1 hf).1
    have h1 := rowC_at fs hok j f hf i hi
    rw [← ht, List.getElem?_take, if_pos (by omega), hu] at h1
    rw [Blk.cell (t := 30) (cs := cur) hg]
    simpa using h1
end

theorem info_fl : (Tryz.prog.info? 30).map (fun i => (i.zero.isSome, i.size, i.bytes)) = some (true, 36, 40) := by kernel_rfl
theorem zero_fl : (Tryz.prog.info? 30).map (fun i => i.zero.map (·.cells.size)) = some (some 36) := by kernel_rfl

set_option maxRecDepth 100000 in
set_option maxHeartbeats 4000000 in
theorem clone_any (ad : Addr) (n c : Nat) (fs : List Fl) (w : World) (hr : RdF w (some ad) n c fs) (hok : ∀ f ∈ fs, FlOk f) (hn : n ≤ 1000) :
    Calls Tryz.prog 29 #[.slice (some ad) n c] w fun e w' => ∃ g cap, e = .returned (.slice (some ⟨g, 0, none⟩) n cap) ∧ RowF w' w.heap.size g cap fs ∧ Below w.heap.size w w' := by
  have hq : ∀ (w : World) (a : Option Addr) (n c n' c' : Nat), (binOp .eql 50 (.slice a n c) (.slice none n' c')).run Tryz.prog w = .ok (.bool a.isNone) w := fun w a n c n' c' => Lib.run_eql_slice_nil w _ _ a n c n' c' Tryz.underlying50
  obtain ⟨i0, hi0, hz0, hz1, hz2⟩ : ∃ i0, Tryz.prog.info? 30 = some i0 ∧ i0.zero.isSome = true ∧ i0.size = 36 ∧ i0.bytes = 40 := by
    obtain ⟨i0, h1, h2⟩ := Option.map_eq_some_iff.1 info_fl
    injection h2 with h3 h4
    injection h4 with h4 h5
    exact ⟨i0, h1, h3, h4, h5⟩
  obtain ⟨z, hz⟩ := Option.isSome_iff_exists.1 hz0
  have hzs : z.cells.size = 36 := by
    have h := zero_fl
    rw [hi0] at h
    injection h with h
    dsimp only at h
    rw [hz] at h
    injection h
  have hl := hr.len
  subst hl
  have HN := Lib.hid (show ∀ j u, (rowC fs)[j]? = some u → w.cell? (ad.add j) = some u from fun j u hj => by
    obtain ⟨f, hf, hu⟩ := rowC_get fs hok j u hj
    have hlt := (List.getElem?_eq_some_iff.1 hf).1
    obtain ⟨b, off, e, _, hrow⟩ := hr.at_ (by omega)
    injection e with e
    subst e
    have := hrow (j / 36) f hf (j % 36) u hu
    rw [Addr.add_lit, ← this]
    congr 2
    omega)
  have HOK := Lib.hid hok
  clear hok hr hz0
  go_enter Tryz.func29, Tryz.ntmps29
  go_wp2_with (at_builtin; refine wpList_append_own _ rfl _ _ 50 rfl w.heap.size 30 i0 z 36 40 Tryz.underlying50 hi0 hz hz1 hz2 hzs (by omega) _ 0 [] rfl (World.ownsRow_made w #[] 0 (Nat.le_refl _) (Nat.zero_le _) (by simp)) ad fs.length c (rowC fs) rfl (rowC_len fs HOK.out) ?qc2 (rowC_one fs) (by unfold maxLen; omega) (by omega) (by simp) ?_)
  case qc2 =>
    intro j u hj
    exact cell_later ((Below.refl _ w).alloc (Nat.le_refl _) _) (HN.out j u hj)
  intro v' w' ho hg hnil
  try rw [Nat.zero_add] at ho
  try rw [List.nil_append] at ho
  obtain ⟨g, cap, hv, hrow⟩ := RowF.of_own HOK.out ho hnil
  subst hv
  have HB := Lib.hid (((Below.refl _ w).alloc (Nat.le_refl _) (.cells #[] 30)).grown hg (by simp) (fun k e => by have := Option.some.inj (show some w.heap.size = some k from e); omega))
  have HR := Lib.hid hrow
  clear ho hg hnil hrow HN
  go_wp2_with fail
  go_ret
  exact ⟨g, cap, rfl, HR.out, HB.out⟩

/-! ### the sort -/
abbrev FlS := {f : Fl // FlOk f}
instance : Inhabited FlS := ⟨⟨(zE, zE), ⟨rfl, rfl, by decide, by decide⟩⟩⟩
def encS (x : FlS) : List Value := (flC x.1.1 x.1.2).toList
def cmpS (x y : FlS) : Int := cmpF x.1 y.1
theorem swoS : Go.Sort.SWO (ltOf cmpS) where
  irrefl x := by
    unfold ltOf cmpS
    rw [cmpF_self]
    rfl
  trans x y z h1 h2 := by
    unfold ltOf cmpS at *
    exact decide_eq_true (cmpF_trans (of_decide_eq_true h1) (of_decide_eq_true h2))
  ntrans x y z h1 h2 := by
    unfold ltOf cmpS at *
    have a1 : ¬ cmpF x.1 y.1 < 0 := of_decide_eq_false h1
    have a2 : ¬ cmpF y.1 z.1 < 0 := of_decide_eq_false h2
    refine decide_eq_false fun h3 => ?_
    have s1 := cmpF_swap x.1 y.1
    have s2 := cmpF_swap y.1 z.1
    by_cases e1 : cmpF x.1 y.1 = 0
    · rw [cmpF_zero e1] at h3
      exact a2 h3
    · have hyx : cmpF y.1 x.1 < 0 := by omega
      have := cmpF_trans hyx h3
      exact a2 this
def toS (fs : List Fl) (h : ∀ f ∈ fs, FlOk f) : Array FlS := (fs.pmap Subtype.mk h).toArray
theorem toS_size (fs : List Fl) (h : ∀ f ∈ fs, FlOk f) : (toS fs h).size = fs.length := by simp [toS]
theorem toS_map (fs : List Fl) (h : ∀ f ∈ fs, FlOk f) : (toS fs h).toList.map (·.1) = fs := by
  unfold toS
  rw [List.toList_toArray, List.map_pmap]
  exact List.pmap_eq_self.2 (fun a _ => rfl)
theorem heap_mapBlock {w : World} {g : Nat} {f : Array Value → Array Value} {c : Array Value} {e : TypeId} {fr : Nat × Nat} (h : w.heap[g]? = some (.cells c e fr)) : (Go.Sort.mapBlock w g f).heap[g]? = some (.cells (f c) e fr) := by
  unfold Go.Sort.mapBlock
  simp only [Array.getElem?_modify, if_true, h]
  rfl
theorem heap_mapOther {w : World} {g k : Nat} {f : Array Value → Array Value} (hk : k ≠ g) : (Go.Sort.mapBlock w g f).heap[k]? = w.heap[k]? := by
  unfold Go.Sort.mapBlock
  simp only [Array.getElem?_modify]
  rw [if_neg (fun e => hk e.symm)]
theorem cmpS_lays (blk off size : Nat) (w : World) : CmpLays Tryz.prog 28 #[] encS 36 cmpS blk off size w :=
  fun _ _ _ _ x y => cmp_any x.1 y.1 x.2.la x.2.lb y.2.la y.2.lb x.2.pa x.2.pb y.2.pa y.2.pb _

set_option maxRecDepth 100000 in
set_option maxHeartbeats 4000000 in
theorem sortfn_any (w : World) (base g cap : Nat) (fs : List Fl) (h : RowF w base g cap fs) (hn : fs.length ≤ 1000) :
    Calls Tryz.prog 30 #[.slice (some ⟨g, 0, none⟩) fs.length cap, .func (.func 28) #[] #[]] w fun e w' =>
      e = .returned (.tuple #[]) ∧ ∃ fs', RowF w' base g cap fs' ∧ fs'.Perm fs ∧ fs'.Pairwise (fun f g => ¬ cmpF g f < 0) ∧ Below base w w' := by
  by_cases h0 : fs = []
  · subst h0
    have := AnyF.slices_SortFunc_none (P := Tryz.prog) laysG6 (some ⟨g, 0, none⟩) cap (.func (.func 28) #[] #[]) w
    refine this.mono fun e w' ⟨h1, h2⟩ => ⟨h1, [], ?_, List.Perm.refl _, List.Pairwise.nil, ?_⟩
    · rw [h2]; exact h
    · rw [h2]; exact Below.refl _ _
  · have hpos : 0 < fs.length := List.length_pos_iff.2 h0
    have hsz := toS_size fs h.ok
    have hlen : ∀ x : FlS, (encS x).length = 36 := fun x => flC_len x.2
    have hH : Go.Sort.HoldsK encS 36 w g 0 (toS fs h.ok) := by
      intro t ht
      rw [Go.Sort.size_flatK, hsz] at ht
      rw [Go.Sort.get_flatK _ _ _ _ (by rw [hsz]; exact ht), Nat.zero_add]
      have hq : t / 36 < fs.length := by omega
      have he : (toS fs h.ok)[t / 36]! = ⟨fs[t / 36], h.ok _ (List.getElem_mem hq)⟩ := by
        rw [getElem!_pos (toS fs h.ok) (t / 36) (by rw [hsz]; exact hq)]
        simp [toS]
      have hr := h.at_ (t / 36) _ (List.getElem?_eq_getElem hq)
      have hl : t % 36 < (encS ⟨fs[t / 36], h.ok _ (List.getElem_mem hq)⟩).length := by rw [hlen]; omega
      have hc := hr (t % 36) _ (List.getElem?_eq_getElem hl)
      refine ⟨?_, h.frozen t⟩
      rw [he, getElem!_pos (encS ⟨fs[t / 36], h.ok _ (List.getElem_mem hq)⟩) (t % 36) hl]
      rw [show t / 36 * 36 + t % 36 = t by omega] at hc
      exact hc
    have hcon := AnyQ.slices_SortFunc (P := Tryz.prog) laysG6 36 Tryz.isAgg30 Tryz.sizeOf30 encS hlen (fun x v hv => List.all_eq_true.1 (flC_one x.1.1 x.1.2) v hv) cmpS swoS 28 #[] g 0 cap (toS fs h.ok) w
      (enters_of Tryz.func28 (by kernel_rfl) rfl) (cmpS_lays g 0 _ w) hH h.lt (by rw [hsz]; omega)
    rw [hsz] at hcon
    refine hcon.mono ?_
    rintro e w' ⟨he, d', n, os, hp, hs, rfl⟩
    refine ⟨he, d'.toList.map (·.1), ?_, ?_, ?_, ?_⟩
    · have hK := holdsK_sortWorldK_c encS 36 w g 0 (toS fs h.ok) d' n os hH h.lt hp.1
      obtain ⟨cur, hc, hcs⟩ := h.blk
      refine ⟨?_, h.lo, by rw [List.length_map, Array.length_toList, hp.1, hsz]; exact h.len, h.capm, fun j f hf => ?_, fun f hf => ?_⟩
      · refine ⟨Go.Sort.putCells id 0 (Go.Sort.flatK encS 36 d') cur, ?_, ?_⟩
        · show ((Go.Sort.mapBlock (Go.Sort.ahead w n) g (Go.Sort.putCells id 0 (Go.Sort.flatK encS 36 d'))).heap ++ os)[g]? = _
          have hb := heap_mapBlock (w := Go.Sort.ahead w n) (f := Go.Sort.putCells id 0 (Go.Sort.flatK encS 36 d')) (show (Go.Sort.ahead w n).heap[g]? = some (.cells cur 30 (0, 0)) from hc)
          rw [Array.getElem?_append_left (Array.getElem?_eq_some_iff.1 hb).1]
          exact hb
        · simp [Go.Sort.putCells, hcs]
      · rw [List.getElem?_map] at hf
        obtain ⟨x, hx, rfl⟩ := Option.map_eq_some_iff.1 hf
        rw [Array.getElem?_toList] at hx
        have hj := (Array.getElem?_eq_some_iff.1 hx).1
        intro i v hv
        have hi : i < 36 := by
          have := (List.getElem?_eq_some_iff.1 hv).1
          rw [flC_len x.2] at this
          exact this
        have hc := (hK (j * 36 + i) (by rw [Go.Sort.size_flatK]; omega)).1
        rw [Go.Sort.get_flatK _ _ _ _ (by omega), Nat.zero_add, show (j * 36 + i) / 36 = j by omega, show (j * 36 + i) % 36 = i by omega] at hc
        rw [hc]
        have e1 : d'[j]! = x := by
          rw [getElem!_pos d' j hj]
          exact (Array.getElem?_eq_some_iff.1 hx).2
        rw [e1]
        have hl : i < (encS x).length := by rw [hlen]; exact hi
        have hv' : (encS x)[i]? = some v := hv
        rw [List.getElem?_eq_getElem hl] at hv'
        rw [getElem!_pos (encS x) i hl]
        exact hv'
      · obtain ⟨x, _, rfl⟩ := List.mem_map.1 hf
        exact x.2
    · have h3 := hp.2.2
      have e1 : d'.extract 0 fs.length = d' := by rw [← hsz, ← hp.1]; exact Array.extract_size
      have e2 := Array.extract_size (xs := toS fs h.ok)
      rw [hsz] at e2
      rw [e1, e2] at h3
      have := h3.map (·.1)
      rw [toS_map] at this
      exact this
    · rw [List.pairwise_map]
      refine List.pairwise_iff_getElem.2 fun i j hi hj hij => ?_
      rw [Array.length_toList] at hi hj
      have h5 := hs i j (Nat.zero_le _) hij (by rw [← hsz, ← hp.1]; exact hj)
      rw [getElem!_pos d' i hi, getElem!_pos d' j hj] at h5
      exact of_decide_eq_false h5
    · refine ⟨rfl, rfl, rfl, ?_, fun k hk => ?_⟩
      · show w.heap.size ≤ ((Go.Sort.mapBlock (Go.Sort.ahead w n) g _).heap ++ os).size
        rw [Array.size_append]
        simp [Go.Sort.mapBlock]
      · show ((Go.Sort.mapBlock (Go.Sort.ahead w n) g (Go.Sort.putCells id 0 (Go.Sort.flatK encS 36 d'))).heap ++ os)[k]? = _
        have hkw : k < w.heap.size := by have := h.lo; have := h.lt; omega
        rw [Array.getElem?_append_left (by simp [Go.Sort.mapBlock]; exact hkw), heap_mapOther (by have := h.lo; omega)]
        rfl
end Go.Proofs.YtonafonhadocgaaGreatDoor
