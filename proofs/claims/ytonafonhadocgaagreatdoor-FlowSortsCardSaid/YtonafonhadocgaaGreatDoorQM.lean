/- Laws and walks that the claim's last text leans on, joined: each part says above itself what it proves. -/
import Derived.Test.YtonafonhadocgaaGreatDoorQL
import Derived.Carry
import Derived.Test.YtonafonhadocgaaGreatDoorQK
import Derived.Great.Walk
import Derived.Test.YtonafonhadocgaaGreatDoorQJ

/- flow.Groups. -/
namespace Go.Proofs.YtonafonhadocgaaGreatDoor
open Go.RowKit Go.Shelf

structure FlOk (f : En × En) : Prop where
  la : f.1.2.1.length = 16
  lb : f.2.2.1.length = 16
  pa : f.1.2.2 < 65536
  pb : f.2.2.2 < 65536
theorem KyOk.fl {k : Ky} (h : KyOk k) : FlOk k.1 := ⟨h.la, h.lb, h.pa, h.pb⟩
abbrev fC (f : En × En) : Array Value := flC f.1 f.2
/-- The map tells each flow's group, and one. -/
structure FMap (D : DataW Unit) (fs : List (En × En)) : Prop where
  at_ : ∀ f, FlOk f → ∀ kl, keyOf Tryz.prog 30 (.agg (fC f)) = some kl → D.atKey kl (.lit (.int .i64 0)) = .lit (.int .i64 (gnum fs f : Int))
theorem FMap.start : FMap (.map []) [] := ⟨fun _ _ _ _ => rfl⟩
theorem FMap.old {D : DataW Unit} {fs : List (En × En)} {x : En × En} (h : FMap D fs) (hx : x ∈ dd fs) : FMap D (fs ++ [x]) :=
  ⟨fun f hf kl hk => by rw [h.at_ f hf kl hk, gnum_old hx]⟩
set_option maxRecDepth 100000 in
theorem FMap.new {D : DataW Unit} {fs : List (En × En)} {x : En × En} {kx : Lit} (h : FMap D fs) (hx : x ∉ dd fs) (hok : FlOk x) (hkx : keyOf Tryz.prog 30 (.agg (fC x)) = some kx) (hD : Go.Maps.IsMap D) :
    FMap (D.put kx (.lit (.int .i64 (((dd fs).length + 1 : Nat) : Int)))) (fs ++ [x]) := by
  refine ⟨fun f hf kl hk => ?_⟩
  rw [gnum_new hx]
  by_cases e : f = x
  · subst e
    rw [hk] at hkx
    injection hkx with hkx
    subst hkx
    rw [if_pos rfl, Go.Maps.atKey_put_same hD (flow_law.key hk)]
  · rw [if_neg e, Go.Maps.atKey_put_other (fun he => e ?_), h.at_ f hf kl hk]
    subst he
    have h1 := flow_law.inj hk hkx
    injection h1 with h1
    obtain ⟨e1, e2⟩ := flC_inj hf.la hf.lb hok.la hok.lb h1
    exact Prod.ext e1 e2

section
variable {F : Fence} {nF : Nat} {P : Program} {ops : Array Oper} {rest : List Oper} {o : Oper} {a : Act} {w : World} {Q : Exit → Act → World → Prop}
/-- A look-up whose answer is known. -/
theorem wpListIn_lookup_known (hg : o.guard = none) (m x : Operand) (t : TypeId) (hop : o.op = Op.lookup t m x false)
    (k e : TypeId) (q : IntKind) (K : Go.Maps.Keyed P k) (ht : P.underlying t = some (.map k e)) (he : P.underlying e = some (.int q)) (hz : (zeroValue e).run P w = .ok (.int q 0) w) (b n : Nat) (D : DataW Unit)
    (hm : a.eval m = .map (some b)) (hown : w.ownsMap P k (plainElem P e) b n D) (key : Value) (kl : Lit) (hx : a.eval x = key) (hkey : keyOf P k key = some kl) (c : Int) (hc : D.atKey kl (.lit (.int q 0)) = .lit (.int q c))
    (h : wpListIn F nF P ops Q rest (a.put o.dst (.int q c)) w) : wpListIn F nF P ops Q (o :: rest) a w :=
  wpListIn_lookup_own_int w hg m x t hop k e q K ht he hz b n D hm hown key kl hx hkey fun c' hc' _ => by
    rw [hc] at hc'
    injection hc' with hc'
    injection hc' with _ hc'
    rw [← hc']
    exact h
theorem at_lookIn {dst : Option Tmp} {t : TypeId} {ps : String} {af : Array Edge} {gd : Option (Nat × Bool)} (ty : TypeId) (m x : Operand) (h : wpListIn F nF P ops Q ({ dst := dst, op := .lookup ty m x false, type := t, pos := ps, after := af, guard := gd } :: rest) a w) :
    wpListIn F nF P ops Q ({ dst := dst, op := .lookup ty m x false, type := t, pos := ps, after := af, guard := gd } :: rest) a w := h
theorem at_updIn {dst : Option Tmp} {t : TypeId} {ps : String} {af : Array Edge} {gd : Option (Nat × Bool)} (ty : TypeId) (m x v : Operand) (h : wpListIn F nF P ops Q ({ dst := dst, op := .mapUpdate ty m x v, type := t, pos := ps, after := af, guard := gd } :: rest) a w) :
    wpListIn F nF P ops Q ({ dst := dst, op := .mapUpdate ty m x v, type := t, pos := ps, after := af, guard := gd } :: rest) a w := h
theorem at_appIn {dst : Option Tmp} {t : TypeId} {ps : String} {af : Array Edge} {gd : Option (Nat × Bool)} (av : Array Operand) (ts : Array TypeId) (h : wpListIn F nF P ops Q ({ dst := dst, op := .call { callee := .builtin .append, args := av, argTypes := ts }, type := t, pos := ps, after := af, guard := gd } :: rest) a w) :
    wpListIn F nF P ops Q ({ dst := dst, op := .call { callee := .builtin .append, args := av, argTypes := ts }, type := t, pos := ps, after := af, guard := gd } :: rest) a w := h
end

theorem if_wanted {c : Bool} (h : c = true) {X Y : Prop} (hx : X) : if c = true then X else Y := by
  rw [if_pos h]
  exact hx
theorem wp_append_at {P : Program} {o : Oper} {a : Act} {w w' : World} {K : Act → World → Prop} {Q : Exit → Act → World → Prop} {s x : Operand} {t : TypeId} {v y v' : Value}
    (ho : o.op = .call { callee := .builtin .append, args := #[s, x], argTypes := #[t, t] }) (hs : a.eval s = v) (hx : a.eval x = y)
    (hrun : (Builtin.append_ #[t, t] o.type #[v, y]).run P w = .ok v' w') (h : K (a.put o.dst v') w') : o.wp P a w K Q := by
  unfold Oper.wp
  simp [execOp, ho, resolve, invoke, builtin, hs, hx, hrun, Result.andThen]
  exact h

theorem set_last {α : Type} {l : List α} {j : Nat} (h : j = l.length) (a b : α) : (l ++ [a]).set j b = l ++ [b] := by
  subst h
  induction l with
  | nil => rfl
  | cons x l ih => simp [ih]
/-- Behind the append of an empty row. -/
structure NewHead (X : Nat → Prop) (w A' : World) (N cnt g : Nat) (kcs : Array Value) (v : Value) (vs : List Value) (gs : List (List Nat)) (D : DataW Unit) (bv m c1 : Nat) (w6 : World) : Prop where
  cN : w6.cell? ⟨N, 0, none⟩ = some v
  fz : w6.frozen? ⟨N, 0, none⟩ = false
  hm : m = vs.length + 1
  hbv : N + 6 ≤ bv
  st : GSt N (N + 1 + 1) (N + 1) (N + 6) cnt (.slice (some ⟨bv, 0, none⟩) m c1) (vs ++ [nilS]) (gs ++ [[]]) D (w6.setCell ⟨N, 0, none⟩ (.slice (some ⟨bv, 0, none⟩) m c1))
  kx : KeepsX X A' (w6.setCell ⟨N, 0, none⟩ (.slice (some ⟨bv, 0, none⟩) m c1))
  below : Below N w (w6.setCell ⟨N, 0, none⟩ (.slice (some ⟨bv, 0, none⟩) m c1))
  key : Blk (w6.setCell ⟨N, 0, none⟩ (.slice (some ⟨bv, 0, none⟩) m c1)) g 36 kcs
theorem new_head {X : Nat → Prop} {w A' w6 : World} {N cnt g : Nat} {kcs : Array Value} {v v1 : Value} {vs : List Value} {gs : List (List Nat)} {D : DataW Unit} {c : Array Value} {tc : TypeId}
    (h : GSt N (N + 1 + 1) (N + 1) (N + 6) cnt v vs gs D A') (hz : N + 6 ≤ A'.heap.size) (hb : Below N w A') (hX : ∀ r, X r → N + 1 < r ∧ r < N + 6) (hk : Blk A' g 36 kcs) (hg : N + 6 ≤ g)
    (ho6 : w6.ownsRow (N + 6) 57 1 v1 (vs.length + 1) (vs ++ [nilS])) (hg6 : (A'.alloc (.cells c tc)).grownBy w6 v.ownBlock) :
    ∃ bv m c1, v1 = .slice (some ⟨bv, 0, none⟩) m c1 ∧ NewHead X w A' N cnt g kcs v vs gs D bv m c1 w6 := by
  have ho : OwnV 57 w6 (N + 6) v1 (vs ++ [nilS]) := by
    unfold OwnV
    rw [List.length_append]
    exact ho6
  have low : ∀ k, k < N + 6 → some k ≠ v.ownBlock := fun k hk e => by have := (h.own.blk_lt e.symm).1; omega
  have hgk : some g ≠ v.ownBlock := fun e => by
    obtain ⟨cur, hc⟩ := h.own.blk e.symm
    unfold Blk at hk
    rw [hc] at hk
    injection hk with hk
    injection hk with _ hk _
    exact absurd hk (by decide)
  obtain ⟨A1, c1, rfl, hrd, hA1⟩ := ho.form
  obtain ⟨bv, rfl, hbv⟩ : ∃ bv, A1 = some ⟨bv, 0, none⟩ ∧ N + 6 ≤ bv := by
    rcases hA1 with rfl | ⟨g1, rfl, h1, _⟩
    · obtain ⟨b1, o1, e1, _⟩ := hrd.2.2.2 (by simp)
      cases e1
    · exact ⟨g1, rfl, h1⟩
  have hN6 : Blk w6 N 54 #[v] := (h.out.alloc _).grown hg6 (low N (by omega))
  have hl : (vs ++ [nilS]).length = vs.length + 1 := by simp
  have b6 : Below N w w6 := (hb.alloc (by omega) (.cells c tc)).grown hg6 (by simp; omega) (fun r e => by have := (h.own.blk_lt e).1; omega)
  refine ⟨bv, (vs ++ [nilS]).length, c1, rfl, ⟨?_, hN6.frozen 0, hl, hbv, ?_, ?_, ?_, ?_⟩⟩
  · have := hN6.cell 0
    simpa using this
  · exact (h.kept (World.grownBy_alloc A' (.cells c tc) none) (by simp) (by simp) (by simp) (fun r e => by cases e)).more (by omega) (by omega) (by omega) ho hg6 (hN6.set_ 0 _) (grownBy_setCell w6 N 0 _) (by omega) (by omega)
  · exact (((KeepsX.refl X A').alloc (fun r hr => by have := hX r hr; omega) (.cells c tc)).grown (fun r hr => by have := hX r hr; simp; omega) hg6 (fun r e hr => low r (hX r hr).2 e.symm)).set_ (p := ⟨N, 0, none⟩) (fun hr => by have := hX _ hr; simp at this; omega) _
  · exact b6.setCell (p := ⟨N, 0, none⟩) (Nat.le_refl _) _
  · exact ((hk.alloc _).grown hg6 hgk).far (p := ⟨N, 0, none⟩) (by show g ≠ N; omega) _

/-- What flow.Groups returns: a row of rows. -/
def GRes (base : Nat) (v : Value) (gs : List (List Nat)) (W : World) : Prop :=
  ∃ vs, OwnV 57 W base v vs ∧ vs.length = gs.length ∧ ∀ (j : Nat) (g : List Nat), gs[j]? = some g → ∃ u, vs[j]? = some u ∧ OwnV 3 W base u (ints g)

set_option maxRecDepth 100000 in
set_option maxHeartbeats 8000000 in
theorem groups_any (A : Option Addr) (n c : Nat) (ks : List Ky) (w : World) (hr : RdK w A n c ks) (hok : ∀ k ∈ ks, KyOk k) (hn : n ≤ 1000) :
    Calls Tryz.prog 20 #[.slice A n c] w fun e w' => ∃ v, e = .returned v ∧ GRes w.heap.size v (grpL (ks.map (·.1))) w' ∧ Below w.heap.size w w' := by
  have hmm := @run_makeMap Tryz.prog
  refine (callsIn_wide (n := 0)).1 (callsIn_of_wp_marks Tryz.func20 rfl trivial ?_ rfl)
  simp only [Tryz.ntmps20, List.size_toArray, List.length_cons, List.length_nil, Nat.reduceAdd, Nat.reduceSub, Array.replicate_succ, Array.replicate_zero, List.push_toArray, List.append_toArray, List.nil_append, List.cons_append]
  gi_wp2_with fail
  refine ⟨trivial, rfl, (callsIn_wide.2 (all_make A n c _)).mono ?_⟩
  rintro e w' ⟨rfl, rfl⟩
  gi_wp2_with fail
  have kO := ((((Blk.new w 54 #[nilS]).alloc (.map #[] 0)).alloc (.cells #[.map (some (w.heap.size + 1))] 76)).alloc (.cells #[.slice A n c] 56))
  have kM := ((World.ownsMap_made (H := Unit) (w.alloc (.cells #[nilS] 54)) Tryz.prog 30 (plainElem Tryz.prog 3)).alloc (.cells #[.map (some (w.heap.size + 1))] 76)).alloc (.cells #[.slice A n c] 56)
  have kF := (Blk.new ((w.alloc (.cells #[nilS] 54)).alloc (.map #[] 0)) 76 #[.map (some (w.heap.size + 1))]).alloc (.cells #[.slice A n c] 56)
  have kS := Blk.new (((w.alloc (.cells #[nilS] 54)).alloc (.map #[] 0)).alloc (.cells #[.map (some (w.heap.size + 1))] 76)) 56 #[.slice A n c]
  have b0 : Below w.heap.size w ((((w.alloc (.cells #[nilS] 54)).alloc (.map #[] 0)).alloc (.cells #[.map (some (w.heap.size + 1))] 76)).alloc (.cells #[.slice A n c] 56)) :=
    ((((Below.refl _ w).alloc (Nat.le_refl _) _).alloc (by simp) _).alloc (by simp; omega) _).alloc (by simp; omega) _
  have hz : ((((w.alloc (.cells #[nilS] 54)).alloc (.map #[] 0)).alloc (.cells #[.map (some (w.heap.size + 1))] 76)).alloc (.cells #[.slice A n c] 56)).heap.size = w.heap.size + 4 := by simp
  simp only [World.size_alloc] at kF kS kM
  have hrn : ∀ r off, 0 < n → A = some ⟨r, off, none⟩ → r < w.heap.size := fun r off h0 e => by
    obtain ⟨b, off', e', hb, _⟩ := hr.2.2 h0
    rw [e] at e'
    injection e' with e'
    injection e' with e1 _
    omega
  have hr4 : ∀ W, Below w.heap.size w W → RdK W A n c ks := fun W hb => ⟨hr.1, hr.2.1, fun h0 => by
    obtain ⟨b, off, e, hbl, hrow⟩ := hr.2.2 h0
    refine ⟨b, off, e, Nat.lt_of_lt_of_le hbl hb.size, fun j k hj i v hv => ?_⟩
    have h1 := hrow j k hj i v hv
    unfold World.cell? at h1 ⊢
    rw [hb.block b hbl]
    exact h1⟩
  have hlen := hr.1
  clear hr
  generalize (((w.alloc (.cells #[nilS] 54)).alloc (.map #[] 0)).alloc (.cells #[.map (some (w.heap.size + 1))] 76)).alloc (.cells #[.slice A n c] 56) = w4 at *
  have G0 : GSt w.heap.size (w.heap.size + 1 + 1) (w.heap.size + 1) (w.heap.size + 6) 0 nilS [] [] (.map []) w4 :=
    ⟨kO, kF, OwnV.nil _ _, rfl, (fun j g h => by cases h), (fun i j u u' _ h => by cases h), kM⟩
  clear kO kF kM
  obtain ⟨N, hN⟩ : ∃ N, N = w.heap.size := ⟨_, rfl⟩
  rw [← hN] at kS b0 hz hrn hr4 G0 ⊢
  have HN := Lib.hid hN
  have HZ := Lib.hid hz
  have HOK := Lib.hid hok
  clear hN hok hmm
  refine range_outerR (gf := 53) (lb := #[.pointer (some ⟨N + 1 + 1 + 1, 0, none⟩)]) rfl (enters_of Tryz.func53 (by kernel_rfl) rfl)
    (encs := fun x : Nat × Ky => #[.int .i64 (x.1 : Int), .agg (kyC x.2)]) (fun _ => rfl) (iks ks) (fun r => r = N + 1 + 1 + 1) (fun W' => RdK W' A n c ks) ?seq ?hX
    (fun pre A' => ∃ v vs D, GSt N (N + 1 + 1) (N + 1) (N + 6) pre.length v vs (grpL (pre.map (·.2.1))) D A' ∧ FMap D (pre.map (·.2.1)) ∧ Below N w A') ?hI ?h0 ?hRR
    (fun x a' A' => ∃ g, a' = { tmps := #[.slice A n c, undef, nilS, .pointer (some ⟨N, 0, none⟩), .pointer (some ⟨N + 1 + 1, 0, none⟩), .int .i64 (x.1 : Int), .pointer (some ⟨g, 0, none⟩), undef, .map (some (N + 1)), .slice A n c, .func (.func 53) #[] #[.pointer (some ⟨N + 1 + 1 + 1, 0, none⟩)], .int .i64 (x.1 : Int), .agg (kyC x.2), undef, undef, undef, undef, undef, undef, undef, undef, undef, undef, undef, undef, undef, undef, undef, undef, undef, undef, undef, undef, undef, undef, undef, undef, undef, undef, undef, undef], defers := [] } ∧ Blk A' g 36 (kyC x.2) ∧ N + 6 ≤ g ∧ KyOk x.2) ?hAx ?assign ?body ?done
  case seq =>
    intro W1 hb1 hz1
    exact all_seq (N + 1 + 1 + 1) A n c ks W1 (kS.keep hb1) hlen HOK.out (by omega)
  case hX =>
    intro r e; omega
  case hRR =>
    rintro s A' ⟨v, vs, D, h1, h2, h3⟩
    exact hr4 A' h3
  case hI =>
    rintro s A' B row ⟨v, vs, D, h1, h2, h3⟩ hg hrow
    have low : ∀ r, row = some r → r = N + 1 + 1 + 1 ∨ r = N + 4 ∨ r = N + 5 := fun r e => by have := hrow r e; omega
    exact ⟨v, vs, D, h1.kept hg (fun e => by have := low N e.symm; omega) (fun e => by have := low _ e.symm; omega) (fun e => by have := low _ e.symm; omega) (fun r e => by have := low r e; omega), h2, h3.grown hg (by have := h3.size; have := HN.out; omega) (fun r e => by have := low r e; omega)⟩
  case h0 => exact ⟨nilS, [], .map [], G0, FMap.start, b0⟩
  case hAx =>
    rintro x a' A' o hlt ⟨g, rfl, hk, hg, hkok⟩
    refine ⟨g, rfl, ?_, hg, hkok⟩
    unfold Blk at hk ⊢
    rw [World.putObj_heap_other (by omega)]
    exact hk
  case assign =>
    rintro pre x rest A' K hxs ⟨v, vs, D, h1, h2, h3⟩ hX hz2 hK
    have hko := HOK.out x.2 (List.mem_of_getElem? (iks_mid hxs).1)
    have HSZ := Lib.hid (show (Tryz.prog.info? 36).map (·.size) = some (kyC x.2).size by rw [kySize, kyC_size hko])
    have HEQ := Lib.hid (show (kyC zK).size = (kyC x.2).size by rw [kyC_size hko]; rfl)
    have H1 := Lib.hid h1
    have H3 := Lib.hid h3
    have HK := Lib.hid hK
    have HX := Lib.hid hX
    have HZ2 := Lib.hid hz2
    clear h1 h3 hK hX hz2 hz hxs
    have hsem := @Oper.semAt_some
    gi_wp2_with ((with_reducible refine at_storeIn 36 (.tmp 6) (.tmp 12) ?_); refine wpListIn_store_blk 36 (.tmp 6) (.tmp 12) A'.heap.size 36 (kyC zK) (kyC x.2) (Blk.new A' 36 (kyC zK)) (by rfl) (by rfl) (by rfl) (by rfl) HSZ.out HEQ.out (kyC_one x.2) (by rfl) ?_; intro w5 hk5 hg5 hz5; have K5 := Lib.hid hk5; have G5 := Lib.hid (grown_fresh hg5); clear hk5 hg5 hz5)
    have hz6 := HZ.out
    have hz7 := HZ2.out
    exact HK.out _ w5 ((KeepsX.refl _ A').grown (fun r hr => by rcases hr with h | h | h <;> first | (have := HX.out r h; exact this) | omega) G5.out (fun r e => by cases e))
      ⟨v, vs, D, H1.out.kept G5.out (by simp) (by simp) (by simp) (fun r e => by cases e), h2, H3.out.grown G5.out (by have := H3.out.size; have := HN.out; omega) (fun r e => by cases e)⟩ ⟨A'.heap.size, rfl, K5.out, by omega, hko⟩
  case body =>
    rintro pre x rest a' A' hxs ⟨v, vs, D, h1, h2, h3⟩ ⟨g, rfl, hk, hg, hko⟩ hXA hzA hrec
    have hsem := @Oper.semAt_some
    obtain ⟨kl, hkl⟩ := flow_key x.2.1.1 x.2.1.2 hko.la hko.lb hko.pa hko.pb
    have HKL := Lib.hid hkl
    have HAT := Lib.hid (h2.at_ x.2.1 hko.fl kl hkl)
    have HRG := Lib.hid (hk.range 0 (fC x.2.1).toList (keC_flow x.2.1.1 x.2.1.2 x.2.2))
    have HFI := Lib.hid (fl_info x.2.1.1 x.2.1.2 hko.la hko.lb)
    have q4 := h1.of_.cell 0
    simp at q4
    have H1 := Lib.hid h1
    have H2 := Lib.hid h2
    have H3 := Lib.hid h3
    have HXA := Lib.hid hXA
    have HZA := Lib.hid hzA
    have HK := Lib.hid hk
    have HIX := Lib.hid (iks_mid hxs)
    have HMS := Lib.hid (show (pre ++ [x]).map (·.2.1) = pre.map (·.2.1) ++ [x.2.1] by simp)
    have HLP := Lib.hid (show (pre.map (·.2.1)).length = pre.length by simp)
    clear h1 h2 h3 hXA hzA hrec hz hk hkl hxs
    generalize pre.map (·.2.1) = fs at *
    by_cases hG : gnum fs x.2.1 = 0
    · have HNM := Lib.hid (gnum_zero.1 hG)
      have HAT0 := Lib.hid (show D.atKey kl (.lit (.int .i64 0)) = .lit (.int .i64 0) by rw [HAT.out, hG]; rfl)
      have q0 := H1.out.out.cell 0
      simp at q0
      have HVD := Lib.hid (show vs.length = (dd fs).length by rw [H1.out.len, grpL_len])
      have hfl : fs.length < 1000 := by
        have h3 := (List.getElem?_eq_some_iff.1 HIX.out.1).1
        have h4 := HLP.out
        omega
      have HVL := Lib.hid (show vs.length < 1000 by have := dd_len fs; have := HVD.out; omega)
      have HPL := Lib.hid (show pre.length < maxLen by have := HLP.out; unfold maxLen; omega)
      obtain ⟨i1, hi1, hy0, hy1, hy2⟩ := info_parts info_ints
      have HOW := Lib.hid (show (A'.alloc (.cells #[nilS] 57)).ownsRow (N + 6) 57 1 v vs.length vs from OwnV.alloc H1.out.own _)
      have C0 := Lib.hid (show (A'.alloc (.cells #[nilS] 57)).cell? ⟨A'.heap.size, 0, none⟩ = some nilS by
        simp)
      have HNW := Lib.hid (show ∀ jj uu, [nilS][jj]? = some uu → (A'.alloc (.cells #[nilS] 57)).cell? ((⟨A'.heap.size, 0, none⟩ : Addr).add jj) = some uu from fun jj uu hh => by
        cases jj with
        | zero => injection hh with hh; rw [← hh]; exact C0.out
        | succ jj => cases hh)
      have HN1 := Lib.hid (show ∀ u ∈ [nilS], u.oneCell' = true from fun uu hh => by rw [List.mem_singleton.1 hh]; rfl)
      have HB1 := Lib.hid (show vs.length + 1 ≤ maxLen by have := HVL.out; unfold maxLen; omega)
      have HB2 := Lib.hid (show (vs.length + 1) * 24 ≤ 140737488355328 by have := HVL.out; omega)
      have HB4 := Lib.hid (show N + 6 ≤ A'.heap.size by have := HZA.out; have := HZ.out; omega)
      have HB3 := Lib.hid (show N + 6 ≤ (A'.alloc (.cells #[nilS] 57)).heap.size by have := HB4.out; simp; omega)
      have HXR := Lib.hid (show ∀ r, (fun r => r = N + 1 + 1 + 1 ∨ r = w4.heap.size ∨ r = w4.heap.size + 1) r → N + 1 < r ∧ r < N + 6 from fun r hr => by have := HZ.out; rcases hr with h | h | h <;> omega)
      gi_wp2_with (first
        | ((with_reducible refine at_loadIn 30 (.tmp 14) ?_); refine wpListIn_load_rng 30 (.tmp 14) g 0 (fC x.2.1).toList _ HRG.out (by rfl) (by rfl) Tryz.underlying30 rfl HFI.out (by rfl) ?_)
        | ((with_reducible refine at_lookIn 76 (.tmp 13) (.tmp 15) ?_); refine wpListIn_lookup_known rfl (.tmp 13) (.tmp 15) 76 rfl 30 3 .i64 flow_law Tryz.underlying76 Tryz.underlying3 (Tryz.zeroValue3 _) (N + 1) pre.length D rfl H1.out.map (.agg (fC x.2.1)) kl rfl HKL.out _ HAT0.out ?_)
        | ((with_reducible refine at_appIn #[.tmp 19, .tmp 20] #[54, 54] ?_); refine wpListIn_append_own_at _ rfl (.tmp 19) (.tmp 20) 54 (by rfl) (N + 6) 57 i1 _ 1 24 Tryz.underlying54 hi1 hy0 hy1 hy2 rfl (by decide) v vs.length vs (by rfl) HOW.out ⟨A'.heap.size, 0, none⟩ 1 1 [nilS] (by rfl) (by rfl) HNW.out HN1.out HB1.out HB2.out HB3.out ?_; intro v1 w6 ho6 hg6 hn6 hat6; obtain ⟨bv, m, cv, rfl, fg⟩ := new_head H1.out HB4.out H3.out HXR.out HK.out hg ho6 hg6; have q6 := fg.cN; have q66 := fg.fz; have FG := Lib.hid fg; clear fg ho6 hg6 hn6 hat6)
        | ((with_reducible refine at_loadIn 54 (.tmp 3) ?_); have S7 := Lib.hid FG.out.st; have K7 := Lib.hid FG.out.kx; have B7 := Lib.hid FG.out.below; have Y7 := Lib.hid (FG.out.key.range 0 (fC x.2.1).toList (keC_flow x.2.1.1 x.2.1.2 x.2.2)); have HM := Lib.hid FG.out.hm; have HBV := Lib.hid FG.out.hbv; clear FG q6 q66; have q0 := S7.out.out.cell 0; simp at q0; have q4 := S7.out.of_.cell 0; simp at q4; generalize w6.setCell ⟨N, 0, none⟩ (.slice (some ⟨bv, 0, none⟩) m cv) = w7 at *; have HWF := Lib.hid (Go.WalkArith.wf_i64 (n := (m : Int)) (by have := HM.out; have := HVL.out; omega)))
        | ((with_reducible refine at_loadIn 30 (.tmp 25) ?_); refine wpListIn_load_rng 30 (.tmp 25) g 0 (fC x.2.1).toList _ Y7.out (by rfl) (by rfl) Tryz.underlying30 rfl HFI.out (by rfl) ?_)
        | ((with_reducible refine at_updIn 76 (.tmp 24) (.tmp 26) (.tmp 27) ?_); refine wpListIn_mapUpdate_own _ rfl (.tmp 24) (.tmp 26) (.tmp 27) 76 rfl 30 3 flow_law Tryz.underlying76 (plainElem Tryz.prog 3) (N + 1) pre.length D rfl S7.out.map HPL.out (.agg (fC x.2.1)) (.int .i64 (m : Int)) kl rfl rfl HKL.out (.lit (.int .i64 (m : Int))) [] (plainElem_int Tryz.underlying3 HWF.out) ?_; intro w8 hm8 hg8; have HM8 := Lib.hid hm8; have HG8 := Lib.hid hg8; clear hm8 hg8))
      have K8 := Lib.hid (K7.out.grown (fun r hr => by have := HXR.out r hr; have := K7.out.1; have := HB4.out; omega) HG8.out (fun r e hr => by injection e with e; have := HXR.out r hr; omega))
      have B8 := Lib.hid (B7.out.grown HG8.out (by have := K7.out.1; have := HB4.out; omega) (fun r e => by injection e with e; omega))
      have S8 := Lib.hid (S7.out.put (by omega) (by omega) (by omega) HG8.out HM8.out)
      have HMD := Lib.hid (show m = (dd fs).length + 1 by rw [HM.out, HVD.out])
      obtain ⟨j, hj⟩ : ∃ j, j = vs.length := ⟨_, rfl⟩
      have HJ := Lib.hid (show j = (grpL fs).length by rw [hj, H1.out.len])
      have hw : IntKind.i64.wrap ((m : Int) - 1) = (j : Int) := by
        have h1 := HM.out
        have h2 := HVL.out
        rw [IntKind.wrap_i64]
        omega
      have hbv := HBV.out
      have hj0 : (0 : Int) ≤ (j : Int) ∧ (j : Int) < (m : Int) := by have := HM.out; omega
      clear hj
      have HGA := Lib.hid (show (grpL fs ++ [[]])[j]? = some [] by rw [HJ.out]; simp)
      obtain ⟨u, hu, hou⟩ := S8.out.rows j _ HGA.out
      have hjl := (List.getElem?_eq_some_iff.1 hu).1
      have hjn : j < m := by omega
      have qj : w8.cell? ⟨bv, j, none⟩ = some u := (S8.out.own.cellAt j hjn).trans hu
      have HS := S8
      obtain ⟨i0, hi0, hz0, hz1, hz2⟩ := info_parts info_int
      have qj' : (w8.alloc (.cells #[.int .i64 (x.1 : Int)] 3)).cell? ⟨bv, j, none⟩ = some u := cell_later ((Below.refl _ _).alloc (Nat.le_refl _) _) qj
      have HGL := Lib.hid (show ([] : List Nat).length ≤ 1000 by simp)
      clear HOW C0 HNW q0 q4 K7 B7 S7 HM8 HG8 hG HB1 HB2 HB3
      refine wpIn_region_held (S := fun W => Blk W N 54 #[.slice (some ⟨bv, 0, none⟩) m cv]) (by kernel_rfl) (by kernel_rfl) (fun ⟨_, _, h⟩ => by cases h.1) HS.out.out (fun hHeld => ?_)
      refine wpAnyH_take (i := 0) (oi := _) (v := ?_) rfl (by kernel_rfl) (by kernel_rfl) (by kernel_rfl) (fun _ _ _ h => h) (Or.inl ⟨by rfl, ?_⟩) (by assumption) ?_
      case refine_2 => (intro w hSw; have q0 := hSw.cell 0; simp at q0; go_simp <;> with_reducible rfl)
      try simp only [List.getElem_toArray, List.getElem_cons_zero, Act.put, List.setIfInBounds_toArray, List.set_cons_zero, List.set_cons_succ]
      refine wpAnyH_take (i := 1) (oi := _) (v := ?_) rfl (by kernel_rfl) (by kernel_rfl) (by kernel_rfl) (fun _ _ _ h => h) (Or.inl ⟨by rfl, ?_⟩) (by assumption) ?_
      case refine_2 => (intro w hSw; go_simp <;> with_reducible rfl)
      try simp only [List.getElem_toArray, List.getElem_cons_zero, List.getElem_cons_succ, Act.put, List.setIfInBounds_toArray, List.set_cons_zero, List.set_cons_succ]
      refine wpAnyH_take (i := 2) (oi := _) (v := ?_) rfl (by kernel_rfl) (by kernel_rfl) (by kernel_rfl) (fun _ _ _ h => h) (Or.inl ⟨by rfl, ?_⟩) (by assumption) ?_
      case refine_2 => (intro w hSw; go_simp <;> with_reducible rfl)
      try simp only [List.getElem_toArray, List.getElem_cons_zero, List.getElem_cons_succ, Act.put, List.setIfInBounds_toArray, List.set_cons_zero, List.set_cons_succ]
      refine wpAnyH_take (i := 3) (oi := _) (v := ?_) rfl (by kernel_rfl) (by kernel_rfl) (by kernel_rfl) (fun _ _ _ h => h) (Or.inl ⟨by rfl, ?_⟩) (by assumption) ?_
      case refine_2 => (intro w hSw; have q0 := hSw.cell 0; simp at q0; go_simp <;> with_reducible rfl)
      try simp only [List.getElem_toArray, List.getElem_cons_zero, List.getElem_cons_succ, Act.put, List.setIfInBounds_toArray, List.set_cons_zero, List.set_cons_succ]
      refine wpAnyH_take (i := 4) (oi := _) (v := ?_) rfl (by kernel_rfl) (by kernel_rfl) (by kernel_rfl) (fun _ _ _ h => h) (Or.inl ⟨by rfl, ?_⟩) (by assumption) ?_
      case refine_2 => (intro w hSw; go_simp <;> with_reducible rfl)
      try simp only [List.getElem_toArray, List.getElem_cons_zero, List.getElem_cons_succ, Act.put, List.setIfInBounds_toArray, List.set_cons_zero, List.set_cons_succ]
      refine wpAnyH_take (i := 5) (oi := _) (v := ?_) rfl (by kernel_rfl) (by kernel_rfl) (by kernel_rfl) (fun _ _ _ h => h) (Or.inl ⟨by rfl, ?_⟩) (by assumption) ?_
      case refine_2 => (intro w hSw; go_simp <;> with_reducible rfl)
      try simp only [List.getElem_toArray, List.getElem_cons_zero, List.getElem_cons_succ, Act.put, List.setIfInBounds_toArray, List.set_cons_zero, List.set_cons_succ]
      refine wpAnyH_take (i := 6) (oi := _) (v := ?_) rfl (by kernel_rfl) (by kernel_rfl) (by kernel_rfl) (fun _ _ _ h => h) (Or.inl ⟨by rfl, ?_⟩) (by assumption) ?_
      case refine_2 => (intro w hSw; go_simp <;> with_reducible rfl)
      try simp only [List.getElem_toArray, List.getElem_cons_zero, List.getElem_cons_succ, Act.put, List.setIfInBounds_toArray, List.set_cons_zero, List.set_cons_succ]
      refine wpAnyH_take (i := 8) (oi := _) (v := ?_) rfl (by kernel_rfl) (by kernel_rfl) (by kernel_rfl) (fun _ _ _ h => h) (Or.inl ⟨by rfl, ?_⟩) (by assumption) ?_
      case refine_2 => (intro w hSw; go_simp <;> with_reducible rfl)
      try simp only [List.getElem_toArray, List.getElem_cons_zero, List.getElem_cons_succ, Act.put, List.setIfInBounds_toArray, List.set_cons_zero, List.set_cons_succ]
      refine wpAnyH_ready (rs := [7, 9]) (by kernel_rfl) (by simp) ?_
      refine AllReadyH.cons (o := _) rfl (fun K hK => ?_) (AllReadyH.cons (o := _) rfl (fun K hK => ?_) AllReadyH.nil)
      · simp only [List.getElem_toArray, List.getElem_cons_zero, List.getElem_cons_succ]
        go_simp
        refine hK.out _ _ HS.out.out (fun hHeld2 => ?_)
        clear hK K hHeld
        have hHeld := hHeld2
        clear hHeld2
        try simp only [List.getElem_toArray, List.getElem_cons_zero, List.getElem_cons_succ, Act.put, List.setIfInBounds_toArray, List.set_cons_zero, List.set_cons_succ]
        refine wpAnyH_ready (rs := [9]) (by kernel_rfl) (by simp) ?_
        refine AllReadyH.cons (o := _) rfl (fun K hK => ?_) AllReadyH.nil
        simp only [List.getElem_toArray, List.getElem_cons_zero, List.getElem_cons_succ]
        go_simp
        refine hK.out _ _ (HS.out.out.alloc _) (fun hHeld2 => ?_)
        clear hK K hHeld
        have hHeld := hHeld2
        clear hHeld2
        try simp only [List.getElem_toArray, List.getElem_cons_zero, List.getElem_cons_succ, Act.put, List.setIfInBounds_toArray, List.set_cons_zero, List.set_cons_succ]
        have G5 := Lib.hid ((S8.out.kept (World.grownBy_alloc w8 (.cells #[.int .i64 (x.1 : Int)] 3) none) (by simp) (by simp) (by simp) (fun r e => by cases e)).drew)
        have OU5 := Lib.hid (show OwnV 3 ((w8.alloc (.cells #[.int .i64 (x.1 : Int)] 3)).drew) (N + 6) u (ints ([])) from OwnV.alloc hou _)
        have C5 := Lib.hid (show ((w8.alloc (.cells #[.int .i64 (x.1 : Int)] 3)).drew).cell? ⟨w8.heap.size, 0, none⟩ = some (.int .i64 (x.1 : Int)) by
          simp)
        have Z5 := Lib.hid (show ((w8.alloc (.cells #[.int .i64 (x.1 : Int)] 3)).drew).heap.size = w8.heap.size + 1 from World.size_alloc _ _)
        have KX5 := Lib.hid (show KeepsX (fun r => r = N + 1 + 1 + 1 ∨ r = w4.heap.size ∨ r = w4.heap.size + 1) A' ((w8.alloc (.cells #[.int .i64 (x.1 : Int)] 3)).drew) from K8.out.alloc (fun r hr => by have := K8.out.1; have := HZ.out; have := HZA.out; have := HXA.out r; rcases hr with h | h | h <;> omega) (.cells #[.int .i64 (x.1 : Int)] 3))
        have B5 := Lib.hid (below_drew (B8.out.alloc (by have := B8.out.size; have := HN.out; omega) (.cells #[.int .i64 (x.1 : Int)] 3)))
        generalize (w8.alloc (.cells #[.int .i64 (x.1 : Int)] 3)).drew = w5 at *
        obtain ⟨u', w6, hrun, hou6, hg6, _, hat6⟩ := run_append_own_at (P := Tryz.prog) w5 (N + 6) 57 57 3 i0 _ 1 8 Tryz.underlying57 hi0 hz0 hz1 hz2 rfl (by decide) u _ _ OU5.out ⟨w8.heap.size, 0, none⟩ 1 1 [.int .i64 (x.1 : Int)] (by rfl) (fun jj uu hh => by
          cases jj with
          | zero => injection hh with hh; rw [← hh]; exact C5.out
          | succ jj => cases hh) (fun uu hh => by rw [List.mem_singleton.1 hh]; rfl) (by unfold maxLen; rw [ints_len]; have := HGL.out; omega) (by rw [ints_len]; have := HGL.out; omega) (by have := Z5.out; have := HZA.out; have := HZ.out; have := K8.out.1; omega)
        refine wpAnyH_ready (rs := [10]) (by kernel_rfl) (by simp) ?_
        refine AllReadyH.cons (o := _) rfl (fun K hK => ?_) AllReadyH.nil
        simp only [List.getElem_toArray, List.getElem_cons_zero, List.getElem_cons_succ]
        refine if_wanted (by rfl) (wp_append_at (by rfl) (by rfl) (by rfl) hrun ?_)
        have HS6 := Lib.hid (show Blk w6 N 54 #[.slice (some ⟨bv, 0, none⟩) m cv] from G5.out.out.grown hg6 (fun e => by have := (OU5.out.blk_lt e.symm).1; omega))
        refine hK.out _ _ HS6.out (fun hHeld2 => ?_)
        clear hK K hHeld
        have hHeld := hHeld2
        clear hHeld2
        try simp only [Act.put, List.setIfInBounds_toArray, List.set_cons_zero, List.set_cons_succ]
        refine wpAnyH_ready (rs := [11]) (by kernel_rfl) (by simp) ?_
        refine AllReadyH.cons (o := _) rfl (fun K hK => ?_) AllReadyH.nil
        simp only [List.getElem_toArray, List.getElem_cons_zero, List.getElem_cons_succ]
        go_simp
        refine hK.out _ _ HS6.out (fun hHeld2 => ?_)
        clear hK K hHeld
        have hHeld := hHeld2
        clear hHeld2
        try simp only [List.getElem_toArray, List.getElem_cons_zero, List.getElem_cons_succ, Act.put, List.setIfInBounds_toArray, List.set_cons_zero, List.set_cons_succ]
        obtain ⟨ao, nn, cc, rfl⟩ : ∃ ao nn cc, u' = .slice ao nn cc := by
          rcases hou6.2 with ⟨hv6, _⟩ | ⟨g6, cap6, cur6, hv6, _⟩
          · exact ⟨_, _, _, hv6⟩
          · exact ⟨_, _, _, hv6⟩
        have hdf : ∀ q, (Value.slice (some ⟨bv, 0, none⟩) m cv).ownBlock = some q → some q ≠ u.ownBlock := fun q hq e => G5.out.own.differ (by decide) OU5.out hq e.symm
        obtain ⟨cur, hcur⟩ := G5.out.own.blk (b := bv) rfl
        have K6 : Blk w6 bv 57 cur := Blk.grown hcur hg6 (hdf bv rfl)
        have f6 := K6.frozen j
        have c6 := ((G5.out.own.grown hg6 hdf).cellAt j hjn).trans hu
        have ho6 : OwnV 3 w6 (N + 6) (.slice ao nn cc) (ints ([] ++ [x.1])) := by
          unfold OwnV
          rw [show ints ([] ++ [x.1]) = ints ([]) ++ [.int .i64 (x.1 : Int)] by simp [ints], List.length_append]
          exact hou6
        have hA6 : N + 6 ≤ A'.heap.size := by have := HZA.out; have := HZ.out; have := K8.out.1; omega
        have G7 := Lib.hid (G5.out.add (by omega) (by omega) (by omega) rfl hu HGA.out ho6 hg6 (hat6.imp id fun h => ⟨_, h, Nat.le_refl _⟩))
        have X7 := Lib.hid ((KX5.out.grown (fun r hr => by have := HZ.out; have := Z5.out; have := K8.out.1; rcases hr with h | h | h <;> omega) hg6 (fun r e => by have h1 := (OU5.out.blk_lt e).1; have := HZ.out; intro hr; rcases hr with h | h | h <;> omega)).set_ (p := ⟨bv, j, none⟩) (by have := HZ.out; show ¬ (bv = _ ∨ bv = _ ∨ bv = _); omega) (.slice ao nn cc))
        have B7 := Lib.hid ((B5.out.grown hg6 (by have := Z5.out; have := K8.out.1; omega) (fun r e => by have h1 := (OU5.out.blk_lt e).1; omega)).setCell (p := ⟨bv, j, none⟩) (by show N ≤ bv; omega) (.slice ao nn cc))
        have HS7 := Lib.hid (Blk.far HS6.out (p := ⟨bv, j, none⟩) (by show N ≠ bv; omega) (.slice ao nn cc))
        clear K6 hcur hdf ho6 hou6 hg6 hat6 hrun
        refine wpAnyH_ready (rs := [12]) (by kernel_rfl) (by simp) ?_
        refine AllReadyH.cons (o := _) rfl (fun K hK => ?_) AllReadyH.nil
        simp only [List.getElem_toArray, List.getElem_cons_zero, List.getElem_cons_succ]
        go_simp
        refine hK.out _ _ HS7.out (fun hHeld2 => ?_)
        clear hK K hHeld
        have hHeld := hHeld2
        clear hHeld2
        try simp only [List.getElem_toArray, List.getElem_cons_zero, List.getElem_cons_succ, Act.put, List.setIfInBounds_toArray, List.set_cons_zero, List.set_cons_succ]
        refine wpAnyH_done (by kernel_rfl) ?_ _
        clear hHeld
        refine ⟨rfl, X7.out, .slice (some ⟨bv, 0, none⟩) m cv, (vs ++ [nilS]).set j (.slice ao nn cc), D.put kl (.lit (.int .i64 (m : Int))), ?_, ?_, B7.out⟩
        · rw [HMS.out, grpL_new HNM.out, HLP.out, ← HIX.out.2]
          have h7 := G7.out.upto (cnt' := (pre ++ [x]).length) (by simp)
          rw [set_last HJ.out] at h7
          exact h7
        · rw [HMS.out]
          have h8 := H2.out.new HNM.out hko.fl HKL.out H1.out.map.isMap
          rw [← HMD.out] at h8
          exact h8
      · simp only [List.getElem_toArray, List.getElem_cons_zero, List.getElem_cons_succ]
        go_simp
        refine hK.out _ _ (HS.out.out.alloc _) (fun hHeld2 => ?_)
        clear hK K hHeld
        have hHeld := hHeld2
        clear hHeld2
        try simp only [List.getElem_toArray, List.getElem_cons_zero, List.getElem_cons_succ, Act.put, List.setIfInBounds_toArray, List.set_cons_zero, List.set_cons_succ]
        refine wpAnyH_ready (rs := [7]) (by kernel_rfl) (by simp) ?_
        refine AllReadyH.cons (o := _) rfl (fun K hK => ?_) AllReadyH.nil
        simp only [List.getElem_toArray, List.getElem_cons_zero, List.getElem_cons_succ]
        go_simp
        refine hK.out _ _ (HS.out.out.alloc _) (fun hHeld2 => ?_)
        clear hK K hHeld
        have hHeld := hHeld2
        clear hHeld2
        try simp only [List.getElem_toArray, List.getElem_cons_zero, List.getElem_cons_succ, Act.put, List.setIfInBounds_toArray, List.set_cons_zero, List.set_cons_succ]
        have G5 := Lib.hid ((S8.out.kept (World.grownBy_alloc w8 (.cells #[.int .i64 (x.1 : Int)] 3) none) (by simp) (by simp) (by simp) (fun r e => by cases e)).drew)
        have OU5 := Lib.hid (show OwnV 3 ((w8.alloc (.cells #[.int .i64 (x.1 : Int)] 3)).drew) (N + 6) u (ints ([])) from OwnV.alloc hou _)
        have C5 := Lib.hid (show ((w8.alloc (.cells #[.int .i64 (x.1 : Int)] 3)).drew).cell? ⟨w8.heap.size, 0, none⟩ = some (.int .i64 (x.1 : Int)) by
          simp)
        have Z5 := Lib.hid (show ((w8.alloc (.cells #[.int .i64 (x.1 : Int)] 3)).drew).heap.size = w8.heap.size + 1 from World.size_alloc _ _)
        have KX5 := Lib.hid (show KeepsX (fun r => r = N + 1 + 1 + 1 ∨ r = w4.heap.size ∨ r = w4.heap.size + 1) A' ((w8.alloc (.cells #[.int .i64 (x.1 : Int)] 3)).drew) from K8.out.alloc (fun r hr => by have := K8.out.1; have := HZ.out; have := HZA.out; have := HXA.out r; rcases hr with h | h | h <;> omega) (.cells #[.int .i64 (x.1 : Int)] 3))
        have B5 := Lib.hid (below_drew (B8.out.alloc (by have := B8.out.size; have := HN.out; omega) (.cells #[.int .i64 (x.1 : Int)] 3)))
        generalize (w8.alloc (.cells #[.int .i64 (x.1 : Int)] 3)).drew = w5 at *
        obtain ⟨u', w6, hrun, hou6, hg6, _, hat6⟩ := run_append_own_at (P := Tryz.prog) w5 (N + 6) 57 57 3 i0 _ 1 8 Tryz.underlying57 hi0 hz0 hz1 hz2 rfl (by decide) u _ _ OU5.out ⟨w8.heap.size, 0, none⟩ 1 1 [.int .i64 (x.1 : Int)] (by rfl) (fun jj uu hh => by
          cases jj with
          | zero => injection hh with hh; rw [← hh]; exact C5.out
          | succ jj => cases hh) (fun uu hh => by rw [List.mem_singleton.1 hh]; rfl) (by unfold maxLen; rw [ints_len]; have := HGL.out; omega) (by rw [ints_len]; have := HGL.out; omega) (by have := Z5.out; have := HZA.out; have := HZ.out; have := K8.out.1; omega)
        refine wpAnyH_ready (rs := [10]) (by kernel_rfl) (by simp) ?_
        refine AllReadyH.cons (o := _) rfl (fun K hK => ?_) AllReadyH.nil
        simp only [List.getElem_toArray, List.getElem_cons_zero, List.getElem_cons_succ]
        refine if_wanted (by rfl) (wp_append_at (by rfl) (by rfl) (by rfl) hrun ?_)
        have HS6 := Lib.hid (show Blk w6 N 54 #[.slice (some ⟨bv, 0, none⟩) m cv] from G5.out.out.grown hg6 (fun e => by have := (OU5.out.blk_lt e.symm).1; omega))
        refine hK.out _ _ HS6.out (fun hHeld2 => ?_)
        clear hK K hHeld
        have hHeld := hHeld2
        clear hHeld2
        try simp only [Act.put, List.setIfInBounds_toArray, List.set_cons_zero, List.set_cons_succ]
        refine wpAnyH_ready (rs := [11]) (by kernel_rfl) (by simp) ?_
        refine AllReadyH.cons (o := _) rfl (fun K hK => ?_) AllReadyH.nil
        simp only [List.getElem_toArray, List.getElem_cons_zero, List.getElem_cons_succ]
        go_simp
        refine hK.out _ _ HS6.out (fun hHeld2 => ?_)
        clear hK K hHeld
        have hHeld := hHeld2
        clear hHeld2
        try simp only [List.getElem_toArray, List.getElem_cons_zero, List.getElem_cons_succ, Act.put, List.setIfInBounds_toArray, List.set_cons_zero, List.set_cons_succ]
        obtain ⟨ao, nn, cc, rfl⟩ : ∃ ao nn cc, u' = .slice ao nn cc := by
          rcases hou6.2 with ⟨hv6, _⟩ | ⟨g6, cap6, cur6, hv6, _⟩
          · exact ⟨_, _, _, hv6⟩
          · exact ⟨_, _, _, hv6⟩
        have hdf : ∀ q, (Value.slice (some ⟨bv, 0, none⟩) m cv).ownBlock = some q → some q ≠ u.ownBlock := fun q hq e => G5.out.own.differ (by decide) OU5.out hq e.symm
        obtain ⟨cur, hcur⟩ := G5.out.own.blk (b := bv) rfl
        have K6 : Blk w6 bv 57 cur := Blk.grown hcur hg6 (hdf bv rfl)
        have f6 := K6.frozen j
        have c6 := ((G5.out.own.grown hg6 hdf).cellAt j hjn).trans hu
        have ho6 : OwnV 3 w6 (N + 6) (.slice ao nn cc) (ints ([] ++ [x.1])) := by
          unfold OwnV
          rw [show ints ([] ++ [x.1]) = ints ([]) ++ [.int .i64 (x.1 : Int)] by simp [ints], List.length_append]
          exact hou6
        have hA6 : N + 6 ≤ A'.heap.size := by have := HZA.out; have := HZ.out; have := K8.out.1; omega
        have G7 := Lib.hid (G5.out.add (by omega) (by omega) (by omega) rfl hu HGA.out ho6 hg6 (hat6.imp id fun h => ⟨_, h, Nat.le_refl _⟩))
        have X7 := Lib.hid ((KX5.out.grown (fun r hr => by have := HZ.out; have := Z5.out; have := K8.out.1; rcases hr with h | h | h <;> omega) hg6 (fun r e => by have h1 := (OU5.out.blk_lt e).1; have := HZ.out; intro hr; rcases hr with h | h | h <;> omega)).set_ (p := ⟨bv, j, none⟩) (by have := HZ.out; show ¬ (bv = _ ∨ bv = _ ∨ bv = _); omega) (.slice ao nn cc))
        have B7 := Lib.hid ((B5.out.grown hg6 (by have := Z5.out; have := K8.out.1; omega) (fun r e => by have h1 := (OU5.out.blk_lt e).1; omega)).setCell (p := ⟨bv, j, none⟩) (by show N ≤ bv; omega) (.slice ao nn cc))
        have HS7 := Lib.hid (Blk.far HS6.out (p := ⟨bv, j, none⟩) (by show N ≠ bv; omega) (.slice ao nn cc))
        clear K6 hcur hdf ho6 hou6 hg6 hat6 hrun
        refine wpAnyH_ready (rs := [12]) (by kernel_rfl) (by simp) ?_
        refine AllReadyH.cons (o := _) rfl (fun K hK => ?_) AllReadyH.nil
        simp only [List.getElem_toArray, List.getElem_cons_zero, List.getElem_cons_succ]
        go_simp
        refine hK.out _ _ HS7.out (fun hHeld2 => ?_)
        clear hK K hHeld
        have hHeld := hHeld2
        clear hHeld2
        try simp only [List.getElem_toArray, List.getElem_cons_zero, List.getElem_cons_succ, Act.put, List.setIfInBounds_toArray, List.set_cons_zero, List.set_cons_succ]
        refine wpAnyH_done (by kernel_rfl) ?_ _
        clear hHeld
        refine ⟨rfl, X7.out, .slice (some ⟨bv, 0, none⟩) m cv, (vs ++ [nilS]).set j (.slice ao nn cc), D.put kl (.lit (.int .i64 (m : Int))), ?_, ?_, B7.out⟩
        · rw [HMS.out, grpL_new HNM.out, HLP.out, ← HIX.out.2]
          have h7 := G7.out.upto (cnt' := (pre ++ [x]).length) (by simp)
          rw [set_last HJ.out] at h7
          exact h7
        · rw [HMS.out]
          have h8 := H2.out.new HNM.out hko.fl HKL.out H1.out.map.isMap
          rw [← HMD.out] at h8
          exact h8

    · have hne : ((gnum fs x.2.1 : Int) == 0) = false := by rw [beq_eq_false_iff_ne]; omega
      gi_wp2_with (first
        | ((with_reducible refine at_loadIn 30 (.tmp 14) ?_); refine wpListIn_load_rng 30 (.tmp 14) g 0 (fC x.2.1).toList _ HRG.out (by rfl) (by rfl) Tryz.underlying30 rfl HFI.out (by rfl) ?_)
        | ((with_reducible refine at_lookIn 76 (.tmp 13) (.tmp 15) ?_); refine wpListIn_lookup_known rfl (.tmp 13) (.tmp 15) 76 rfl 30 3 .i64 flow_law Tryz.underlying76 Tryz.underlying3 (Tryz.zeroValue3 _) (N + 1) pre.length D rfl H1.out.map (.agg (fC x.2.1)) kl rfl HKL.out _ HAT.out ?_))
      have hjs := gnum_some hG
      obtain ⟨j, hj⟩ : ∃ j, j = gnum fs x.2.1 - 1 := ⟨_, rfl⟩
      rw [← hj] at hjs
      have hw : IntKind.i64.wrap ((gnum fs x.2.1 : Int) - 1) = (j : Int) := by
        have h1 : (dd fs).length ≤ fs.length := dd_len fs
        have h2 := (List.getElem?_eq_some_iff.1 hjs).1
        have h3 := (List.getElem?_eq_some_iff.1 HIX.out.1).1
        have h4 := HLP.out
        rw [IntKind.wrap_i64]
        omega
      clear hj
      have HGA := Lib.hid (grpL_at hjs)
      have HGO := Lib.hid (grpL_old hjs)
      obtain ⟨u, hu, hou⟩ := H1.out.rows j _ HGA.out
      have hjl := (List.getElem?_eq_some_iff.1 hu).1
      obtain ⟨A1, cv, hv, hrd, hA1⟩ := H1.out.own.form
      obtain ⟨bv, rfl, hbv⟩ : ∃ bv, A1 = some ⟨bv, 0, none⟩ ∧ N + 6 ≤ bv := by
        rcases hA1 with rfl | ⟨g1, rfl, h1, _⟩
        · obtain ⟨b1, o1, e1, _⟩ := hrd.2.2.2 (by omega)
          cases e1
        · exact ⟨g1, rfl, h1⟩
      subst hv
      have qj : A'.cell? ⟨bv, j, none⟩ = some u := by
        obtain ⟨b1, o1, e1, hc⟩ := hrd.2.2.2 (by omega)
        injection e1 with e1
        injection e1 with e2 e3
        subst e2 e3
        have := hc j hjl
        rw [Nat.zero_add, hu] at this
        exact this
      have hjn := hjl
      have hj0 : (0 : Int) ≤ (j : Int) ∧ (j : Int) < (vs.length : Int) := by omega
      have HS := H1
      obtain ⟨i0, hi0, hz0, hz1, hz2⟩ := info_parts info_int
      have qj' : (A'.alloc (.cells #[.int .i64 (x.1 : Int)] 3)).cell? ⟨bv, j, none⟩ = some u := cell_later ((Below.refl _ _).alloc (Nat.le_refl _) _) qj
      have hfl : fs.length ≤ 1000 := by
        have h3 := (List.getElem?_eq_some_iff.1 HIX.out.1).1
        have h4 := HLP.out
        omega
      have HMEM := Lib.hid (List.mem_of_getElem? hjs)
      have HGL := Lib.hid (show (pos fs x.2.1).length ≤ 1000 from Nat.le_trans (pos_len fs x.2.1) hfl)
      have KX0 := Lib.hid (KeepsX.refl (fun r => r = N + 1 + 1 + 1 ∨ r = w4.heap.size ∨ r = w4.heap.size + 1) A')
      clear hne hG hjs hrd hA1 q4
      refine wpIn_region_held (S := fun W => Blk W N 54 #[.slice (some ⟨bv, 0, none⟩) vs.length cv]) (by kernel_rfl) (by kernel_rfl) (fun ⟨_, _, h⟩ => by cases h.1) HS.out.out (fun hHeld => ?_)
      refine wpAnyH_take (i := 0) (oi := _) (v := ?_) rfl (by kernel_rfl) (by kernel_rfl) (by kernel_rfl) (fun _ _ _ h => h) (Or.inl ⟨by rfl, ?_⟩) (by assumption) ?_
      case refine_2 => (intro w hSw; have q0 := hSw.cell 0; simp at q0; go_simp <;> with_reducible rfl)
      try simp only [List.getElem_toArray, List.getElem_cons_zero, Act.put, List.setIfInBounds_toArray, List.set_cons_zero, List.set_cons_succ]
      refine wpAnyH_take (i := 1) (oi := _) (v := ?_) rfl (by kernel_rfl) (by kernel_rfl) (by kernel_rfl) (fun _ _ _ h => h) (Or.inl ⟨by rfl, ?_⟩) (by assumption) ?_
      case refine_2 => (intro w hSw; go_simp <;> with_reducible rfl)
      try simp only [List.getElem_toArray, List.getElem_cons_zero, List.getElem_cons_succ, Act.put, List.setIfInBounds_toArray, List.set_cons_zero, List.set_cons_succ]
      refine wpAnyH_take (i := 2) (oi := _) (v := ?_) rfl (by kernel_rfl) (by kernel_rfl) (by kernel_rfl) (fun _ _ _ h => h) (Or.inl ⟨by rfl, ?_⟩) (by assumption) ?_
      case refine_2 => (intro w hSw; go_simp <;> with_reducible rfl)
      try simp only [List.getElem_toArray, List.getElem_cons_zero, List.getElem_cons_succ, Act.put, List.setIfInBounds_toArray, List.set_cons_zero, List.set_cons_succ]
      refine wpAnyH_take (i := 3) (oi := _) (v := ?_) rfl (by kernel_rfl) (by kernel_rfl) (by kernel_rfl) (fun _ _ _ h => h) (Or.inl ⟨by rfl, ?_⟩) (by assumption) ?_
      case refine_2 => (intro w hSw; have q0 := hSw.cell 0; simp at q0; go_simp <;> with_reducible rfl)
      try simp only [List.getElem_toArray, List.getElem_cons_zero, List.getElem_cons_succ, Act.put, List.setIfInBounds_toArray, List.set_cons_zero, List.set_cons_succ]
      refine wpAnyH_take (i := 4) (oi := _) (v := ?_) rfl (by kernel_rfl) (by kernel_rfl) (by kernel_rfl) (fun _ _ _ h => h) (Or.inl ⟨by rfl, ?_⟩) (by assumption) ?_
      case refine_2 => (intro w hSw; go_simp <;> with_reducible rfl)
      try simp only [List.getElem_toArray, List.getElem_cons_zero, List.getElem_cons_succ, Act.put, List.setIfInBounds_toArray, List.set_cons_zero, List.set_cons_succ]
      refine wpAnyH_take (i := 5) (oi := _) (v := ?_) rfl (by kernel_rfl) (by kernel_rfl) (by kernel_rfl) (fun _ _ _ h => h) (Or.inl ⟨by rfl, ?_⟩) (by assumption) ?_
      case refine_2 => (intro w hSw; go_simp <;> with_reducible rfl)
      try simp only [List.getElem_toArray, List.getElem_cons_zero, List.getElem_cons_succ, Act.put, List.setIfInBounds_toArray, List.set_cons_zero, List.set_cons_succ]
      refine wpAnyH_take (i := 6) (oi := _) (v := ?_) rfl (by kernel_rfl) (by kernel_rfl) (by kernel_rfl) (fun _ _ _ h => h) (Or.inl ⟨by rfl, ?_⟩) (by assumption) ?_
      case refine_2 => (intro w hSw; go_simp <;> with_reducible rfl)
      try simp only [List.getElem_toArray, List.getElem_cons_zero, List.getElem_cons_succ, Act.put, List.setIfInBounds_toArray, List.set_cons_zero, List.set_cons_succ]
      refine wpAnyH_take (i := 8) (oi := _) (v := ?_) rfl (by kernel_rfl) (by kernel_rfl) (by kernel_rfl) (fun _ _ _ h => h) (Or.inl ⟨by rfl, ?_⟩) (by assumption) ?_
      case refine_2 => (intro w hSw; go_simp <;> with_reducible rfl)
      try simp only [List.getElem_toArray, List.getElem_cons_zero, List.getElem_cons_succ, Act.put, List.setIfInBounds_toArray, List.set_cons_zero, List.set_cons_succ]
      refine wpAnyH_ready (rs := [7, 9]) (by kernel_rfl) (by simp) ?_
      refine AllReadyH.cons (o := _) rfl (fun K hK => ?_) (AllReadyH.cons (o := _) rfl (fun K hK => ?_) AllReadyH.nil)
      · simp only [List.getElem_toArray, List.getElem_cons_zero, List.getElem_cons_succ]
        go_simp
        refine hK.out _ _ HS.out.out (fun hHeld2 => ?_)
        clear hK K hHeld
        have hHeld := hHeld2
        clear hHeld2
        try simp only [List.getElem_toArray, List.getElem_cons_zero, List.getElem_cons_succ, Act.put, List.setIfInBounds_toArray, List.set_cons_zero, List.set_cons_succ]
        refine wpAnyH_ready (rs := [9]) (by kernel_rfl) (by simp) ?_
        refine AllReadyH.cons (o := _) rfl (fun K hK => ?_) AllReadyH.nil
        simp only [List.getElem_toArray, List.getElem_cons_zero, List.getElem_cons_succ]
        go_simp
        refine hK.out _ _ (HS.out.out.alloc _) (fun hHeld2 => ?_)
        clear hK K hHeld
        have hHeld := hHeld2
        clear hHeld2
        try simp only [List.getElem_toArray, List.getElem_cons_zero, List.getElem_cons_succ, Act.put, List.setIfInBounds_toArray, List.set_cons_zero, List.set_cons_succ]
        have G5 := Lib.hid ((H1.out.kept (World.grownBy_alloc A' (.cells #[.int .i64 (x.1 : Int)] 3) none) (by simp) (by simp) (by simp) (fun r e => by cases e)).drew)
        have OU5 := Lib.hid (show OwnV 3 ((A'.alloc (.cells #[.int .i64 (x.1 : Int)] 3)).drew) (N + 6) u (ints (pos fs x.2.1)) from OwnV.alloc hou _)
        have C5 := Lib.hid (show ((A'.alloc (.cells #[.int .i64 (x.1 : Int)] 3)).drew).cell? ⟨A'.heap.size, 0, none⟩ = some (.int .i64 (x.1 : Int)) by
          simp)
        have Z5 := Lib.hid (show ((A'.alloc (.cells #[.int .i64 (x.1 : Int)] 3)).drew).heap.size = A'.heap.size + 1 from World.size_alloc _ _)
        have KX5 := Lib.hid (show KeepsX (fun r => r = N + 1 + 1 + 1 ∨ r = w4.heap.size ∨ r = w4.heap.size + 1) A' ((A'.alloc (.cells #[.int .i64 (x.1 : Int)] 3)).drew) from KX0.out.alloc (fun r hr => by have := KX0.out.1; have := HZ.out; have := HZA.out; have := HXA.out r; rcases hr with h | h | h <;> omega) (.cells #[.int .i64 (x.1 : Int)] 3))
        have B5 := Lib.hid (below_drew (H3.out.alloc (by have := H3.out.size; have := HN.out; omega) (.cells #[.int .i64 (x.1 : Int)] 3)))
        generalize (A'.alloc (.cells #[.int .i64 (x.1 : Int)] 3)).drew = w5 at *
        obtain ⟨u', w6, hrun, hou6, hg6, _, hat6⟩ := run_append_own_at (P := Tryz.prog) w5 (N + 6) 57 57 3 i0 _ 1 8 Tryz.underlying57 hi0 hz0 hz1 hz2 rfl (by decide) u _ _ OU5.out ⟨A'.heap.size, 0, none⟩ 1 1 [.int .i64 (x.1 : Int)] (by rfl) (fun jj uu hh => by
          cases jj with
          | zero => injection hh with hh; rw [← hh]; exact C5.out
          | succ jj => cases hh) (fun uu hh => by rw [List.mem_singleton.1 hh]; rfl) (by unfold maxLen; rw [ints_len]; have := HGL.out; omega) (by rw [ints_len]; have := HGL.out; omega) (by have := Z5.out; have := HZA.out; have := HZ.out; have := KX0.out.1; omega)
        refine wpAnyH_ready (rs := [10]) (by kernel_rfl) (by simp) ?_
        refine AllReadyH.cons (o := _) rfl (fun K hK => ?_) AllReadyH.nil
        simp only [List.getElem_toArray, List.getElem_cons_zero, List.getElem_cons_succ]
        refine if_wanted (by rfl) (wp_append_at (by rfl) (by rfl) (by rfl) hrun ?_)
        have HS6 := Lib.hid (show Blk w6 N 54 #[.slice (some ⟨bv, 0, none⟩) vs.length cv] from G5.out.out.grown hg6 (fun e => by have := (OU5.out.blk_lt e.symm).1; omega))
        refine hK.out _ _ HS6.out (fun hHeld2 => ?_)
        clear hK K hHeld
        have hHeld := hHeld2
        clear hHeld2
        try simp only [Act.put, List.setIfInBounds_toArray, List.set_cons_zero, List.set_cons_succ]
        refine wpAnyH_ready (rs := [11]) (by kernel_rfl) (by simp) ?_
        refine AllReadyH.cons (o := _) rfl (fun K hK => ?_) AllReadyH.nil
        simp only [List.getElem_toArray, List.getElem_cons_zero, List.getElem_cons_succ]
        go_simp
        refine hK.out _ _ HS6.out (fun hHeld2 => ?_)
        clear hK K hHeld
        have hHeld := hHeld2
        clear hHeld2
        try simp only [List.getElem_toArray, List.getElem_cons_zero, List.getElem_cons_succ, Act.put, List.setIfInBounds_toArray, List.set_cons_zero, List.set_cons_succ]
        obtain ⟨ao, nn, cc, rfl⟩ : ∃ ao nn cc, u' = .slice ao nn cc := by
          rcases hou6.2 with ⟨hv6, _⟩ | ⟨g6, cap6, cur6, hv6, _⟩
          · exact ⟨_, _, _, hv6⟩
          · exact ⟨_, _, _, hv6⟩
        have hdf : ∀ q, (Value.slice (some ⟨bv, 0, none⟩) vs.length cv).ownBlock = some q → some q ≠ u.ownBlock := fun q hq e => G5.out.own.differ (by decide) OU5.out hq e.symm
        obtain ⟨cur, hcur⟩ := G5.out.own.blk (b := bv) rfl
        have K6 : Blk w6 bv 57 cur := Blk.grown hcur hg6 (hdf bv rfl)
        have f6 := K6.frozen j
        have c6 := ((G5.out.own.grown hg6 hdf).cellAt j hjn).trans hu
        have ho6 : OwnV 3 w6 (N + 6) (.slice ao nn cc) (ints (pos fs x.2.1 ++ [x.1])) := by
          unfold OwnV
          rw [show ints (pos fs x.2.1 ++ [x.1]) = ints (pos fs x.2.1) ++ [.int .i64 (x.1 : Int)] by simp [ints], List.length_append]
          exact hou6
        have hA6 : N + 6 ≤ A'.heap.size := by have := HZA.out; have := HZ.out; have := KX0.out.1; omega
        have G7 := Lib.hid (G5.out.add (by omega) (by omega) (by omega) rfl hu HGA.out ho6 hg6 (hat6.imp id fun h => ⟨_, h, Nat.le_refl _⟩))
        have X7 := Lib.hid ((KX5.out.grown (fun r hr => by have := HZ.out; have := Z5.out; have := KX0.out.1; rcases hr with h | h | h <;> omega) hg6 (fun r e => by have h1 := (OU5.out.blk_lt e).1; have := HZ.out; intro hr; rcases hr with h | h | h <;> omega)).set_ (p := ⟨bv, j, none⟩) (by have := HZ.out; show ¬ (bv = _ ∨ bv = _ ∨ bv = _); omega) (.slice ao nn cc))
        have B7 := Lib.hid ((B5.out.grown hg6 (by have := Z5.out; have := KX0.out.1; omega) (fun r e => by have h1 := (OU5.out.blk_lt e).1; omega)).setCell (p := ⟨bv, j, none⟩) (by show N ≤ bv; omega) (.slice ao nn cc))
        have HS7 := Lib.hid (Blk.far HS6.out (p := ⟨bv, j, none⟩) (by show N ≠ bv; omega) (.slice ao nn cc))
        clear K6 hcur hdf ho6 hou6 hg6 hat6 hrun
        refine wpAnyH_ready (rs := [12]) (by kernel_rfl) (by simp) ?_
        refine AllReadyH.cons (o := _) rfl (fun K hK => ?_) AllReadyH.nil
        simp only [List.getElem_toArray, List.getElem_cons_zero, List.getElem_cons_succ]
        go_simp
        refine hK.out _ _ HS7.out (fun hHeld2 => ?_)
        clear hK K hHeld
        have hHeld := hHeld2
        clear hHeld2
        try simp only [List.getElem_toArray, List.getElem_cons_zero, List.getElem_cons_succ, Act.put, List.setIfInBounds_toArray, List.set_cons_zero, List.set_cons_succ]
        refine wpAnyH_done (by kernel_rfl) ?_ _
        clear hHeld
        refine ⟨rfl, X7.out, .slice (some ⟨bv, 0, none⟩) vs.length cv, (vs).set j (.slice ao nn cc), D, ?_, ?_, B7.out⟩
        · rw [HMS.out, HGO.out, HLP.out, ← HIX.out.2]
          exact G7.out.upto (by simp)
        · rw [HMS.out]
          exact H2.out.old HMEM.out
      · simp only [List.getElem_toArray, List.getElem_cons_zero, List.getElem_cons_succ]
        go_simp
        refine hK.out _ _ (HS.out.out.alloc _) (fun hHeld2 => ?_)
        clear hK K hHeld
        have hHeld := hHeld2
        clear hHeld2
        try simp only [List.getElem_toArray, List.getElem_cons_zero, List.getElem_cons_succ, Act.put, List.setIfInBounds_toArray, List.set_cons_zero, List.set_cons_succ]
        refine wpAnyH_ready (rs := [7]) (by kernel_rfl) (by simp) ?_
        refine AllReadyH.cons (o := _) rfl (fun K hK => ?_) AllReadyH.nil
        simp only [List.getElem_toArray, List.getElem_cons_zero, List.getElem_cons_succ]
        go_simp
        refine hK.out _ _ (HS.out.out.alloc _) (fun hHeld2 => ?_)
        clear hK K hHeld
        have hHeld := hHeld2
        clear hHeld2
        try simp only [List.getElem_toArray, List.getElem_cons_zero, List.getElem_cons_succ, Act.put, List.setIfInBounds_toArray, List.set_cons_zero, List.set_cons_succ]
        have G5 := Lib.hid ((H1.out.kept (World.grownBy_alloc A' (.cells #[.int .i64 (x.1 : Int)] 3) none) (by simp) (by simp) (by simp) (fun r e => by cases e)).drew)
        have OU5 := Lib.hid (show OwnV 3 ((A'.alloc (.cells #[.int .i64 (x.1 : Int)] 3)).drew) (N + 6) u (ints (pos fs x.2.1)) from OwnV.alloc hou _)
        have C5 := Lib.hid (show ((A'.alloc (.cells #[.int .i64 (x.1 : Int)] 3)).drew).cell? ⟨A'.heap.size, 0, none⟩ = some (.int .i64 (x.1 : Int)) by
          simp)
        have Z5 := Lib.hid (show ((A'.alloc (.cells #[.int .i64 (x.1 : Int)] 3)).drew).heap.size = A'.heap.size + 1 from World.size_alloc _ _)
        have KX5 := Lib.hid (show KeepsX (fun r => r = N + 1 + 1 + 1 ∨ r = w4.heap.size ∨ r = w4.heap.size + 1) A' ((A'.alloc (.cells #[.int .i64 (x.1 : Int)] 3)).drew) from KX0.out.alloc (fun r hr => by have := KX0.out.1; have := HZ.out; have := HZA.out; have := HXA.out r; rcases hr with h | h | h <;> omega) (.cells #[.int .i64 (x.1 : Int)] 3))
        have B5 := Lib.hid (below_drew (H3.out.alloc (by have := H3.out.size; have := HN.out; omega) (.cells #[.int .i64 (x.1 : Int)] 3)))
        generalize (A'.alloc (.cells #[.int .i64 (x.1 : Int)] 3)).drew = w5 at *
        obtain ⟨u', w6, hrun, hou6, hg6, _, hat6⟩ := run_append_own_at (P := Tryz.prog) w5 (N + 6) 57 57 3 i0 _ 1 8 Tryz.underlying57 hi0 hz0 hz1 hz2 rfl (by decide) u _ _ OU5.out ⟨A'.heap.size, 0, none⟩ 1 1 [.int .i64 (x.1 : Int)] (by rfl) (fun jj uu hh => by
          cases jj with
          | zero => injection hh with hh; rw [← hh]; exact C5.out
          | succ jj => cases hh) (fun uu hh => by rw [List.mem_singleton.1 hh]; rfl) (by unfold maxLen; rw [ints_len]; have := HGL.out; omega) (by rw [ints_len]; have := HGL.out; omega) (by have := Z5.out; have := HZA.out; have := HZ.out; have := KX0.out.1; omega)
        refine wpAnyH_ready (rs := [10]) (by kernel_rfl) (by simp) ?_
        refine AllReadyH.cons (o := _) rfl (fun K hK => ?_) AllReadyH.nil
        simp only [List.getElem_toArray, List.getElem_cons_zero, List.getElem_cons_succ]
        refine if_wanted (by rfl) (wp_append_at (by rfl) (by rfl) (by rfl) hrun ?_)
        have HS6 := Lib.hid (show Blk w6 N 54 #[.slice (some ⟨bv, 0, none⟩) vs.length cv] from G5.out.out.grown hg6 (fun e => by have := (OU5.out.blk_lt e.symm).1; omega))
        refine hK.out _ _ HS6.out (fun hHeld2 => ?_)
        clear hK K hHeld
        have hHeld := hHeld2
        clear hHeld2
        try simp only [Act.put, List.setIfInBounds_toArray, List.set_cons_zero, List.set_cons_succ]
        refine wpAnyH_ready (rs := [11]) (by kernel_rfl) (by simp) ?_
        refine AllReadyH.cons (o := _) rfl (fun K hK => ?_) AllReadyH.nil
        simp only [List.getElem_toArray, List.getElem_cons_zero, List.getElem_cons_succ]
        go_simp
        refine hK.out _ _ HS6.out (fun hHeld2 => ?_)
        clear hK K hHeld
        have hHeld := hHeld2
        clear hHeld2
        try simp only [List.getElem_toArray, List.getElem_cons_zero, List.getElem_cons_succ, Act.put, List.setIfInBounds_toArray, List.set_cons_zero, List.set_cons_succ]
        obtain ⟨ao, nn, cc, rfl⟩ : ∃ ao nn cc, u' = .slice ao nn cc := by
          rcases hou6.2 with ⟨hv6, _⟩ | ⟨g6, cap6, cur6, hv6, _⟩
          · exact ⟨_, _, _, hv6⟩
          · exact ⟨_, _, _, hv6⟩
        have hdf : ∀ q, (Value.slice (some ⟨bv, 0, none⟩) vs.length cv).ownBlock = some q → some q ≠ u.ownBlock := fun q hq e => G5.out.own.differ (by decide) OU5.out hq e.symm
        obtain ⟨cur, hcur⟩ := G5.out.own.blk (b := bv) rfl
        have K6 : Blk w6 bv 57 cur := Blk.grown hcur hg6 (hdf bv rfl)
        have f6 := K6.frozen j
        have c6 := ((G5.out.own.grown hg6 hdf).cellAt j hjn).trans hu
        have ho6 : OwnV 3 w6 (N + 6) (.slice ao nn cc) (ints (pos fs x.2.1 ++ [x.1])) := by
          unfold OwnV
          rw [show ints (pos fs x.2.1 ++ [x.1]) = ints (pos fs x.2.1) ++ [.int .i64 (x.1 : Int)] by simp [ints], List.length_append]
          exact hou6
        have hA6 : N + 6 ≤ A'.heap.size := by have := HZA.out; have := HZ.out; have := KX0.out.1; omega
        have G7 := Lib.hid (G5.out.add (by omega) (by omega) (by omega) rfl hu HGA.out ho6 hg6 (hat6.imp id fun h => ⟨_, h, Nat.le_refl _⟩))
        have X7 := Lib.hid ((KX5.out.grown (fun r hr => by have := HZ.out; have := Z5.out; have := KX0.out.1; rcases hr with h | h | h <;> omega) hg6 (fun r e => by have h1 := (OU5.out.blk_lt e).1; have := HZ.out; intro hr; rcases hr with h | h | h <;> omega)).set_ (p := ⟨bv, j, none⟩) (by have := HZ.out; show ¬ (bv = _ ∨ bv = _ ∨ bv = _); omega) (.slice ao nn cc))
        have B7 := Lib.hid ((B5.out.grown hg6 (by have := Z5.out; have := KX0.out.1; omega) (fun r e => by have h1 := (OU5.out.blk_lt e).1; omega)).setCell (p := ⟨bv, j, none⟩) (by show N ≤ bv; omega) (.slice ao nn cc))
        have HS7 := Lib.hid (Blk.far HS6.out (p := ⟨bv, j, none⟩) (by show N ≠ bv; omega) (.slice ao nn cc))
        clear K6 hcur hdf ho6 hou6 hg6 hat6 hrun
        refine wpAnyH_ready (rs := [12]) (by kernel_rfl) (by simp) ?_
        refine AllReadyH.cons (o := _) rfl (fun K hK => ?_) AllReadyH.nil
        simp only [List.getElem_toArray, List.getElem_cons_zero, List.getElem_cons_succ]
        go_simp
        refine hK.out _ _ HS7.out (fun hHeld2 => ?_)
        clear hK K hHeld
        have hHeld := hHeld2
        clear hHeld2
        try simp only [List.getElem_toArray, List.getElem_cons_zero, List.getElem_cons_succ, Act.put, List.setIfInBounds_toArray, List.set_cons_zero, List.set_cons_succ]
        refine wpAnyH_done (by kernel_rfl) ?_ _
        clear hHeld
        refine ⟨rfl, X7.out, .slice (some ⟨bv, 0, none⟩) vs.length cv, (vs).set j (.slice ao nn cc), D, ?_, ?_, B7.out⟩
        · rw [HMS.out, HGO.out, HLP.out, ← HIX.out.2]
          exact G7.out.upto (by simp)
        · rw [HMS.out]
          exact H2.out.old HMEM.out
  case done =>
    rintro W ⟨v, vs, D, h1, h2, h3⟩ hzW hd
    have HG := Lib.hid h1
    have HB := Lib.hid h3
    have HD := Lib.hid hd
    have q0 := h1.out.cell 0
    simp at q0
    have HE := Lib.hid (iks_fst ks)
    have HZW := Lib.hid hzW
    clear h1 h3 hz h2 hd hzW
    gi_wp2_with fail
    refine ⟨by simp, .inl ⟨_, _, rfl, run_takeDeferred HD.out, ?_⟩⟩
    refine ⟨_, results_tmp rfl _ _ _, v, rfl, ?_, ?_⟩
    · rw [← HN.out, ← HE.out]
      have hz4 := HZ.out
      have h9 := HG.out.kept (grownBy_putObj' W w4.heap.size (.deferred none)) (by simp; omega) (by simp; omega) (by simp; omega) (fun r e => by injection e with e; omega)
      exact ⟨vs, h9.own.mono (by omega), h9.len, fun j g hj => by
        obtain ⟨u, hu, ho⟩ := h9.rows j g hj
        exact ⟨u, hu, ho.mono (by omega)⟩⟩
    · have b3 := HB.out
      have hz4 := HZ.out
      rw [← HN.out]
      exact b3.grown (grownBy_putObj' W _ _) (by have := b3.size; have := HN.out; omega) (fun k e => by cases e; omega)
end Go.Proofs.YtonafonhadocgaaGreatDoor

/- horologelaw28.one: a flow that is stored part by part. -/
namespace Go.Proofs.YtonafonhadocgaaGreatDoor
open Go.RowKit Go.Shelf

/-- A row with a run of cells written over. -/
def setL : Array Value → Nat → List Value → Array Value
  | A, _, [] => A
  | A, i, v :: vs => setL (A.setIfInBounds i v) (i + 1) vs
theorem Blk.setCells {g : Nat} {t : TypeId} : ∀ (vs : List Value) (i : Nat) (w : World) (cs : Array Value), Blk w g t cs → Blk (w.setCells g i vs) g t (setL cs i vs)
  | [], _, _, _, h => h
  | v :: vs, i, w, cs, h => Blk.setCells vs (i + 1) (w.setCell ⟨g, i, none⟩ v) (cs.setIfInBounds i v) (h.set_ i v)
theorem grownBy_setCells (g : Nat) : ∀ (vs : List Value) (i : Nat) (w : World), w.grownBy (w.setCells g i vs) (some g) ∧ (w.setCells g i vs).heap.size = w.heap.size
  | [], _, w => ⟨⟨rfl, rfl, rfl, Nat.le_refl _, fun _ _ _ => rfl⟩, rfl⟩
  | v :: vs, i, w => by
    have h1 := grownBy_setCell w g i v
    have h2 := grownBy_setCells g vs (i + 1) (w.setCell ⟨g, i, none⟩ v)
    have e1 : (w.setCell ⟨g, i, none⟩ v).heap.size = w.heap.size := by simp
    exact ⟨⟨h2.1.os.trans h1.os, h2.1.tape.trans h1.tape, h2.1.output.trans h1.output, Nat.le_trans h1.size h2.1.size, fun k hk hr => (h2.1.block k (by rw [e1]; exact hk) hr).trans (h1.block k hk hr)⟩, h2.2.trans e1⟩
section
variable {P : Program} {ops : Array Oper} {rest : List Oper} {o : Oper} {a : Act} {w : World} {Q : Exit → Act → World → Prop}
/-- A store into a part of a block. -/
theorem wpList_store_part (ty : TypeId) (x y : Operand) (g i : Nat) (t : TypeId) (old cs : Array Value) (hg : Blk w g t old) (ho : o.op = .store ty x y) (hdst : o.dst = none)
    (hx : a.eval x = .pointer (some ⟨g, i, none⟩)) (hy : a.eval y = .agg cs) (hi : (P.info? ty).map (·.size) = some cs.size) (hle : i + cs.size ≤ old.size) (h1 : cs.toList.all (·.oneCell') = true)
    (hw : Region.wanted o (yielded ops a.tmps) = true)
    (h : ∀ w', Blk w' g t (setL old i cs.toList) → w.grownBy w' (some g) → w'.heap.size = w.heap.size → wpList P ops Q rest a w') : wpList P ops Q (o :: rest) a w :=
  BigFrame.wpList_want hw fun _ hK => wp_store_mid ty x y ho g i cs hx hy (fun j hj => ⟨by rw [hg.cell, Array.getElem?_eq_getElem (by omega)]; rfl, hg.frozen (i + j)⟩) hi (by rw [← Array.all_toList]; exact h1)
    (hK _ _ (by rw [hdst]; exact h _ (Blk.setCells cs.toList i w old hg) (grownBy_setCells g cs.toList i w).1 (grownBy_setCells g cs.toList i w).2))
end

abbrev ip (n : UInt8) : List UInt8 := [10, 0, 0, n, 0, 0, 0, 0, 0, 0, 0, 0, 0, 0, 0, 0]
abbrev oneA : En := (false, ip 2, 1024)
abbrev oneB : En := (false, ip 1, 123)
theorem built_ip2 : Tryz.prog.built 23 [(0, .int .u8 10), (1, .int .u8 0), (2, .int .u8 0), (3, .int .u8 2)] = some (bv (ip 2)).toArray := by kernel_rfl
theorem built_ip1 : Tryz.prog.built 23 [(0, .int .u8 10), (1, .int .u8 0), (2, .int .u8 0), (3, .int .u8 1)] = some (bv (ip 1)).toArray := by kernel_rfl
/-- The cells on the way. -/
def st1 : Array Value := setL (flC zE zE) 1 (bv (ip 2))
def st2 : Array Value := st1.setIfInBounds 17 (.int .u16 1024)
def st3 : Array Value := setL st2 19 (bv (ip 1))
def st4 : Array Value := st3.setIfInBounds 35 (.int .u16 123)
theorem st4_eq : st4 = flC oneA oneB := by kernel_rfl
theorem results_fl1 {fn : Func} {p : Tmp} (h : fn.results = #[.cell p 30]) (tmps : Array Value) (w : World) (g : Nat) (cs : Array Value)
    (hp : tmps.getD p undef = .pointer (some ⟨g, 0, none⟩)) (hg : Blk w g 30 cs) (hi : cs.size = 36) :
    (results fn tmps).run Tryz.prog w = .ok (.agg cs) w := by
  have hp' : tmps[p]?.getD undef = .pointer (some ⟨g, 0, none⟩) := by simpa using hp
  have hl := run_loadVar_row (P := Tryz.prog) w g 30 30 cs (0, 0) _ hg Tryz.underlying30 rfl (by rw [hi]; exact flSize)
  simp [results, h, hp', asAddr, hl]

set_option maxRecDepth 100000 in
set_option maxHeartbeats 4000000 in
theorem one_any (w : World) : Calls Tryz.prog 12 #[] w fun e w' => e = .returned (.agg (flC oneA oneB)) ∧ Below w.heap.size w w' := by
  have HBZ := Lib.hid built_z
  have HB1 := Lib.hid built_ip1
  have HB2 := Lib.hid built_ip2
  have HS16 := Lib.hid (show (Tryz.prog.info? 23).map (·.size) = some 16 by kernel_rfl)
  have HFS := Lib.hid (show (Tryz.prog.info? 30).map (·.size) = some (flC zE zE).size from flSize)
  have HF4 := Lib.hid (show (Tryz.prog.info? 30).map (·.size) = some st4.size from flSize)
  have HZ0 := Lib.hid (Blk.new w 30 (flC zE zE))
  have HZ1 := Lib.hid (Blk.new (w.alloc (.cells (flC zE zE) 30)) 30 (flC zE zE))
  have HY := Lib.hid (HZ0.out.alloc (.cells (flC zE zE) 30))
  have B0 := Lib.hid (((Below.refl _ w).alloc (Nat.le_refl _) (.cells (flC zE zE) 30)).alloc (by simp) (.cells (flC zE zE) 30))
  have HO1 := Lib.hid (show (bv (ip 2)).toArray.toList.all (·.oneCell') = true by kernel_rfl)
  have HO2 := Lib.hid (show (bv (ip 1)).toArray.toList.all (·.oneCell') = true by kernel_rfl)
  have HO4 := Lib.hid (show st4.toList.all (·.oneCell') = true by kernel_rfl)
  have e1 : (w.alloc (.cells (flC zE zE) 30)).heap.size = w.heap.size + 1 := by simp
  rw [e1] at HZ1
  clear e1
  go_enter Tryz.func12, Tryz.ntmps12
  go_wp2_with (first
    | ((with_reducible refine at_build 30 #[] ?_); refine wpList_build_eq 30 #[] (flC zE zE) (by rfl) HBZ.out (by rfl) ?_)
    | ((with_reducible refine at_store 30 (.tmp 1) (.tmp 2) ?_); refine wpList_store_blk 30 (.tmp 1) (.tmp 2) (w.heap.size + 1) 30 (flC zE zE) (flC zE zE) HZ1.out (by rfl) (by rfl) (by rfl) (by rfl) HFS.out (by rfl) (flC_one zE zE) (by rfl) ?_; intro w1 hk hg hs; have K1 := Lib.hid hk; have L1 := Lib.hid (HY.out.grown hg (by simp)); have B1 := Lib.hid (B0.out.grown hg (by simp; omega) (fun k e => by injection e with e; omega)); have Z1 := Lib.hid hs; clear hk hg hs HZ1 HY B0)
    | ((with_reducible refine at_build 23 #[(0, .const (.int .u8 10)), (1, .const (.int .u8 0)), (2, .const (.int .u8 0)), (3, .const (.int .u8 2))] ?_); refine wpList_build_eq 23 #[(0, .const (.int .u8 10)), (1, .const (.int .u8 0)), (2, .const (.int .u8 0)), (3, .const (.int .u8 2))] (bv (ip 2)).toArray (by rfl) HB2.out (by rfl) ?_)
    | ((with_reducible refine at_store 23 (.tmp 6) (.tmp 3) ?_); refine wpList_store_part 23 (.tmp 6) (.tmp 3) (w.heap.size + 1) 1 30 (flC zE zE) (bv (ip 2)).toArray K1.out (by rfl) (by rfl) (by rfl) (by rfl) HS16.out (by decide) HO1.out (by rfl) ?_; intro w2 hk hg hs; have K2 := Lib.hid (show Blk w2 (w.heap.size + 1) 30 st1 from hk); have L2 := Lib.hid (L1.out.grown hg (by simp)); have B2 := Lib.hid (B1.out.grown hg (by have := B1.out.size; omega) (fun k e => by injection e with e; omega)); have q0 := K2.out.cell 17; have q1 := K2.out.frozen 17; rw [show (st1 : Array Value)[17]? = some (.int .u16 0) by kernel_rfl] at q0; clear hk hg hs)
    | ((with_reducible refine at_build 23 #[(0, .const (.int .u8 10)), (1, .const (.int .u8 0)), (2, .const (.int .u8 0)), (3, .const (.int .u8 1))] ?_); refine wpList_build_eq 23 #[(0, .const (.int .u8 10)), (1, .const (.int .u8 0)), (2, .const (.int .u8 0)), (3, .const (.int .u8 1))] (bv (ip 1)).toArray (by rfl) HB1.out (by rfl) ?_)
    | ((with_reducible refine at_store 23 (.tmp 12) (.tmp 9) ?_); refine wpList_store_part 23 (.tmp 12) (.tmp 9) (w.heap.size + 1) 19 30 st2 (bv (ip 1)).toArray (K2.out.set_ 17 (.int .u16 (1024 : Int))) (by rfl) (by rfl) (by rfl) (by rfl) HS16.out (by decide) HO2.out (by rfl) ?_; intro w3 hk hg hs; have K3 := Lib.hid (show Blk w3 (w.heap.size + 1) 30 st3 from hk); have L3 := Lib.hid ((L2.out.far (p := ⟨(w.heap.size + 1), 17, none⟩) (by simp) (.int .u16 (1024 : Int))).grown hg (by simp)); have B3 := Lib.hid ((B2.out.setCell (p := ⟨(w.heap.size + 1), 17, none⟩) (by simp) (.int .u16 (1024 : Int))).grown hg (by have := (B2.out.setCell (p := ⟨(w.heap.size + 1), 17, none⟩) (by simp) (.int .u16 (1024 : Int))).size; omega) (fun k e => by injection e with e; omega)); have q0 := K3.out.cell 35; have q1 := K3.out.frozen 35; rw [show (st3 : Array Value)[35]? = some (.int .u16 0) by kernel_rfl] at q0; clear hk hg hs)
    | (refine wpList_load_blk 30 (.tmp 1) (w.heap.size + 1) 30 st4 _ (K3.out.set_ 35 (.int .u16 (123 : Int))) (by rfl) (by rfl) Tryz.underlying30 rfl HF4.out (by rfl) ?_)
    | ((with_reducible refine at_store 30 (.tmp 0) (.tmp 15) ?_); refine wpList_store_blk 30 (.tmp 0) (.tmp 15) w.heap.size 30 (flC zE zE) st4 (L3.out.far (p := ⟨(w.heap.size + 1), 35, none⟩) (by simp) (.int .u16 (123 : Int))) (by rfl) (by rfl) (by rfl) (by rfl) HF4.out (by kernel_rfl) HO4.out (by rfl) ?_; intro w4 hk hg hs; have K4 := Lib.hid hk; have B4 := Lib.hid ((B3.out.setCell (p := ⟨(w.heap.size + 1), 35, none⟩) (by simp) (.int .u16 (123 : Int))).grown hg (by have := B3.out.size; simp; omega) (fun k e => by injection e with e; omega)); clear hk hg hs))
  have HR := Lib.hid st4_eq
  rw [← HR.out]
  have HN := Lib.hid (show st4.size = 36 by kernel_rfl)
  exact bodyPost_ret (v := .agg st4) (results_fl1 Tryz.results12 _ _ w.heap.size st4 rfl K4.out HN.out) rfl ⟨rfl, B4.out⟩
end Go.Proofs.YtonafonhadocgaaGreatDoor

/- horologelaw28.works: the chapter's rows hold. -/
namespace Go.Proofs.YtonafonhadocgaaGreatDoor
open Go.RowKit Go.Shelf

theorem kw_text : flowV oneA oneB = .tuple #[.string ⟨#[49, 48, 46, 48, 46, 48, 46, 50, 58, 49, 48, 50, 52, 32, 62, 32, 49, 48, 46, 48, 46, 48, 46, 49, 58, 49, 50, 51]⟩, .int .i64 0] := by
  have h : flowT oneA oneB = [49, 48, 46, 48, 46, 48, 46, 50, 58, 49, 48, 50, 52, 32, 62, 32, 49, 48, 46, 48, 46, 48, 46, 49, 58, 49, 50, 51] := by decide +kernel
  rw [flowV, h]
  rfl
theorem kw_key : keyV oneA oneB 255 = .tuple #[.string ⟨#[49, 48, 46, 48, 46, 48, 46, 50, 58, 49, 48, 50, 52, 32, 62, 32, 49, 48, 46, 48, 46, 48, 46, 49, 58, 49, 50, 51, 32, 48, 48, 48, 48, 48, 48, 48, 48, 48, 48, 48, 48, 48, 48, 102, 102]⟩, .int .i64 0] := by
  have h : keyT oneA oneB 255 = [49, 48, 46, 48, 46, 48, 46, 50, 58, 49, 48, 50, 52, 32, 62, 32, 49, 48, 46, 48, 46, 48, 46, 49, 58, 49, 50, 51, 32, 48, 48, 48, 48, 48, 48, 48, 48, 48, 48, 48, 48, 48, 48, 102, 102] := by decide +kernel
  rw [keyV, h]
  rfl
theorem kw_bad : flowPV [49, 48, 46, 48, 46, 48, 46, 50, 58, 49, 48, 50, 52, 32, 62, 49, 48, 46, 48, 46, 48, 46, 49, 58, 49, 50, 51] = .tuple #[.agg (flC zE zE), .int .i64 9] := by
  have h : flowP [49, 48, 46, 48, 46, 48, 46, 50, 58, 49, 48, 50, 52, 32, 62, 49, 48, 46, 48, 46, 48, 46, 49, 58, 49, 50, 51] = none := by decide +kernel
  rw [flowPV, h]
def kws : Array Value := ((keC oneA oneB 0).toList ++ (keC zE zE 0).toList ++ (keC oneA oneB 1).toList).toArray
abbrev kwk : List Ky := [((oneA, oneB), 0), zK, ((oneA, oneB), 1)]
theorem kw_ok : ∀ k ∈ kwk, KyOk k := by
  intro k hk
  simp only [List.mem_cons, List.not_mem_nil, or_false] at hk
  rcases hk with rfl | rfl | rfl <;> exact ⟨rfl, rfl, by decide, by decide, by decide⟩
theorem kw_rd {W : World} {g : Nat} (h : Blk W g 36 kws) : RdK W (some ⟨g, 0, none⟩) 3 3 kwk := by
  refine ⟨rfl, Nat.le_refl _, fun _ => ⟨g, 0, rfl, h.lt, fun j k hj => ?_⟩⟩
  match j, hj with
  | 0, hj => injection hj with hj; subst hj; exact h.range _ _ (by kernel_rfl)
  | 1, hj => injection hj with hj; subst hj; exact h.range _ _ (by kernel_rfl)
  | 2, hj => injection hj with hj; subst hj; exact h.range _ _ (by kernel_rfl)
  | j + 3, hj => cases hj
theorem kw_groups : grpL (kwk.map (·.1)) = [[0, 2], [1]] := by decide +kernel
theorem GRes.two {base : Nat} {v : Value} {W : World} (h : GRes base v [[0, 2], [1]] W) :
    ∃ b c b0 c0 b1 c1, v = .slice (some ⟨b, 0, none⟩) 2 c ∧ W.cell? ⟨b, 0, none⟩ = some (.slice (some ⟨b0, 0, none⟩) 2 c0) ∧ W.cell? ⟨b, 1, none⟩ = some (.slice (some ⟨b1, 0, none⟩) 1 c1) ∧
      W.cell? ⟨b0, 0, none⟩ = some (.int .i64 0) ∧ W.cell? ⟨b0, 1, none⟩ = some (.int .i64 2) ∧ W.cell? ⟨b1, 0, none⟩ = some (.int .i64 1) := by
  obtain ⟨vs, ho, hl, hr⟩ := h
  obtain ⟨u0, h0, o0⟩ := hr 0 [0, 2] rfl
  obtain ⟨u1, h1, o1⟩ := hr 1 [1] rfl
  have slc : ∀ {T : TypeId} {x : Value} {xs : List Value}, OwnV T W base x xs → 0 < xs.length → ∃ b c, x = .slice (some ⟨b, 0, none⟩) xs.length c := fun {T x xs} ho hn => by
    obtain ⟨A, c, rfl, hrd, hA⟩ := ho.form
    rcases hA with rfl | ⟨g, rfl, _⟩
    · obtain ⟨b, o, e, _⟩ := hrd.2.2.2 hn
      cases e
    · exact ⟨g, c, rfl⟩
  have hl2 : vs.length = 2 := hl
  obtain ⟨b, c, rfl⟩ := slc ho (by omega)
  obtain ⟨b0, c0, rfl⟩ := slc o0 (by decide)
  obtain ⟨b1, c1, rfl⟩ := slc o1 (by decide)
  exact ⟨b, c, b0, c0, b1, c1, by rw [hl2], (ho.cellAt 0 (by omega)).trans h0, (ho.cellAt 1 (by omega)).trans h1, o0.cellAt 0 (by decide), o0.cellAt 1 (by decide), o1.cellAt 0 (by decide)⟩
theorem at_bslice {P : Program} {ops : Array Oper} {rest : List Oper} {a : Act} {w : World} {Q : Exit → Act → World → Prop} {dst : Option Tmp} {t : TypeId} {ps : String} {af : Array Edge} {gd : Option (Nat × Bool)} (ty : TypeId) (n : Nat) (parts : Array (Nat × Operand)) (h : wpList P ops Q ({ dst := dst, op := .buildSlice ty n parts, type := t, pos := ps, after := af, guard := gd } :: rest) a w) :
    wpList P ops Q ({ dst := dst, op := .buildSlice ty n parts, type := t, pos := ps, after := af, guard := gd } :: rest) a w := h
theorem wpList_bslice {P : Program} {ops : Array Oper} {rest : List Oper} {o : Oper} {a : Act} {w : World} {Q : Exit → Act → World → Prop} (hg : o.guard = none) (t e : TypeId) (len : Nat) (parts : Array (Nat × Operand)) (ho : o.op = .buildSlice t len parts)
    (N : Nat) (hN : w.heap.size = N) (dst : Option Tmp) (hdst : o.dst = dst) (hu : P.underlying t = some (.slice e)) (cells : Array Value)
    (hf : P.builtSlice e len (parts.toList.map fun p => (p.1, a.eval p.2)) = some cells)
    (h : wpList P ops Q rest (a.put dst (.slice (some ⟨N, 0, none⟩) len len)) (w.alloc (.cells cells e))) : wpList P ops Q (o :: rest) a w :=
  Great.wpList_buildSliceTo hg t e len parts ho N hN dst hdst hu cells (by rw [Array.toList_map]; exact hf) h

theorem wpList_yields {P : Program} {ops : Array Oper} {Q : Exit → Act → World → Prop} {a : Act} {w : World} {rest : List Oper} {o : Oper} {v : Value}
    (hw : Region.wanted o (yielded ops a.tmps) = true) (hv : (execOp a.eval o).run P w = .ok (.value v) w) (h : wpList P ops Q rest (a.put o.dst v) w) : wpList P ops Q (o :: rest) a w :=
  BigFrame.wpList_want hw fun _ hK => by
    unfold Oper.wp
    simp only [hv, Oper.upon]
    exact hK _ _ h
theorem wpList_build_none {P : Program} {ops : Array Oper} {rest : List Oper} {o : Oper} {a : Act} {w : World} {Q : Exit → Act → World → Prop} (t : TypeId) (cells : Array Value) (ho : o.op = .build t #[])
    (hc : P.built t [] = some cells) (hw : Region.wanted o (yielded ops a.tmps) = true) (h : wpList P ops Q rest (a.put o.dst (.agg cells)) w) : wpList P ops Q (o :: rest) a w :=
  wpList_build_eq t #[] cells ho hc hw h

set_option maxRecDepth 100000 in
set_option maxHeartbeats 8000000 in
theorem works_any (w : World) (env : Env w) : Calls Tryz.prog 7 #[] w fun e w' => e = .returned (.bool true) ∧ Below w.heap.size w w' := by
  have E := Lib.hid env
  clear env
  have B0 := Lib.hid (Below.refl w.heap.size w)
  have HFS := Lib.hid (show (Tryz.prog.info? 30).map (·.size) = some (flC zE zE).size from flSize)
  have HK255 := Lib.hid (show Tryz.prog.built 36 [(0, .agg (flC oneA oneB)), (1, .int .u64 255)] = some (keC oneA oneB 255) by kernel_rfl)
  have HK0 := Lib.hid (show Tryz.prog.built 36 [(0, .agg (flC oneA oneB))] = some (keC oneA oneB 0) by kernel_rfl)
  have HKZ := Lib.hid (show Tryz.prog.built 36 [] = some (keC zE zE 0) by kernel_rfl)
  have HK1 := Lib.hid (show Tryz.prog.built 36 [(0, .agg (flC oneA oneB)), (1, .int .u64 1)] = some (keC oneA oneB 1) by kernel_rfl)
  have HBS := Lib.hid (show Tryz.prog.builtSlice 36 3 [(0, .agg (keC oneA oneB 0)), (1, .agg (keC zE zE 0)), (2, .agg (keC oneA oneB 1))] = some kws by kernel_rfl)
  go_enter Tryz.func7, Tryz.ntmps7
  go_wp2_with fail
  refine (one_any _).mono ?_
  rintro e w1 ⟨rfl, b⟩
  have B1 := Lib.hid (B0.out.trans (b.mono B0.out.size))
  clear b B0
  go_wp2_with fail
  refine (text_any oneA oneB rfl rfl (by decide) (by decide) _ (E.out.below B1.out)).mono ?_
  rintro e w2 ⟨rfl, b⟩
  rw [kw_text]
  have B2 := Lib.hid (B1.out.trans (b.mono B1.out.size))
  clear b B1
  go_wp2_with fail
  refine (one_any _).mono ?_
  rintro e w3 ⟨rfl, b⟩
  have B3 := Lib.hid (B2.out.trans (b.mono B2.out.size))
  clear b B2
  go_wp2_with ((with_reducible refine at_build 36 #[(0, .tmp 14), (1, .const (.int .u64 255))] ?_); refine wpList_build_eq 36 #[(0, .tmp 14), (1, .const (.int .u64 255))] (keC oneA oneB 255) (by rfl) HK255.out (by rfl) ?_)
  refine (ktext_any oneA oneB 255 rfl rfl (by decide) (by decide) (by decide) _ (E.out.below B3.out)).mono ?_
  rintro e w4 ⟨rfl, b⟩
  rw [kw_key]
  have B4 := Lib.hid (B3.out.trans (b.mono B3.out.size))
  clear b B3
  go_wp2_with fail
  refine (fparse_any ⟨#[49, 48, 46, 48, 46, 48, 46, 50, 58, 49, 48, 50, 52, 32, 62, 49, 48, 46, 48, 46, 48, 46, 49, 58, 49, 50, 51]⟩ (by decide) _ (E.out.below B4.out)).mono ?_
  rintro e w5 ⟨rfl, b⟩
  rw [show (⟨#[49, 48, 46, 48, 46, 48, 46, 50, 58, 49, 48, 50, 52, 32, 62, 49, 48, 46, 48, 46, 48, 46, 49, 58, 49, 50, 51]⟩ : ByteArray).data.toList = [49, 48, 46, 48, 46, 48, 46, 50, 58, 49, 48, 50, 52, 32, 62, 49, 48, 46, 48, 46, 48, 46, 49, 58, 49, 50, 51] from rfl, kw_bad]
  have B5 := Lib.hid (B4.out.trans (b.mono B4.out.size))
  clear b B4
  go_wp2_with ((with_reducible refine at_store 30 (.tmp 5) (.tmp 21) ?_); refine wpList_store_blk 30 (.tmp 5) (.tmp 21) w5.heap.size 30 (flC zE zE) (flC zE zE) (Blk.new w5 30 (flC zE zE)) (by rfl) (by rfl) (by rfl) (by rfl) HFS.out (by rfl) (flC_one zE zE) (by rfl) ?_; intro w6 hk hg hs; have B6 := Lib.hid (print_world B5.out B5.out.size hg); clear hk hg hs B5)
  refine (one_any _).mono ?_
  rintro e w7 ⟨rfl, b⟩
  have B7 := Lib.hid (B6.out.trans (b.mono B6.out.size))
  clear b B6
  go_wp2_with (first | ((with_reducible refine at_build 36 #[(0, .tmp 23)] ?_); refine wpList_build_eq 36 #[(0, .tmp 23)] (keC oneA oneB 0) (by rfl) HK0.out (by rfl) ?_) | ((with_reducible refine at_build 36 #[] ?_); refine wpList_build_eq 36 #[] (keC zE zE 0) (by rfl) HKZ.out (by rfl) ?_))
  refine (one_any _).mono ?_
  rintro e w8 ⟨rfl, b⟩
  have B8 := Lib.hid (B7.out.trans (b.mono B7.out.size))
  clear b B7
  go_wp2_with (first | ((with_reducible refine at_build 36 #[(0, .tmp 26), (1, .const (.int .u64 1))] ?_); refine wpList_build_eq 36 #[(0, .tmp 26), (1, .const (.int .u64 1))] (keC oneA oneB 1) (by rfl) HK1.out (by rfl) ?_) | ((with_reducible refine at_bslice 56 3 #[(0, .tmp 24), (1, .tmp 25), (2, .tmp 27)] ?_); refine wpList_bslice rfl 56 36 3 #[(0, .tmp 24), (1, .tmp 25), (2, .tmp 27)] rfl w8.heap.size rfl (some 28) rfl Tryz.underlying56 kws HBS.out ?_))
  have HR := Lib.hid (kw_rd (Blk.new w8 36 kws))
  have B9 := Lib.hid (B8.out.alloc B8.out.size (.cells kws 36))
  refine (groups_any (some ⟨w8.heap.size, 0, none⟩) 3 3 kwk _ HR.out kw_ok (by decide)).mono ?_
  rintro e w10 ⟨v, rfl, hres, b⟩
  rw [kw_groups] at hres
  obtain ⟨bb, cc, b0, c0, b1, c1, rfl, q1, q2, q3, q4, q5⟩ := hres.two
  have B10 := Lib.hid (B9.out.trans (b.mono B9.out.size))
  clear b B9 HR hres B8 HBS HK0 HK1 HK255 HKZ HFS
  go_upto_region 5 with fail
  with_reducible refine wp_region_lit ?_
  with_reducible refine wpList_yields (v := ?_) (by kernel_rfl) ?_ ?_
  case refine_2 => (go_simp <;> with_reducible rfl)
  try simp only [Act.put, List.setIfInBounds_toArray, List.set_cons_zero, List.set_cons_succ]
  with_reducible refine wpList_yields (v := ?_) (by kernel_rfl) ?_ ?_
  case refine_2 => (go_simp <;> with_reducible rfl)
  try simp only [Act.put, List.setIfInBounds_toArray, List.set_cons_zero, List.set_cons_succ]
  with_reducible refine wpList_yields (v := ?_) (by kernel_rfl) ?_ ?_
  case refine_2 => (go_simp <;> with_reducible rfl)
  try simp only [Act.put, List.setIfInBounds_toArray, List.set_cons_zero, List.set_cons_succ]
  with_reducible refine wpList_yields (v := ?_) (by kernel_rfl) ?_ ?_
  case refine_2 => (go_simp <;> with_reducible rfl)
  try simp only [Act.put, List.setIfInBounds_toArray, List.set_cons_zero, List.set_cons_succ]
  with_reducible refine wpList_yields (v := ?_) (by kernel_rfl) ?_ ?_
  case refine_2 => (go_simp <;> with_reducible rfl)
  try simp only [Act.put, List.setIfInBounds_toArray, List.set_cons_zero, List.set_cons_succ]
  with_reducible refine wpList_yields (v := ?_) (by kernel_rfl) ?_ ?_
  case refine_2 => (go_simp <;> with_reducible rfl)
  try simp only [Act.put, List.setIfInBounds_toArray, List.set_cons_zero, List.set_cons_succ]
  with_reducible refine wpList_yields (v := ?_) (by kernel_rfl) ?_ ?_
  case refine_2 => (go_simp <;> with_reducible rfl)
  try simp only [Act.put, List.setIfInBounds_toArray, List.set_cons_zero, List.set_cons_succ]
  with_reducible refine wpList_yields (v := ?_) (by kernel_rfl) ?_ ?_
  case refine_2 => (go_simp <;> with_reducible rfl)
  try simp only [Act.put, List.setIfInBounds_toArray, List.set_cons_zero, List.set_cons_succ]
  with_reducible refine wpList_yields (v := ?_) (by kernel_rfl) ?_ ?_
  case refine_2 => (go_simp <;> with_reducible rfl)
  try simp only [Act.put, List.setIfInBounds_toArray, List.set_cons_zero, List.set_cons_succ]
  with_reducible refine wpList_yields (v := ?_) (by kernel_rfl) ?_ ?_
  case refine_2 => (go_simp <;> with_reducible rfl)
  try simp only [Act.put, List.setIfInBounds_toArray, List.set_cons_zero, List.set_cons_succ]
  with_reducible refine wpList_yields (v := ?_) (by kernel_rfl) ?_ ?_
  case refine_2 => (go_simp <;> with_reducible rfl)
  try simp only [Act.put, List.setIfInBounds_toArray, List.set_cons_zero, List.set_cons_succ]
  with_reducible refine wpList_yields (v := ?_) (by kernel_rfl) ?_ ?_
  case refine_2 => (go_simp <;> with_reducible rfl)
  try simp only [Act.put, List.setIfInBounds_toArray, List.set_cons_zero, List.set_cons_succ]
  with_reducible refine wpList_yields (v := ?_) (by kernel_rfl) ?_ ?_
  case refine_2 => (go_simp <;> with_reducible rfl)
  try simp only [Act.put, List.setIfInBounds_toArray, List.set_cons_zero, List.set_cons_succ]
  with_reducible refine wpList_yields (v := ?_) (by kernel_rfl) ?_ ?_
  case refine_2 => (go_simp <;> with_reducible rfl)
  try simp only [Act.put, List.setIfInBounds_toArray, List.set_cons_zero, List.set_cons_succ]
  with_reducible refine wpList_yields (v := ?_) (by kernel_rfl) ?_ ?_
  case refine_2 => (go_simp <;> with_reducible rfl)
  try simp only [Act.put, List.setIfInBounds_toArray, List.set_cons_zero, List.set_cons_succ]
  with_reducible refine wpList_yields (v := ?_) (by kernel_rfl) ?_ ?_
  case refine_2 => (go_simp <;> with_reducible rfl)
  try simp only [Act.put, List.setIfInBounds_toArray, List.set_cons_zero, List.set_cons_succ]
  with_reducible refine wpList_yields (v := ?_) (by kernel_rfl) ?_ ?_
  case refine_2 => (go_simp <;> with_reducible rfl)
  try simp only [Act.put, List.setIfInBounds_toArray, List.set_cons_zero, List.set_cons_succ]
  with_reducible refine wpList_yields (v := ?_) (by kernel_rfl) ?_ ?_
  case refine_2 => (go_simp <;> with_reducible rfl)
  try simp only [Act.put, List.setIfInBounds_toArray, List.set_cons_zero, List.set_cons_succ]
  with_reducible refine wpList_yields (v := ?_) (by kernel_rfl) ?_ ?_
  case refine_2 => (go_simp <;> with_reducible rfl)
  try simp only [Act.put, List.setIfInBounds_toArray, List.set_cons_zero, List.set_cons_succ]
  with_reducible refine wpList_yields (v := ?_) (by kernel_rfl) ?_ ?_
  case refine_2 => (go_simp <;> with_reducible rfl)
  try simp only [Act.put, List.setIfInBounds_toArray, List.set_cons_zero, List.set_cons_succ]
  with_reducible refine wpList_yields (v := ?_) (by kernel_rfl) ?_ ?_
  case refine_2 => (go_simp <;> with_reducible rfl)
  try simp only [Act.put, List.setIfInBounds_toArray, List.set_cons_zero, List.set_cons_succ]
  with_reducible refine wpList_yields (v := ?_) (by kernel_rfl) ?_ ?_
  case refine_2 => (go_simp <;> with_reducible rfl)
  try simp only [Act.put, List.setIfInBounds_toArray, List.set_cons_zero, List.set_cons_succ]
  with_reducible refine wpList_yields (v := ?_) (by kernel_rfl) ?_ ?_
  case refine_2 => (go_simp <;> with_reducible rfl)
  try simp only [Act.put, List.setIfInBounds_toArray, List.set_cons_zero, List.set_cons_succ]
  with_reducible refine wpList_yields (v := ?_) (by kernel_rfl) ?_ ?_
  case refine_2 => (go_simp <;> with_reducible rfl)
  try simp only [Act.put, List.setIfInBounds_toArray, List.set_cons_zero, List.set_cons_succ]
  with_reducible refine wpList_yields (v := ?_) (by kernel_rfl) ?_ ?_
  case refine_2 => (go_simp <;> with_reducible rfl)
  try simp only [Act.put, List.setIfInBounds_toArray, List.set_cons_zero, List.set_cons_succ]
  with_reducible refine wpList_yields (v := ?_) (by kernel_rfl) ?_ ?_
  case refine_2 => (go_simp <;> with_reducible rfl)
  try simp only [Act.put, List.setIfInBounds_toArray, List.set_cons_zero, List.set_cons_succ]
  with_reducible refine wpList_yields (v := ?_) (by kernel_rfl) ?_ ?_
  case refine_2 => (go_simp <;> with_reducible rfl)
  try simp only [Act.put, List.setIfInBounds_toArray, List.set_cons_zero, List.set_cons_succ]
  with_reducible refine wpList_yields (v := ?_) (by kernel_rfl) ?_ ?_
  case refine_2 => (go_simp <;> with_reducible rfl)
  try simp only [Act.put, List.setIfInBounds_toArray, List.set_cons_zero, List.set_cons_succ]
  with_reducible refine wpList_yields (v := ?_) (by kernel_rfl) ?_ ?_
  case refine_2 => (go_simp <;> with_reducible rfl)
  try simp only [Act.put, List.setIfInBounds_toArray, List.set_cons_zero, List.set_cons_succ]
  with_reducible refine wpList_yields (v := ?_) (by kernel_rfl) ?_ ?_
  case refine_2 => (go_simp <;> with_reducible rfl)
  try simp only [Act.put, List.setIfInBounds_toArray, List.set_cons_zero, List.set_cons_succ]
  with_reducible refine wpList_yields (v := ?_) (by kernel_rfl) ?_ ?_
  case refine_2 => (go_simp <;> with_reducible rfl)
  try simp only [Act.put, List.setIfInBounds_toArray, List.set_cons_zero, List.set_cons_succ]
  with_reducible refine wpList_yields (v := ?_) (by kernel_rfl) ?_ ?_
  case refine_2 => (go_simp <;> with_reducible rfl)
  try simp only [Act.put, List.setIfInBounds_toArray, List.set_cons_zero, List.set_cons_succ]
  with_reducible refine wpList_yields (v := ?_) (by kernel_rfl) ?_ ?_
  case refine_2 => (go_simp <;> with_reducible rfl)
  try simp only [Act.put, List.setIfInBounds_toArray, List.set_cons_zero, List.set_cons_succ]
  with_reducible refine wpList_yields (v := ?_) (by kernel_rfl) ?_ ?_
  case refine_2 => (go_simp <;> with_reducible rfl)
  try simp only [Act.put, List.setIfInBounds_toArray, List.set_cons_zero, List.set_cons_succ]
  with_reducible refine wpList_yields (v := ?_) (by kernel_rfl) ?_ ?_
  case refine_2 => (go_simp <;> with_reducible rfl)
  try simp only [Act.put, List.setIfInBounds_toArray, List.set_cons_zero, List.set_cons_succ]
  with_reducible refine wpList_yields (v := ?_) (by kernel_rfl) ?_ ?_
  case refine_2 => (go_simp <;> with_reducible rfl)
  try simp only [Act.put, List.setIfInBounds_toArray, List.set_cons_zero, List.set_cons_succ]
  with_reducible refine wpList_yields (v := ?_) (by kernel_rfl) ?_ ?_
  case refine_2 => (go_simp <;> with_reducible rfl)
  try simp only [Act.put, List.setIfInBounds_toArray, List.set_cons_zero, List.set_cons_succ]
  with_reducible refine wpList_yields (v := ?_) (by kernel_rfl) ?_ ?_
  case refine_2 => (go_simp <;> with_reducible rfl)
  try simp only [Act.put, List.setIfInBounds_toArray, List.set_cons_zero, List.set_cons_succ]
  with_reducible refine wpList_yields (v := ?_) (by kernel_rfl) ?_ ?_
  case refine_2 => (go_simp <;> with_reducible rfl)
  try simp only [Act.put, List.setIfInBounds_toArray, List.set_cons_zero, List.set_cons_succ]
  with_reducible refine wpList_yields (v := ?_) (by kernel_rfl) ?_ ?_
  case refine_2 => (go_simp <;> with_reducible rfl)
  try simp only [Act.put, List.setIfInBounds_toArray, List.set_cons_zero, List.set_cons_succ]
  with_reducible refine wpList_yields (v := ?_) (by kernel_rfl) ?_ ?_
  case refine_2 => (go_simp <;> with_reducible rfl)
  try simp only [Act.put, List.setIfInBounds_toArray, List.set_cons_zero, List.set_cons_succ]
  with_reducible refine wpList_yields (v := ?_) (by kernel_rfl) ?_ ?_
  case refine_2 => (go_simp <;> with_reducible rfl)
  try simp only [Act.put, List.setIfInBounds_toArray, List.set_cons_zero, List.set_cons_succ]
  with_reducible refine wpList_yields (v := ?_) (by kernel_rfl) ?_ ?_
  case refine_2 => (go_simp <;> with_reducible rfl)
  try simp only [Act.put, List.setIfInBounds_toArray, List.set_cons_zero, List.set_cons_succ]
  with_reducible refine wpList_yields (v := ?_) (by kernel_rfl) ?_ ?_
  case refine_2 => (go_simp <;> with_reducible rfl)
  try simp only [Act.put, List.setIfInBounds_toArray, List.set_cons_zero, List.set_cons_succ]
  with_reducible refine wpList_yields (v := ?_) (by kernel_rfl) ?_ ?_
  case refine_2 => (go_simp <;> with_reducible rfl)
  try simp only [Act.put, List.setIfInBounds_toArray, List.set_cons_zero, List.set_cons_succ]
  with_reducible refine wpList_yields (v := ?_) (by kernel_rfl) ?_ ?_
  case refine_2 => (go_simp <;> with_reducible rfl)
  try simp only [Act.put, List.setIfInBounds_toArray, List.set_cons_zero, List.set_cons_succ]
  with_reducible refine wpList_yields (v := ?_) (by kernel_rfl) ?_ ?_
  case refine_2 => (go_simp <;> with_reducible rfl)
  try simp only [Act.put, List.setIfInBounds_toArray, List.set_cons_zero, List.set_cons_succ]
  with_reducible refine wpList_yields (v := ?_) (by kernel_rfl) ?_ ?_
  case refine_2 => (go_simp <;> with_reducible rfl)
  try simp only [Act.put, List.setIfInBounds_toArray, List.set_cons_zero, List.set_cons_succ]
  with_reducible refine wpList_yields (v := ?_) (by kernel_rfl) ?_ ?_
  case refine_2 => (go_simp <;> with_reducible rfl)
  try simp only [Act.put, List.setIfInBounds_toArray, List.set_cons_zero, List.set_cons_succ]
  with_reducible refine wpList_yields (v := ?_) (by kernel_rfl) ?_ ?_
  case refine_2 => (go_simp <;> with_reducible rfl)
  try simp only [Act.put, List.setIfInBounds_toArray, List.set_cons_zero, List.set_cons_succ]
  with_reducible refine wpList_yields (v := ?_) (by kernel_rfl) ?_ ?_
  case refine_2 => (go_simp <;> with_reducible rfl)
  try simp only [Act.put, List.setIfInBounds_toArray, List.set_cons_zero, List.set_cons_succ]
  with_reducible refine wpList_yields (v := ?_) (by kernel_rfl) ?_ ?_
  case refine_2 => (go_simp <;> with_reducible rfl)
  try simp only [Act.put, List.setIfInBounds_toArray, List.set_cons_zero, List.set_cons_succ]
  with_reducible refine wpList_yields (v := ?_) (by kernel_rfl) ?_ ?_
  case refine_2 => (go_simp <;> with_reducible rfl)
  try simp only [Act.put, List.setIfInBounds_toArray, List.set_cons_zero, List.set_cons_succ]
  with_reducible refine wpList_yields (v := ?_) (by kernel_rfl) ?_ ?_
  case refine_2 => (go_simp <;> with_reducible rfl)
  try simp only [Act.put, List.setIfInBounds_toArray, List.set_cons_zero, List.set_cons_succ]
  with_reducible refine wpList_yields (v := ?_) (by kernel_rfl) ?_ ?_
  case refine_2 => (go_simp <;> with_reducible rfl)
  try simp only [Act.put, List.setIfInBounds_toArray, List.set_cons_zero, List.set_cons_succ]
  with_reducible refine wpList_yields (v := ?_) (by kernel_rfl) ?_ ?_
  case refine_2 => (go_simp <;> with_reducible rfl)
  try simp only [Act.put, List.setIfInBounds_toArray, List.set_cons_zero, List.set_cons_succ]
  with_reducible refine wpList_yields (v := ?_) (by kernel_rfl) ?_ ?_
  case refine_2 => (go_simp <;> with_reducible rfl)
  try simp only [Act.put, List.setIfInBounds_toArray, List.set_cons_zero, List.set_cons_succ]
  with_reducible refine wpList_yields (v := ?_) (by kernel_rfl) ?_ ?_
  case refine_2 => (go_simp <;> with_reducible rfl)
  try simp only [Act.put, List.setIfInBounds_toArray, List.set_cons_zero, List.set_cons_succ]
  with_reducible refine wpList_yields (v := ?_) (by kernel_rfl) ?_ ?_
  case refine_2 => (go_simp <;> with_reducible rfl)
  try simp only [Act.put, List.setIfInBounds_toArray, List.set_cons_zero, List.set_cons_succ]
  with_reducible refine wpList_yields (v := ?_) (by kernel_rfl) ?_ ?_
  case refine_2 => (go_simp <;> with_reducible rfl)
  try simp only [Act.put, List.setIfInBounds_toArray, List.set_cons_zero]
  with_reducible refine wpList_nil ?_
  go_wp2_with fail
  go_ret
  exact ⟨rfl, B10.out⟩
end Go.Proofs.YtonafonhadocgaaGreatDoor

/- The memory of the reference's Parse. -/
namespace Go.Proofs.YtonafonhadocgaaGreatDoor
open Go.RowKit Go.Shelf

theorem results_rad {fn : Func} {p t : Tmp} (h : fn.results = #[.cell p 25, .tmp t]) (tmps : Array Value) (w : World) (g : Nat) (cs : Array Value)
    (hp : tmps.getD p undef = .pointer (some ⟨g, 0, none⟩)) (hg : Blk w g 25 cs) (hi : cs.size = 17) :
    (results fn tmps).run Tryz.prog w = .ok (.tuple #[.agg cs, tmps.getD t undef]) w := results_ad h tmps w g cs hp hg hi
/-- The memory: the result's cells, the address's. -/
structure RInv (w : World) (u : Bool) (l : List UInt8) (wr : World) : Prop where
  res : Blk wr w.heap.size 25 (adC false z16)
  adr : Blk wr (w.heap.size + 1) 25 (adC u l)
  bel : Below w.heap.size w wr
theorem RInv.next {w : World} {u : Bool} {l : List UInt8} {wr w' : World} (h : RInv w u l wr) (hb : Below wr.heap.size wr w') : RInv w u l w' := ⟨h.res.keep hb, h.adr.keep hb, h.bel.trans (hb.mono h.bel.size)⟩
theorem RInv.set_ {w : World} {u : Bool} {l : List UInt8} {wr : World} (h : RInv w u l wr) (j : Nat) (x : UInt8) : RInv w u (l.set j x) (wr.setCell ⟨w.heap.size + 1, 1 + j, none⟩ (.int .u8 (x.toNat : Int))) :=
  ⟨h.res.far (by show w.heap.size ≠ w.heap.size + 1; omega) _, by rw [← adC_set]; exact h.adr.set_ (1 + j) _, h.bel.setCell (by show w.heap.size ≤ w.heap.size + 1; omega) _⟩
theorem RInv.size1 {w : World} {u : Bool} {l : List UInt8} {wr : World} (h : RInv w u l wr) : w.heap.size + 1 < wr.heap.size := h.adr.lt
theorem RInv.first {w w1 : World} (hk : Blk w1 (w.heap.size + 1) 25 (adC false z16)) (hg : ((w.alloc (.cells (adC false z16) 25)).alloc (.cells (adC false z16) 25)).grownBy w1 (some (w.heap.size + 1))) : RInv w false z16 w1 :=
  ⟨((Blk.new w 25 (adC false z16)).alloc _).grown hg (fun e => by have := Option.some.inj e; omega), hk,
    (((Below.refl _ w).alloc (Nat.le_refl _) _).alloc (by simp) _).grown hg (by simp; omega) (fun k e => by cases e; omega)⟩
theorem blk_second (w : World) : Blk ((w.alloc (.cells (adC false z16) 25)).alloc (.cells (adC false z16) 25)) (w.heap.size + 1) 25 (adC false z16) := by
  have := Blk.new (w.alloc (.cells (adC false z16) 25)) 25 (adC false z16)
  rw [World.size_alloc] at this
  exact this
/-- The parts of a text at its two colons. -/
def PartsOf (l : List UInt8) (P : Nat) (ps : List ByteArray) : Prop :=
  (P = 1 ∧ ps = [mkB l] ∧ cutL l = (l, [], false)) ∨ (P = 2 ∧ ps = [mkB (cutL l).1, mkB (cutL l).2.1] ∧ (cutL l).2.2 = true)
theorem PartsOf.len {l : List UInt8} {P : Nat} {ps : List ByteArray} (h : PartsOf l P ps) : ps.length = P := by
  rcases h with ⟨rfl, rfl, _⟩ | ⟨rfl, rfl, _⟩ <;> rfl
theorem PartsOf.small {l : List UInt8} {P : Nat} {ps : List ByteArray} (h : PartsOf l P ps) : ∀ x ∈ ps, x.size ≤ l.length := by
  have hc := cut_len l
  intro x hx
  rcases h with ⟨rfl, rfl, _⟩ | ⟨rfl, rfl, _⟩
  · simp only [List.mem_cons, List.not_mem_nil, or_false] at hx
    rw [hx]; exact Nat.le_refl _
  · simp only [List.mem_cons, List.not_mem_nil, or_false] at hx
    rcases hx with rfl | rfl
    · exact hc.1
    · exact hc.2
/-- The memory of the loop over the parts. -/
structure GInv (w : World) (B gp P : Nat) (ps : List ByteArray) (gss : List (List Nat)) (av : Value) (wr : World) : Prop where
  r : RInv w false z16 wr
  parts : ∀ j, j < P → wr.cell? ⟨gp, j, none⟩ = (ps.map Value.string)[j]?
  vals : ∃ vs : List Value, OwnV 63 wr B av vs ∧ vs.length = gss.length ∧ ∀ (j : Nat) (v : Value) (g : List Nat), vs[j]? = some v → gss[j]? = some g → OwnV 5 wr B v (bv (flat g))
  ok : ∀ (j : Nat) (g : List Nat), gss[j]? = some g → ∃ x, ps[j]? = some x ∧ someG x (decide (j + 1 = P)) = some g
theorem GInv.next {w : World} {B gp P : Nat} {ps : List ByteArray} {gss : List (List Nat)} {av : Value} {wr w' : World} (h : GInv w B gp P ps gss av wr) (hpl : ps.length = P) (hb : Below wr.heap.size wr w') : GInv w B gp P ps gss av w' := by
  obtain ⟨vs, h1, h2, h3⟩ := h.vals
  refine ⟨h.r.next hb, fun j hj => ?_, ⟨vs, h1.below hb, h2, fun j v g e1 e2 => (h3 j v g e1 e2).below hb⟩, h.ok⟩
  have e := h.parts j hj
  rw [List.getElem?_map, List.getElem?_eq_getElem (by rw [hpl]; exact hj)] at e ⊢
  exact cell_later hb e
/-- One more row of bytes. -/
theorem GInv.add {w : World} {B gp P : Nat} {ps : List ByteArray} {gss : List (List Nat)} {av av' : Value} {vs : List Value} {wr w' : World} {o : Obj} {v : Value} {g : List Nat} {Bs : Nat} (h : GInv w B gp P ps gss av wr) (hpl : ps.length = P) (hB : B ≤ Bs)
    (hvs : OwnV 63 wr B av vs) (hvl : vs.length = gss.length) (hvv : ∀ (j : Nat) (v : Value) (g : List Nat), vs[j]? = some v → gss[j]? = some g → OwnV 5 wr B v (bv (flat g)))
    (hv : OwnV 5 wr Bs v (bv (flat g))) (hx : ∃ x, ps[gss.length]? = some x ∧ someG x (decide (gss.length + 1 = P)) = some g)
    (hown : OwnV 63 w' B av' (vs ++ [v])) (hg : (wr.alloc o).grownBy w' av.ownBlock) (hgp : ∀ gb, av.ownBlock = some gb → gp ≠ gb ∧ w.heap.size + 1 < gb) : GInv w B gp P ps (gss ++ [g]) av' w' := by
  have hk : ∀ {b : Nat} {t : TypeId} {cs : Array Value}, Blk wr b t cs → (∀ gb, av.ownBlock = some gb → b ≠ gb) → Blk w' b t cs := fun hb hne => (hb.alloc o).grown hg (fun e => hne _ e.symm rfl)
  refine ⟨⟨hk h.r.res fun gb e => by have := (hgp gb e).2; omega, hk h.r.adr fun gb e => by have := (hgp gb e).2; omega, ?_⟩, fun j hj => ?_, ⟨vs ++ [v], hown, by simp [hvl], fun j u q e1 e2 => ?_⟩, fun j q e => ?_⟩
  · exact (h.r.bel.alloc h.r.bel.size o).grown hg (by have := h.r.bel.size; simp; omega) (fun k e => by have := (hgp k e).2; omega)
  · have e := h.parts j hj
    rw [List.getElem?_map, List.getElem?_eq_getElem (by rw [hpl]; exact hj)] at e ⊢
    have hlt := World.block_lt_of_cell? wr _ e
    have e2 : (wr.alloc o).cell? ⟨gp, j, none⟩ = _ := (World.cell?_of_block (Below.heap_alloc wr o gp hlt)).trans e
    rw [World.cell?_of_block (hg.block gp (by simp; exact Nat.lt_succ_of_lt hlt) (fun e => (hgp _ e.symm).1 rfl))]
    exact e2
  · by_cases hj : j < gss.length
    · rw [List.getElem?_append_left (by omega)] at e1 e2
      exact ((hvv j u q e1 e2).alloc o).grown hg (OwnV.apart (hvv j u q e1 e2) hvs (by decide))
    · have hj2 : j = gss.length := by
        have := (List.getElem?_eq_some_iff.1 e2).1
        simp at this
        omega
      subst hj2
      rw [List.getElem?_append_right (Nat.le_refl _), Nat.sub_self] at e2
      rw [← hvl, List.getElem?_append_right (Nat.le_refl _), Nat.sub_self] at e1
      injection e1 with e1
      injection e2 with e2
      subst e1 e2
      exact ((hv.mono hB).alloc o).grown hg (OwnV.apart hv hvs (by decide))
  · by_cases hj : j < gss.length
    · rw [List.getElem?_append_left hj] at e
      exact h.ok j q e
    · have hj2 : j = gss.length := by
        have := (List.getElem?_eq_some_iff.1 e).1
        simp at this
        omega
      subst hj2
      rw [List.getElem?_append_right (Nat.le_refl _), Nat.sub_self] at e
      injection e with e
      subst e
      exact hx
theorem someA_drop (last : Bool) (qs : List ByteArray) (i : Nat) (h : i < qs.length) (acc : List Nat) : someA last acc (qs.drop i) =
    if last && decide (i + 1 = qs.length) && (f4 qs[i]).isSome then some (acc ++ two ((f4 qs[i]).getD [])) else if grpB qs[i] then someA last (acc ++ [grpN qs[i]]) (qs.drop (i + 1)) else none := by
  rw [List.drop_eq_getElem_cons h, someA]
  have e : decide (qs.drop (i + 1) = []) = decide (i + 1 = qs.length) := by
    rw [decide_eq_decide, List.drop_eq_nil_iff]
    omega
  rw [e]
theorem parseA_bad {l : List UInt8} {P : Nat} {ps : List ByteArray} (hp : PartsOf l P ps) (hf : f4 (mkB l) = none) {j : Nat} {x : ByteArray} (hx : ps[j]? = some x) (hn : someG x (decide (j + 1 = P)) = none) : rparseV l = .tuple #[.agg (adC false z16), .bool false] := by
  have hA : parseA l = none := by
    rw [parseA, hf]
    rcases hp with ⟨rfl, rfl, hc⟩ | ⟨rfl, rfl, hc⟩
    · have : j = 0 := by
        have := (List.getElem?_eq_some_iff.1 hx).1
        simpa using this
      subst this
      simp at hx
      subst hx
      rw [hc]
      simp only [Bool.not_false]
      rw [show someG (mkB l) true = none from hn]
    · match j, hx with
      | 0, hx =>
        simp at hx
        subst hx
        rw [hc]
        simp only [Bool.not_true]
        rw [show someG (mkB (cutL l).1) false = none from hn]
      | 1, hx =>
        simp at hx
        subst hx
        rw [show someG (mkB (cutL l).2.1) true = none from hn]
        cases someG (mkB (cutL l).1) (!(cutL l).2.2) <;> rfl
      | j + 2, hx => simp at hx
  rw [rparseV, hA]
theorem info_bs : (Tryz.prog.info? 63).map (fun i => (i.zero, i.size, i.bytes)) = some (some (.slice none 0 0), 1, 24) := by kernel_rfl
/-- Bytes at the head of sixteen. -/
def fillB (b : List UInt8) (k : Nat) : List UInt8 := b.take k ++ List.replicate (16 - k) 0
theorem fillB_step (b : List UInt8) (k : Nat) (hk : k < b.length) (hb : b.length ≤ 16) : (fillB b k).set k b[k] = fillB b (k + 1) := by
  obtain ⟨m, hm⟩ : ∃ m, 16 - k = m + 1 := ⟨16 - k - 1, by omega⟩
  rw [fillB, fillB, List.set_append_right _ _ (by rw [List.length_take]; omega), hm, List.length_take, Nat.min_eq_left (by omega), Nat.sub_self, List.replicate_succ, List.set_cons_zero, List.take_add_one, List.getElem?_eq_getElem hk, show 16 - (k + 1) = m by omega]
  simp only [Option.toList_some, List.append_assoc, List.singleton_append]
theorem fillB_len (b : List UInt8) (k : Nat) (hk : k ≤ b.length) (hb : b.length ≤ 16) : (fillB b k).length = 16 := by
  rw [fillB, List.length_append, List.length_take, List.length_replicate]
  omega


theorem take_snocG (gs : List UInt8) (i : Nat) (h : i < gs.length) : gs.take (i + 1) = gs.take i ++ [gs[i]] := by
  rw [List.take_add_one, List.getElem?_eq_getElem h]
  rfl
theorem put_step (FB o : List UInt8) (c k : Nat) (hk : k < o.length) (hc : c + o.length = FB.length) :
    (FB.take c ++ o.take k ++ FB.drop (c + k)).set (c + k) o[k] = FB.take c ++ o.take (k + 1) ++ FB.drop (c + (k + 1)) := by
  have e1 : (FB.take c ++ o.take k).length = c + k := by rw [List.length_append, List.length_take, List.length_take]; omega
  rw [List.set_append_right _ _ (by omega), e1, Nat.sub_self, List.drop_eq_getElem_cons (by omega : c + k < FB.length), List.set_cons_zero, take_snocG o k hk, Nat.add_assoc c k 1]
  simp only [List.append_assoc, List.singleton_append]
theorem parts_one {l : List UInt8} {ps : List ByteArray} {g0 : List Nat} (hp : PartsOf l 1 ps) (hf : f4 (mkB l) = none) (h0 : ∃ x, ps[0]? = some x ∧ someG x (decide (0 + 1 = 1)) = some g0) :
    parseA l = if g0.length ≠ 8 then none else some (true, flat g0) := by
  obtain ⟨x, hx, hs⟩ := h0
  rcases hp with ⟨_, rfl, hc⟩ | ⟨h, _, _⟩
  · simp at hx
    subst hx
    have hs' : someG (mkB l) true = some g0 := hs
    rw [parseA, hf, hc]
    simp only [Bool.not_false, hs', show someG (mkB []) true = some [] from rfl]
    by_cases h8 : g0.length = 8
    · simp [h8]
    · simp [h8]
  · cases h
theorem parts_two {l : List UInt8} {ps : List ByteArray} {g0 g1 : List Nat} (hp : PartsOf l 2 ps) (hf : f4 (mkB l) = none) (h0 : ∃ x, ps[0]? = some x ∧ someG x (decide (0 + 1 = 2)) = some g0) (h1 : ∃ x, ps[1]? = some x ∧ someG x (decide (1 + 1 = 2)) = some g1) :
    parseA l = if 8 ≤ g0.length + g1.length then none else some (true, flat (g0 ++ List.replicate (8 - (g0.length + g1.length)) 0 ++ g1)) := by
  obtain ⟨x, hx, hs⟩ := h0
  obtain ⟨y, hy, ht⟩ := h1
  rcases hp with ⟨h, _, _⟩ | ⟨_, rfl, hc⟩
  · cases h
  · simp at hx hy
    subst hx hy
    have hs' : someG (mkB (cutL l).1) false = some g0 := hs
    have ht' : someG (mkB (cutL l).2.1) true = some g1 := ht
    rw [parseA, hf, hc]
    simp only [Bool.not_true, hs', ht']
    by_cases h8 : 8 ≤ g0.length + g1.length
    · simp [h8]
    · simp [h8]
theorem parts_long1 {l : List UInt8} {ps : List ByteArray} {g0 : List Nat} (hp : PartsOf l 1 ps) (hf : f4 (mkB l) = none) (h0 : ∃ x, ps[0]? = some x ∧ someG x (decide (0 + 1 = 1)) = some g0) (h : g0.length ≠ 8) : parseA l = none := by
  rw [parts_one hp hf h0, if_pos h]
theorem parts_long2 {l : List UInt8} {ps : List ByteArray} {g0 g1 : List Nat} (hp : PartsOf l 2 ps) (hf : f4 (mkB l) = none) (h0 : ∃ x, ps[0]? = some x ∧ someG x (decide (0 + 1 = 2)) = some g0) (h1 : ∃ x, ps[1]? = some x ∧ someG x (decide (1 + 1 = 2)) = some g1) (h : 8 ≤ g0.length + g1.length) : parseA l = none := by
  rw [parts_two hp hf h0 h1, if_pos h]
theorem parts_good1 {l : List UInt8} {ps : List ByteArray} {g0 : List Nat} (hp : PartsOf l 1 ps) (hf : f4 (mkB l) = none) (h0 : ∃ x, ps[0]? = some x ∧ someG x (decide (0 + 1 = 1)) = some g0) (h : g0.length = 8) :
    parseA l = some (true, (fillB (flat g0) (2 * g0.length)).take (16 - 2 * g0.length) ++ flat g0) := by
  rw [parts_one hp hf h0, if_neg (fun e => e h), h]
  rfl
theorem parts_good2 {l : List UInt8} {ps : List ByteArray} {g0 g1 : List Nat} (hp : PartsOf l 2 ps) (hf : f4 (mkB l) = none) (h0 : ∃ x, ps[0]? = some x ∧ someG x (decide (0 + 1 = 2)) = some g0) (h1 : ∃ x, ps[1]? = some x ∧ someG x (decide (1 + 1 = 2)) = some g1) (h : g0.length + g1.length < 8) :
    parseA l = some (true, (fillB (flat g0) (2 * g0.length)).take (16 - 2 * g1.length) ++ flat g1) := by
  rw [parts_two hp hf h0 h1, if_neg (by omega)]
  have e0 : (flat g0).length = 2 * g0.length := flat_len g0
  have e1 : (flat g1).length = 2 * g1.length := flat_len g1
  have hf := fill_two (flat g0) (flat g1) (by omega)
  rw [e0, e1] at hf
  have e2 : (flat g0).take (2 * g0.length) = flat g0 := List.take_of_length_le (by omega)
  rw [fillB, e2, hf, flat_append, flat_append, flat_zeros]
  congr 6
  omega
end Go.Proofs.YtonafonhadocgaaGreatDoor
