/- Laws and walks that the claim's last text leans on, joined: each part says above itself what it proves. -/
import Derived.Test.YtonafonhadocgaaGreatDoorQU
import Derived.MakeChecks
import Derived.Lib.LaidIn
import Derived.Lib.LaidU8T
import Derived.LaidHandle
import Derived.LaidLaws
import Derived.RowKitTokens
import Derived.Test.YtonafonhadocgaaGreatDoorQH
import Derived.Test.YtonafonhadocgaaGreatDoorQK
import Derived.Test.YtonafonhadocgaaGreatDoorQI
import Derived.Sort.Grow

/- What the row's own condition gives of the library's variables; the wrap that keeps the world's shape. -/
namespace Go.Proofs.YtonafonhadocgaaGreatDoor
open Go.ChangeShapes Go.WideShapes Go.ChangeAt Go.RowKit Go.Shelf

theorem star : "*" ++ "errors.errorString" = "*errors.errorString" := by decide
theorem row_es (u : TypeId) (h : Tryz.prog.typeName? 3 u = some "*errors.errorString") : u = 186 :=
  typeName_ptr_named (nm := "errors.errorString") (by rw [star]; kernel_rfl) (by kernel_rfl) (by decide) u (by rw [star]; exact h)

abbrev dR : String × DataW Unit := ("strconv.ErrRange", Rows.laid_strconv_ErrRange)
abbrev dS : String × DataW Unit := ("strconv.ErrSyntax", Rows.laid_strconv_ErrSyntax)
abbrev d0 : String × DataW Unit := ("math/bits.deBruijn32tab", Rows.laid_math_bits_deBruijn32tab)
abbrev d1 : String × DataW Unit := ("math/bits.deBruijn64tab", Rows.laid_math_bits_deBruijn64tab)
abbrev d2 : String × DataW Unit := ("internal/strconv.uint64pow10", Rows.laid_internal_strconv_uint64pow10)
abbrev d3 : String × DataW Unit := ("unicode/utf8.acceptRanges", Rows.laid_unicode_utf8_acceptRanges)

theorem env_of_laid {W : World} (r : List (String × DataW Unit)) (hsh : W.ShapedOpen Tryz.prog) (h : laidMet Tryz.prog (d0 :: d1 :: d2 :: d3 :: dR :: dS :: r) W) : Env W := by
  have h2 := h.tail
  have h3 := h2.tail
  have h5 := h3.tail.tail
  have h6 := h5.tail
  obtain ⟨a0, s0, hv0, -, -, -⟩ := laid_sentinel h5 lib_rng (by kernel_rfl) Tryz.underlying98 row_es Tryz.underlying186 Tryz.underlying188 rfl rfl Tryz.underlying9 (by kernel_rfl) (by kernel_rfl)
  obtain ⟨a1, s1, hv1, -, -, -⟩ := laid_sentinel h6 lib_syn (by kernel_rfl) Tryz.underlying98 row_es Tryz.underlying186 Tryz.underlying188 rfl rfl Tryz.underlying9 (by kernel_rfl) (by kernel_rfl)
  have hb : Lib.TabIs Tryz.prog W "math/bits.deBruijn64tab" .u8 (Lib.deBruijn64tab.map fun n : Nat => (n : Int)) :=
    Lib.tabIs_of_head lib_bru (by kernel_rfl) Tryz.underlying192 Tryz.underlying5 (by kernel_rfl) (by kernel_rfl) h2
  refine ⟨lays146.s1_3 W hsh, Lib.tabIs_of_head lib_pow (by kernel_rfl) Tryz.underlying181 Tryz.underlying34 (by kernel_rfl) (by kernel_rfl) h3, fun j hj => ?_, ⟨_, _, hv1⟩, ⟨_, _, hv0⟩⟩
  have := hb.cell lib_bru j (by simpa using hj)
  rw [this]
  simp [List.getD, hj]

/-- The wrap of a row that lists variables, the world's shape kept. -/
theorem returnsInHanded_and_shaped {H : Type} {enc : TypeId × Value → H} {a : Assume} {C : Checked} {os : Os} {f : FuncId} {fn : Func} {s : ChangeSpec} {conds : List PathCond} {apart fresh handsOn again : Bool} {X : World → Array Value → Prop}
    (hX : ∀ (w w' : World) (args : Array Value), w.heap = w'.heap → X w args → X w' args)
    (own : ownKnob C.prog.godebug = none) (started : os.Started) (noInit : C.prog.inits.idxOf? f = none) (hfn : C.prog.funcs[f]? = some fn)
    (witness : ∃ (w : World) (tape : Tape) (i : Input), w.os = os ∧ (w.forCall tape i).Shaped C.prog ∧ i.vars = [] ∧ Input.okWide C.prog (w.forCall tape i) .any w.heap.size f i ∧
      ((s.pre enc C.prog fn conds apart (w.forCall tape i).memory i.args ∧ X (w.forCall tape i).memory i.args) ∧ sizedMet enc C.prog fn (OpenSpec.ofChange s) apart (w.forCall tape i).memory i.args) ∧ a.holds C.prog (lone (Frame.enter C.prog f i.args .normal) [] (w.forCall tape i)))
    (contract : ∀ (W : World) (base : Nat) (args : Array Value) (ds gs : List (DataW H)) (before : List MemPlace),
      (∀ (j : Nat) t v, fn.params[j]? = some t → args[j]? = some v → Value.okWide C.prog W .any base t v) →
      DataW.Whole enc C.prog fn.params.toList s.vars apart W args.toList ds gs before →
      conds.all (PathCond.test C.prog ⟨fn.params.toList, ds, s.plain.varTypes C.prog, gs⟩) = true →
      (DataW.weightsEach C.prog (fn.params.toList ++ s.plain.varTypes C.prog) (ds ++ gs)).all (· ≤ reachBytes) = true → X W args →
      W.ShapedOpen C.prog →
      Calls C.prog f args W fun e W' => ∃ v, e = .returned v ∧ s.post enc C.prog fn apart fresh handsOn again W args v W') :
    ReturnsInHanded a C os f .any (fun w args => (s.pre enc C.prog fn conds apart w args ∧ X w args) ∧ sizedMet enc C.prog fn (OpenSpec.ofChange s) apart w args) (s.post enc C.prog fn apart fresh handsOn again) := by
  refine returnsInHanded_of_calls own started noInit witness ?_
  intro w tape i _ hsh _ hok hpre _
  obtain ⟨_, _, _, fn', hfn', _, _, _, _, hval⟩ := hok
  have e : fn' = fn := Option.some.inj (hfn'.symm.trans hfn)
  subst e
  obtain ⟨⟨⟨ds, gs, before, hw, hc⟩, hx⟩, hz⟩ := hpre
  have hw' := DataW.Whole.of_heap (w' := w.forCall tape i) (by rfl) hw
  refine (contract (w.forCall tape i) w.heap.size i.args ds gs before hval hw' hc (hz.weights hw) (hX _ _ _ (by rfl) hx) hsh).mono fun e W' ⟨v, he, hp⟩ => ?_
  subst he
  exact ChangeSpec.post_blind hp

/-! ### A world that meets the condition -/
abbrev synS : ByteArray := { data := #[105, 110, 118, 97, 108, 105, 100, 32, 115, 121, 110, 116, 97, 120] }
abbrev rngS : ByteArray := { data := #[118, 97, 108, 117, 101, 32, 111, 117, 116, 32, 111, 102, 32, 114, 97, 110, 103, 101] }
/-- So many blocks has the settled world. -/
noncomputable def low : Nat := (World.holding Tryz.prog default ⟨#[], #[], []⟩).heap.size
/-- The settled world with two blocks more, each an error's text; the variables' cells laid. -/
noncomputable def laidWorld (os : Os) : World :=
  let w0 := World.holding Tryz.prog os ⟨#[.cells #[.string synS] 188, .cells #[.string rngS] 188], #[], []⟩
  let put (h : Array Obj) (g : Nat) (cs : Array Value) : Array Obj := h.modify g fun
    | .cells _ t frozen => .cells cs t frozen
    | o => o
  let h1 := put w0.heap 6 (Lib.firstTab.map fun z => Value.int .u8 z).toArray
  let h2 := put h1 7 ((List.range 16).flatMap fun i => [Value.int .u8 (Lib.accLo i), Value.int .u8 (Lib.accHi i)]).toArray
  let h3 := put h2 3 (Lib.pow10Tab.map fun z => Value.int .u64 z).toArray
  let h4 := put h3 5 (Lib.deBruijn64tab.map fun n : Nat => Value.int .u8 (n : Int)).toArray
  let h5 := put h4 4 ([0, 1, 28, 2, 29, 14, 24, 3, 30, 22, 20, 15, 25, 17, 4, 8, 31, 27, 13, 23, 21, 19, 16, 7, 26, 12, 18, 6, 11, 5, 10, 9].map fun z : Int => Value.int .u8 z).toArray
  let h6 := put h5 1 #[.iface 186 (.pointer (some ⟨low, 0, none⟩))]
  let h7 := put h6 2 #[.iface 186 (.pointer (some ⟨low + 1, 0, none⟩))]
  { w0 with heap := h7 }
abbrev d6 : String × DataW Unit := ("unicode/utf8.first", Rows.laid_unicode_utf8_first)
set_option maxRecDepth 100000 in
theorem laidWorld_met (os : Os) (args : Array Value) : laidMetH Tryz.prog [d0, d1, d2, d3, dR, dS, d6] ((laidWorld os).forCall (fun _ _ => 0) ⟨#[], args, []⟩).memory :=
  laidMetH_of_parts (LaidIn.of_run (l := [d0, d1, d2, d3, dR, dS, d6]) [4, 5, 3, 7, 2, 1, 6, low, low + 1] 8 (by kernel_rfl) (by kernel_rfl) (by kernel_rfl) (by kernel_rfl)).met (by kernel_rfl)
end Go.Proofs.YtonafonhadocgaaGreatDoor

/- addr.Less is a strict order, and tells any two addresses apart. Plain laws, no program. -/
namespace Go.Proofs.YtonafonhadocgaaGreatDoor
open Go.RowKit Go.Shelf

theorem u8_lt (a b : UInt8) : a < b ↔ a.toNat < b.toNat := UInt8.lt_iff_toNat_lt
theorem cmp_swap : ∀ a b : List UInt8, Lib.compareBytes b a = - Lib.compareBytes a b
  | [], [] => rfl
  | [], _ :: _ => rfl
  | _ :: _, [] => rfl
  | x :: a, y :: b => by
    have ih := cmp_swap a b
    unfold Lib.compareBytes
    simp only [u8_lt]
    by_cases h1 : x.toNat < y.toNat
    · rw [if_neg (by omega), if_pos h1, if_pos h1]; rfl
    · by_cases h2 : y.toNat < x.toNat
      · rw [if_pos h2, if_neg h1, if_pos h2]
      · rw [if_neg h2, if_neg h1, if_neg h1, if_neg h2, ih]
theorem cmp_zero : ∀ a b : List UInt8, Lib.compareBytes a b = 0 → a = b
  | [], [], _ => rfl
  | [], _ :: _, h => by simp [Lib.compareBytes] at h
  | _ :: _, [], h => by simp [Lib.compareBytes] at h
  | x :: a, y :: b, h => by
    unfold Lib.compareBytes at h
    simp only [u8_lt] at h
    split at h
    · cases h
    · split at h
      · cases h
      · rw [cmp_zero a b h, UInt8.toNat_inj.1 (by omega : x.toNat = y.toNat)]
theorem cmp_self (a : List UInt8) : Lib.compareBytes a a = 0 := by
  have := cmp_swap a a
  omega
theorem cmp_trans : ∀ a b c : List UInt8, Lib.compareBytes a b < 0 → Lib.compareBytes b c < 0 → Lib.compareBytes a c < 0
  | [], [], _, h, _ => absurd h (by decide)
  | [], _ :: _, [], _, h => by simp [Lib.compareBytes] at h
  | [], _ :: _, _ :: _, _, _ => by show (-1 : Int) < 0; decide
  | _ :: _, [], _, h, _ => by simp [Lib.compareBytes] at h
  | _ :: _, _ :: _, [], _, h => by simp [Lib.compareBytes] at h
  | x :: a, y :: b, z :: c, h1, h2 => by
    have ih := cmp_trans a b c
    unfold Lib.compareBytes at h1 h2 ⊢
    simp only [u8_lt] at h1 h2 ⊢
    by_cases p1 : x.toNat < y.toNat
    · by_cases p2 : y.toNat < z.toNat
      · rw [if_pos (by omega)]; decide
      · rw [if_neg p2] at h2
        by_cases p3 : z.toNat < y.toNat
        · rw [if_pos p3] at h2; exact absurd h2 (by decide)
        · rw [if_pos (by omega)]; decide
    · rw [if_neg p1] at h1
      by_cases p2 : y.toNat < x.toNat
      · rw [if_pos p2] at h1; exact absurd h1 (by decide)
      · rw [if_neg p2] at h1
        by_cases p3 : y.toNat < z.toNat
        · rw [if_pos (by omega)]; decide
        · rw [if_neg p3] at h2
          by_cases p4 : z.toNat < y.toNat
          · rw [if_pos p4] at h2; exact absurd h2 (by decide)
          · rw [if_neg p4] at h2
            rw [if_neg (by omega), if_neg (by omega)]
            exact ih h1 h2

theorem less_self (u : Bool) (l : List UInt8) : lessB u l u l = false := by
  rw [lessB, if_pos rfl, cmp_self]
  rfl
theorem less_asym {u v : Bool} {l m : List UInt8} (h : lessB u l v m = true) : lessB v m u l = false := by
  unfold lessB at *
  by_cases e : u = v
  · subst e
    rw [if_pos rfl, decide_eq_true_eq] at h
    rw [if_pos rfl, decide_eq_false_iff_not, cmp_swap l m]
    omega
  · rw [if_neg e] at h
    rw [if_neg (fun h => e h.symm)]
    cases u <;> simp_all
theorem less_ne {u v : Bool} {l m : List UInt8} (h : lessB u l v m = true) : ¬ (u = v ∧ l = m) := by
  rintro ⟨rfl, rfl⟩
  rw [less_self] at h
  cases h
theorem less_total {u v : Bool} {l m : List UInt8} (h : ¬ (u = v ∧ l = m)) (hn : lessB u l v m = false) : lessB v m u l = true := by
  unfold lessB at *
  by_cases e : u = v
  · subst e
    rw [if_pos rfl, decide_eq_false_iff_not] at hn
    rw [if_pos rfl, decide_eq_true_eq]
    have h1 := cmp_swap l m
    have h2 : Lib.compareBytes l m ≠ 0 := fun e => h ⟨rfl, cmp_zero _ _ e⟩
    omega
  · rw [if_neg e] at hn
    rw [if_neg (fun h => e h.symm)]
    cases u <;> simp_all
theorem less_trans {u v x : Bool} {l m n : List UInt8} (h1 : lessB u l v m = true) (h2 : lessB v m x n = true) : lessB u l x n = true := by
  unfold lessB at *
  by_cases e1 : u = v
  · subst e1
    rw [if_pos rfl, decide_eq_true_eq] at h1
    by_cases e2 : u = x
    · subst e2
      rw [if_pos rfl, decide_eq_true_eq] at h2
      rw [if_pos rfl, decide_eq_true_eq]
      exact cmp_trans _ _ _ h1 h2
    · rw [if_neg e2] at h2 ⊢
      exact h2
  · rw [if_neg e1] at h1
    subst h1
    by_cases e2 : true = x
    · subst e2
      rw [if_neg e1]
    · rw [if_neg e2] at h2
      exact absurd h2.symm e2
end Go.Proofs.YtonafonhadocgaaGreatDoor

/- The order of flows; the reference's order is it. -/
namespace Go.Proofs.YtonafonhadocgaaGreatDoor
open Go.RowKit Go.Shelf

def ordE (a b : En) : Int := if lessB a.1 a.2.1 b.1 b.2.1 then -1 else if lessB b.1 b.2.1 a.1 a.2.1 then 1 else (a.2.2 : Int) - b.2.2
abbrev Fl := En × En
def cmpF (f g : Fl) : Int := if ordE f.1 g.1 ≠ 0 then ordE f.1 g.1 else ordE f.2 g.2
def lessF (f g : Fl) : Bool := decide (cmpF f g < 0)

theorem ordE_self (a : En) : ordE a a = 0 := by
  rw [ordE, less_self]
  simp
theorem ordE_swap (a b : En) : ordE b a = - ordE a b := by
  unfold ordE
  cases h1 : lessB a.1 a.2.1 b.1 b.2.1 with
  | true => rw [less_asym h1]; rfl
  | false =>
    cases h2 : lessB b.1 b.2.1 a.1 a.2.1 with
    | true => rfl
    | false => simp; omega
theorem ordE_zero {a b : En} (h : ordE a b = 0) : a = b := by
  unfold ordE at h
  cases h1 : lessB a.1 a.2.1 b.1 b.2.1 with
  | true => rw [h1] at h; simp at h
  | false =>
    cases h2 : lessB b.1 b.2.1 a.1 a.2.1 with
    | true => rw [h1, h2] at h; simp at h
    | false =>
      rw [h1, h2] at h
      simp at h
      have e : a.1 = b.1 ∧ a.2.1 = b.2.1 := Classical.byContradiction fun hn => by
        have := less_total hn h1
        rw [h2] at this
        cases this
      obtain ⟨u, l, p⟩ := a
      obtain ⟨v, m, q⟩ := b
      dsimp only at *
      rw [e.1, e.2, show p = q by omega]
theorem ordE_trans {a b c : En} (h1 : ordE a b < 0) (h2 : ordE b c < 0) : ordE a c < 0 := by
  obtain ⟨u, l, p⟩ := a
  obtain ⟨v, m, q⟩ := b
  obtain ⟨x, n, r⟩ := c
  unfold ordE at *
  dsimp only at *
  cases a1 : lessB u l v m with
  | true =>
    cases a2 : lessB v m x n with
    | true => rw [less_trans a1 a2, if_pos rfl]; omega
    | false =>
      cases a3 : lessB x n v m with
      | true => rw [a2, a3] at h2; simp at h2
      | false =>
        have e : v = x ∧ m = n := Classical.byContradiction fun hn => by
          have := less_total hn a2
          rw [a3] at this
          cases this
        rw [← e.1, ← e.2, a1, if_pos rfl]
        omega
  | false =>
    cases a4 : lessB v m u l with
    | true => rw [a1, a4] at h1; simp at h1
    | false =>
      have e : u = v ∧ l = m := Classical.byContradiction fun hn => by
        have := less_total hn a1
        rw [a4] at this
        cases this
      rw [a1, a4] at h1
      rw [e.1, e.2]
      simp at h1
      cases a2 : lessB v m x n with
      | true => rw [if_pos rfl]; omega
      | false =>
        cases a3 : lessB x n v m with
        | true => rw [a2, a3] at h2; simp at h2
        | false =>
          rw [a2, a3] at h2
          simp at h2 ⊢
          omega

theorem cmpF_self (f : Fl) : cmpF f f = 0 := by
  rw [cmpF, ordE_self, ordE_self]
  rfl
theorem cmpF_swap (f g : Fl) : cmpF g f = - cmpF f g := by
  have h1 := ordE_swap f.1 g.1
  have h2 := ordE_swap f.2 g.2
  unfold cmpF
  by_cases h : ordE f.1 g.1 = 0
  · have h' : ordE g.1 f.1 = 0 := by omega
    rw [if_neg (fun e => e h'), if_neg (fun e => e h), h2]
  · have h' : ¬ ordE g.1 f.1 = 0 := by omega
    rw [if_pos h', if_pos h, h1]
theorem cmpF_zero {f g : Fl} (h : cmpF f g = 0) : f = g := by
  unfold cmpF at h
  by_cases h1 : ordE f.1 g.1 = 0
  · rw [if_neg (fun e => e h1)] at h
    exact Prod.ext (ordE_zero h1) (ordE_zero h)
  · rw [if_pos h1] at h
    exact absurd h h1
theorem cmpF_trans {f g k : Fl} (h1 : cmpF f g < 0) (h2 : cmpF g k < 0) : cmpF f k < 0 := by
  unfold cmpF at *
  by_cases a1 : ordE f.1 g.1 = 0
  · rw [if_neg (fun e => e a1)] at h1
    rw [ordE_zero a1]
    by_cases a2 : ordE g.1 k.1 = 0
    · rw [if_neg (fun e => e a2)] at h2 ⊢
      exact ordE_trans h1 h2
    · rw [if_pos a2] at h2 ⊢
      exact h2
  · rw [if_pos a1] at h1
    by_cases a2 : ordE g.1 k.1 = 0
    · rw [← ordE_zero a2, if_pos a1]
      exact h1
    · rw [if_pos a2] at h2
      have := ordE_trans h1 h2
      rw [if_pos (by omega)]
      exact this

/-! ### the reference's order -/
def rankL (e : En) : List Nat := (if e.1 then 1 else 0) :: (e.2.1.map (·.toNat) ++ [e.2.2, 0])
def lexL : List Nat → List Nat → Bool
  | x :: a, y :: b => if x = y then lexL a b else decide (x < y)
  | _, _ => false
theorem lex_self : ∀ a : List Nat, lexL a a = false
  | [] => rfl
  | x :: a => by rw [lexL, if_pos rfl, lex_self a]
theorem lex_app : ∀ (a a' b b' : List Nat), a.length = a'.length → lexL (a ++ b) (a' ++ b') = if a = a' then lexL b b' else lexL a a'
  | [], [], b, b', _ => by simp
  | [], _ :: _, _, _, h => by simp at h
  | _ :: _, [], _, _, h => by simp at h
  | x :: a, y :: a', b, b', h => by
    rw [List.cons_append, List.cons_append, lexL, lexL]
    by_cases e : x = y
    · rw [if_pos e, if_pos e, lex_app a a' b b' (by simpa using h), e]
      by_cases e2 : a = a'
      · rw [if_pos e2, if_pos (by rw [e2])]
      · rw [if_neg e2, if_neg (fun he => e2 (by injection he))]
    · rw [if_neg e, if_neg e, if_neg (fun he => e (by injection he))]
theorem lex_bytes : ∀ (l m : List UInt8), l.length = m.length → lexL (l.map (·.toNat)) (m.map (·.toNat)) = decide (Lib.compareBytes l m < 0)
  | [], [], _ => rfl
  | [], _ :: _, h => by simp at h
  | _ :: _, [], h => by simp at h
  | x :: l, y :: m, h => by
    have ih := lex_bytes l m (by simpa using h)
    rw [List.map_cons, List.map_cons, lexL]
    unfold Lib.compareBytes
    by_cases e : x = y
    · have : ¬ x < y := by rw [u8_lt, e]; omega
      have : ¬ y < x := by rw [u8_lt, e]; omega
      rw [if_pos (by rw [e]), ih]
      simp [*]
    · have hne : x.toNat ≠ y.toNat := fun he => e (UInt8.toNat_inj.1 he)
      rw [if_neg hne]
      by_cases hl : x.toNat < y.toNat
      · have : x < y := (u8_lt x y).2 hl
        simp [*]
      · have h1 : ¬ x < y := fun he => hl ((u8_lt x y).1 he)
        have h2 : y < x := (u8_lt y x).2 (by omega)
        simp [*]
theorem map_nat_inj {l m : List UInt8} (h : l.map (·.toNat) = m.map (·.toNat)) : l = m := by
  have := congrArg (List.map UInt8.ofNat) h
  simpa [List.map_map, Function.comp_def] using this
theorem rank_len (e : En) (h : e.2.1.length = 16) : (rankL e).length = 19 := by simp [rankL, h]
theorem rank_less {a b : En} (ha : a.2.1.length = 16) (hb : b.2.1.length = 16) : lexL (rankL a) (rankL b) = decide (ordE a b < 0) := by
  obtain ⟨u, l, p⟩ := a
  obtain ⟨v, m, q⟩ := b
  dsimp only at *
  have hlm := lex_bytes l m (by omega)
  have hml := lex_bytes m l (by omega)
  have hsw := cmp_swap l m
  unfold rankL ordE lessB
  dsimp only
  cases u <;> cases v
  all_goals simp only [if_true, Bool.false_eq_true, if_false, lexL, Bool.true_eq_false]
  case false.true => simp
  case true.false => simp
  all_goals
    rw [lex_app _ _ _ _ (by rw [List.length_map, List.length_map]; omega)]
    by_cases e : l = m
    · rw [if_pos (by rw [e]), e, cmp_self]
      simp only [lexL]
      by_cases hp : p = q
      · rw [if_pos hp, hp]
        simp
      · rw [if_neg hp]
        simp
        omega
    · rw [if_neg (fun he => e (map_nat_inj he)), hlm]
      by_cases hc : Lib.compareBytes l m < 0
      · simp [hc]
      · have hz : Lib.compareBytes l m ≠ 0 := fun he => e (cmp_zero _ _ he)
        have h2 : Lib.compareBytes m l < 0 := by omega
        simp [hc, h2]
theorem rank_inj {a b : En} (h : rankL a = rankL b) (ha : a.2.1.length = 16) (hb : b.2.1.length = 16) : a = b := by
  have h1 := rank_less ha hb
  have h2 := rank_less hb ha
  rw [h, lex_self] at h1
  rw [← h, lex_self] at h2
  have h3 := ordE_swap a b
  have e1 : ¬ ordE a b < 0 := of_decide_eq_false h1.symm
  have e2 : ¬ ordE b a < 0 := of_decide_eq_false h2.symm
  exact ordE_zero (by omega)
/-- The reference's order is the program's. -/
theorem rless_eq {f g : Fl} (h1 : f.1.2.1.length = 16) (h2 : f.2.2.1.length = 16) (h3 : g.1.2.1.length = 16) (h4 : g.2.2.1.length = 16) :
    lexL (rankL f.1 ++ rankL f.2) (rankL g.1 ++ rankL g.2) = lessF f g := by
  rw [lex_app _ _ _ _ (by rw [rank_len _ h1, rank_len _ h3]), lessF, cmpF]
  by_cases e : f.1 = g.1
  · rw [if_pos (by rw [e]), e, ordE_self, if_neg (fun h => h rfl), rank_less h2 h4]
  · rw [if_neg (fun he => e (rank_inj he h1 h3)), if_pos (fun h => e (ordE_zero h)), rank_less h1 h3]
end Go.Proofs.YtonafonhadocgaaGreatDoor

/- flow.order, flow.compare, flow.Less, flow.Mirror: what they answer; the world behind them is the world ahead with draws and blocks more. -/
namespace Go.Proofs.YtonafonhadocgaaGreatDoor
open Go.RowKit Go.Shelf

/-- Draws and blocks more, nothing else. -/
def LaysW (w w' : World) : Prop := ∃ (q : Nat) (os : Array Obj), w' = Go.Sort.grow (w.drewN q) os
theorem LaysW.refl (w : World) : LaysW w w := ⟨0, #[], by rw [Go.Sort.grow_empty]; rfl⟩
theorem LaysW.trans {a b c : World} (h : LaysW a b) (k : LaysW b c) : LaysW a c := by
  obtain ⟨q, os, rfl⟩ := h
  obtain ⟨q', os', rfl⟩ := k
  refine ⟨q + q', os ++ os', ?_⟩
  rw [← Go.Sort.grow_grow]
  show Go.Sort.grow (Go.Sort.grow ((a.drewN q).drewN q') os) os' = _
  rw [show (a.drewN q).drewN q' = a.drewN (q + q') by simp only [World.drewN, Nat.add_assoc]]
theorem LaysW.alloc {a w : World} (h : LaysW a w) (o : Obj) : LaysW a (w.alloc o) := h.trans ⟨0, #[o], by rw [Go.Sort.alloc_eq_grow]; rfl⟩
theorem LaysW.drewN {a w : World} (h : LaysW a w) (n : Nat) : LaysW a (w.drewN n) := h.trans ⟨n, #[], by rw [Go.Sort.grow_empty]⟩
theorem LaysW.drew {a w : World} (h : LaysW a w) : LaysW a w.drew := h.drewN 1
theorem LaysW.below {w w' : World} (h : LaysW w w') : Below w.heap.size w w' := by
  obtain ⟨q, os, rfl⟩ := h
  refine ⟨rfl, rfl, rfl, by show w.heap.size ≤ (w.heap ++ os).size; rw [Array.size_append]; omega, fun k hk => ?_⟩
  show (w.heap ++ os)[k]? = w.heap[k]?
  rw [Array.getElem?_append_left hk]

set_option maxRecDepth 100000 in
set_option maxHeartbeats 4000000 in
theorem less_lays (u v : Bool) (xs ys : List UInt8) (hx : xs.length = 16) (hy : ys.length = 16) (w : World) :
    Calls Tryz.prog 73 #[.agg (adC u xs), .agg (adC v ys)] w fun e w' => e = .returned (.bool (lessB u xs v ys)) ∧ LaysW w w' := by
  have k1 := (Blk.new w 25 (adC u xs)).alloc (.cells (adC v ys) 25)
  have k2 := Blk.new (w.alloc (.cells (adC u xs) 25)) 25 (adC v ys)
  have HB := Lib.hid (((LaysW.refl w).alloc (.cells (adC u xs) 25)).alloc (.cells (adC v ys) 25))
  obtain ⟨g2, hg2⟩ : ∃ g2, g2 = (w.alloc (.cells (adC u xs) 25)).heap.size := ⟨_, rfl⟩
  have q1 : ((w.alloc (.cells (adC u xs) 25)).alloc (.cells (adC v ys) 25)).cell? ⟨w.heap.size, 0, none⟩ = some (.bool u) := by rw [k1.cell 0]; rfl
  have q2 : ((w.alloc (.cells (adC u xs) 25)).alloc (.cells (adC v ys) 25)).cell? ⟨(w.alloc (.cells (adC u xs) 25)).heap.size, 0, none⟩ = some (.bool v) := by rw [k2.cell 0]; rfl
  have hc := fun n : Nat => compare_any w.heap.size 1 16 (w.alloc (.cells (adC u xs) 25)).heap.size 1 16 16 xs ys hx hy (((w.alloc (.cells (adC u xs) 25)).alloc (.cells (adC v ys) 25)).drewN n)
    (fun k hk => by show World.cell? _ _ = _; rw [← adC_tail u xs k, Nat.add_comm 1 k]; exact k1.cell (k + 1)) (fun k hk => by show World.cell? _ _ = _; rw [← adC_tail v ys k, Nat.add_comm 1 k]; exact k2.cell (k + 1))
  rw [← hg2] at q2
  rw [← hg2] at hc
  have HG := Lib.hid hg2
  have HC := Lib.hid hc
  clear k1 k2 hc hg2
  by_cases huv : u = v
  · subst huv
    have HL := Lib.hid (show lessB u xs u ys = decide (Lib.compareBytes xs ys < 0) by rw [lessB, if_pos rfl])
    rw [HL.out]
    clear HL
    go_enter Tryz.func73, Tryz.ntmps73
    go_upto_region 1 with fail
    first
    | rw [← HG.out]
    | rw [show w.heap.size + 1 = g2 by rw [HG.out]; simp]
    go_upto_region 3 with fail
    go_quiet (exact (HC.out _).mono fun e w1 ⟨h1, h2⟩ => ⟨h1, _, h2⟩)
    go_wp2_with fail
    go_ret
    exact ⟨rfl, HB.out.drewN _⟩
  · have HL := Lib.hid (show lessB u xs v ys = v by rw [lessB, if_neg huv])
    have hne : (!u == v) = true := by simpa using huv
    rw [HL.out]
    clear HL huv
    go_enter Tryz.func73, Tryz.ntmps73
    go_upto_region 1 with fail
    first
    | rw [← HG.out]
    | rw [show w.heap.size + 1 = g2 by rw [HG.out]; simp]
    go_wp2_with fail
    go_ret
    exact ⟨rfl, HB.out⟩

theorem enL_ad (e : En) (h : e.2.1.length = 16) : ((enL e).toArray.toList.drop 0).take (adC e.1 e.2.1).toList.length = (adC e.1 e.2.1).toList := by
  obtain ⟨u, l, p⟩ := e
  obtain ⟨b0, b1, b2, b3, b4, b5, b6, b7, b8, b9, b10, b11, b12, b13, b14, b15, rfl⟩ := sixteen l h
  rfl
theorem enL_port (e : En) (h : e.2.1.length = 16) : (enL e).toArray[17]? = some (.int .u16 (e.2.2 : Int)) := by
  obtain ⟨u, l, p⟩ := e
  obtain ⟨b0, b1, b2, b3, b4, b5, b6, b7, b8, b9, b10, b11, b12, b13, b14, b15, rfl⟩ := sixteen l h
  rfl
theorem ad_infoL (e : En) (h : e.2.1.length = 16) : (Tryz.prog.info? 25).map (·.size) = some (adC e.1 e.2.1).toList.length := by rw [adSize, Array.length_toList, adC_size _ _ h]

set_option maxRecDepth 100000 in
set_option maxHeartbeats 4000000 in
theorem order_any (a b : En) (ha : a.2.1.length = 16) (hb : b.2.1.length = 16) (pa : a.2.2 < 65536) (pb : b.2.2 < 65536) (w : World) :
    Calls Tryz.prog 50 #[.agg (enL a).toArray, .agg (enL b).toArray] w fun e w' => e = .returned (.int .i64 (ordE a b)) ∧ LaysW w w' := by
  have hz : (w.alloc (.cells (enL a).toArray 28)).heap.size = w.heap.size + 1 := by simp
  have k1 := (Blk.new w 28 (enL a).toArray).alloc (.cells (enL b).toArray 28)
  have k2 := Blk.new (w.alloc (.cells (enL a).toArray 28)) 28 (enL b).toArray
  rw [hz] at k2
  have K1 := Lib.hid (And.intro k1 k2)
  have L1 := Lib.hid (((LaysW.refl w).alloc (.cells (enL a).toArray 28)).alloc (.cells (enL b).toArray 28))
  have H1 := Lib.hid (fun W => less_lays a.1 b.1 a.2.1 b.2.1 ha hb W)
  have H2 := Lib.hid (fun W => less_lays b.1 a.1 b.2.1 a.2.1 hb ha W)
  have HA := Lib.hid (enL_ad a ha)
  have HB := Lib.hid (enL_ad b hb)
  have HI := Lib.hid (ad_infoL a ha)
  have HJ := Lib.hid (ad_infoL b hb)
  have HP := Lib.hid (enL_port a ha)
  have HQ := Lib.hid (enL_port b hb)
  have HO := Lib.hid (show ordE a b = if lessB a.1 a.2.1 b.1 b.2.1 then -1 else if lessB b.1 b.2.1 a.1 a.2.1 then 1 else (a.2.2 : Int) - b.2.2 from rfl)
  clear k1 k2 hz
  generalize (enL a).toArray = ca at *
  generalize (enL b).toArray = cb at *
  generalize adC a.1 a.2.1 = da at *
  generalize adC b.1 b.2.1 = db at *
  generalize lessB a.1 a.2.1 b.1 b.2.1 = l1 at *
  generalize lessB b.1 b.2.1 a.1 a.2.1 = l2 at *
  generalize a.2.2 = p at *
  generalize b.2.2 = q at *
  generalize ordE a b = o at *
  clear ha hb
  go_enter Tryz.func50, Tryz.ntmps50
  go_wp2_with (first | (refine wpList_load_part 25 (.tmp 6) w.heap.size 0 28 ca da.toList _ K1.out.1 HA.out (by rfl) (by rfl) Tryz.underlying25 rfl HI.out (by rfl) ?_) | (refine wpList_load_part 25 (.tmp 8) (w.heap.size + 1) 0 28 cb db.toList _ K1.out.2 HB.out (by rfl) (by rfl) Tryz.underlying25 rfl HJ.out (by rfl) ?_))
  refine (H1.out _).mono ?_
  rintro e w2 ⟨rfl, l⟩
  have L2 := Lib.hid (L1.out.trans l)
  have K2 := Lib.hid (And.intro (K1.out.1.keep l.below) (K1.out.2.keep l.below))
  clear l L1 K1
  cases l1 with
  | true =>
    obtain rfl := HO.out
    go_wp2_with fail
    go_ret
    exact ⟨rfl, L2.out⟩
  | false =>
    go_wp2_with (first | (refine wpList_load_part 25 (.tmp 14) w.heap.size 0 28 ca da.toList _ K2.out.1 HA.out (by rfl) (by rfl) Tryz.underlying25 rfl HI.out (by rfl) ?_) | (refine wpList_load_part 25 (.tmp 12) (w.heap.size + 1) 0 28 cb db.toList _ K2.out.2 HB.out (by rfl) (by rfl) Tryz.underlying25 rfl HJ.out (by rfl) ?_))
    refine (H2.out _).mono ?_
    rintro e w3 ⟨rfl, l⟩
    have L3 := Lib.hid (L2.out.trans l)
    have K3 := Lib.hid (And.intro (K2.out.1.keep l.below) (K2.out.2.keep l.below))
    clear l L2 K2
    cases l2 with
    | true =>
      obtain rfl := HO.out
      go_wp2_with fail
      go_ret
      exact ⟨rfl, L3.out⟩
    | false =>
      obtain rfl := HO.out
      have q1 := (K3.out.1.cell 17).trans HP.out
      have q2 := (K3.out.2.cell 17).trans HQ.out
      go_wp2_with fail
      go_ret
      exact ⟨rfl, L3.out⟩

theorem ordE_bd (a b : En) (pa : a.2.2 < 65536) (pb : b.2.2 < 65536) : -65536 < ordE a b ∧ ordE a b < 65536 := by
  unfold ordE
  split
  · omega
  · split <;> omega
theorem flL_client (a b : En) : ((flC a b).toList.drop 0).take (enL a).length = enL a := flC_client a b
theorem flL_server (a b : En) (ha : a.2.1.length = 16) : ((flC a b).toList.drop 18).take (enL b).length = enL b := flC_server a b ha
theorem en_infoL (e : En) (h : e.2.1.length = 16) : (Tryz.prog.info? 28).map (·.size) = some (enL e).length := en_info e h

set_option maxRecDepth 100000 in
set_option maxHeartbeats 4000000 in
theorem cmp_any (f g : Fl) (h1 : f.1.2.1.length = 16) (h2 : f.2.2.1.length = 16) (h3 : g.1.2.1.length = 16) (h4 : g.2.2.1.length = 16) (p1 : f.1.2.2 < 65536) (p2 : f.2.2.2 < 65536) (p3 : g.1.2.2 < 65536) (p4 : g.2.2.2 < 65536) (w : World) :
    Calls Tryz.prog 28 #[.agg (flC f.1 f.2), .agg (flC g.1 g.2)] w fun e w' => e = .returned (.int .i64 (cmpF f g)) ∧ LaysW w w' := by
  have hz : (w.alloc (.cells (flC f.1 f.2) 30)).heap.size = w.heap.size + 1 := by simp
  have k1 := (Blk.new w 30 (flC f.1 f.2)).alloc (.cells (flC g.1 g.2) 30)
  have k2 := Blk.new (w.alloc (.cells (flC f.1 f.2) 30)) 30 (flC g.1 g.2)
  rw [hz] at k2
  have K1 := Lib.hid (And.intro k1 k2)
  have L1 := Lib.hid (((LaysW.refl w).alloc (.cells (flC f.1 f.2) 30)).alloc (.cells (flC g.1 g.2) 30))
  have H1 := Lib.hid (fun W => order_any f.1 g.1 h1 h3 p1 p3 W)
  have H2 := Lib.hid (fun W => order_any f.2 g.2 h2 h4 p2 p4 W)
  have HFC := Lib.hid (flL_client f.1 f.2)
  have HGC := Lib.hid (flL_client g.1 g.2)
  have HFS := Lib.hid (flL_server f.1 f.2 h1)
  have HGS := Lib.hid (flL_server g.1 g.2 h3)
  have I1 := Lib.hid (en_infoL f.1 h1)
  have I2 := Lib.hid (en_infoL f.2 h2)
  have I3 := Lib.hid (en_infoL g.1 h3)
  have I4 := Lib.hid (en_infoL g.2 h4)
  have HO := Lib.hid (show cmpF f g = if ordE f.1 g.1 ≠ 0 then ordE f.1 g.1 else ordE f.2 g.2 from rfl)
  clear k1 k2 hz
  generalize flC f.1 f.2 = cf at *
  generalize flC g.1 g.2 = cg at *
  generalize enL f.1 = e1 at *
  generalize enL f.2 = e2 at *
  generalize enL g.1 = e3 at *
  generalize enL g.2 = e4 at *
  generalize ordE f.1 g.1 = o1 at *
  generalize ordE f.2 g.2 = o2 at *
  generalize cmpF f g = o at *
  clear h1 h2 h3 h4 p1 p2 p3 p4
  go_enter Tryz.func28, Tryz.ntmps28
  go_wp2_with (first | (refine wpList_load_part 28 (.tmp 6) w.heap.size 0 30 cf e1 _ K1.out.1 HFC.out (by rfl) (by rfl) Tryz.underlying28 rfl I1.out (by rfl) ?_) | (refine wpList_load_part 28 (.tmp 8) (w.heap.size + 1) 0 30 cg e3 _ K1.out.2 HGC.out (by rfl) (by rfl) Tryz.underlying28 rfl I3.out (by rfl) ?_))
  refine (H1.out _).mono ?_
  rintro e w2 ⟨rfl, l⟩
  have L2 := Lib.hid (L1.out.trans l)
  have K2 := Lib.hid (And.intro (K1.out.1.keep l.below) (K1.out.2.keep l.below))
  clear l L1 K1
  by_cases hz : o1 = 0
  · have hO := HO.out
    rw [if_neg (fun h => h hz)] at hO
    obtain rfl := hO
    subst hz
    go_wp2_with (first | (refine wpList_load_part 28 (.tmp 14) w.heap.size 18 30 cf e2 _ K2.out.1 HFS.out (by rfl) (by rfl) Tryz.underlying28 rfl I2.out (by rfl) ?_) | (refine wpList_load_part 28 (.tmp 16) (w.heap.size + 1) 18 30 cg e4 _ K2.out.2 HGS.out (by rfl) (by rfl) Tryz.underlying28 rfl I4.out (by rfl) ?_))
    refine (H2.out _).mono ?_
    rintro e w3 ⟨rfl, l⟩
    have L3 := Lib.hid (L2.out.trans l)
    clear l L2
    go_wp2_with fail
    go_ret
    exact ⟨rfl, L3.out⟩
  · have hO := HO.out
    rw [if_pos hz] at hO
    obtain rfl := hO
    clear HO
    go_wp2_with fail
    go_ret
    exact ⟨rfl, L2.out⟩

set_option maxRecDepth 100000 in
set_option maxHeartbeats 4000000 in
theorem fless_any (f g : Fl) (h1 : f.1.2.1.length = 16) (h2 : f.2.2.1.length = 16) (h3 : g.1.2.1.length = 16) (h4 : g.2.2.1.length = 16) (p1 : f.1.2.2 < 65536) (p2 : f.2.2.2 < 65536) (p3 : g.1.2.2 < 65536) (p4 : g.2.2.2 < 65536) (w : World) :
    Calls Tryz.prog 15 #[.agg (flC f.1 f.2), .agg (flC g.1 g.2)] w fun e w' => e = .returned (.bool (lessF f g)) ∧ Below w.heap.size w w' := by
  have hz : (w.alloc (.cells (flC f.1 f.2) 30)).heap.size = w.heap.size + 1 := by simp
  have k1 := (Blk.new w 30 (flC f.1 f.2)).alloc (.cells (flC g.1 g.2) 30)
  have k2 := Blk.new (w.alloc (.cells (flC f.1 f.2) 30)) 30 (flC g.1 g.2)
  rw [hz] at k2
  have K1 := Lib.hid (And.intro k1 k2)
  have L1 := Lib.hid (((LaysW.refl w).alloc (.cells (flC f.1 f.2) 30)).alloc (.cells (flC g.1 g.2) 30))
  have H1 := Lib.hid (fun W => cmp_any f g h1 h2 h3 h4 p1 p2 p3 p4 W)
  have I1 := Lib.hid (show (Tryz.prog.info? 30).map (·.size) = some (flC f.1 f.2).size by rw [flC_size _ _ h1 h2]; exact flSize)
  have I2 := Lib.hid (show (Tryz.prog.info? 30).map (·.size) = some (flC g.1 g.2).size by rw [flC_size _ _ h3 h4]; exact flSize)
  have HO := Lib.hid (show lessF f g = decide (cmpF f g < 0) from rfl)
  clear k1 k2 hz
  generalize flC f.1 f.2 = cf at *
  generalize flC g.1 g.2 = cg at *
  generalize lessF f g = b at *
  generalize cmpF f g = o at *
  clear h1 h2 h3 h4 p1 p2 p3 p4
  obtain rfl := HO.out
  clear HO
  go_enter Tryz.func15, Tryz.ntmps15
  go_wp2_with (first | (refine wpList_load_blk 30 (.tmp 2) w.heap.size 30 cf _ K1.out.1 (by rfl) (by rfl) Tryz.underlying30 rfl I1.out (by rfl) ?_) | (refine wpList_load_blk 30 (.tmp 3) (w.heap.size + 1) 30 cg _ K1.out.2 (by rfl) (by rfl) Tryz.underlying30 rfl I2.out (by rfl) ?_))
  refine (H1.out _).mono ?_
  rintro e w2 ⟨rfl, l⟩
  have L2 := Lib.hid (L1.out.trans l)
  clear l L1 K1
  go_wp2_with fail
  go_ret
  exact ⟨rfl, L2.out.below⟩
end Go.Proofs.YtonafonhadocgaaGreatDoor
