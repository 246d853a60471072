/- An address as an argument: its cells. What the row's own condition gives of the library's variables. The wrap that keeps the world's shape. -/
import Derived.Test.YtgdnckglfhabnaaDoorOpen
import Derived.Test.YtgdnckglfhabnaaDoorAdEnds
import Derived.Stop.LaidErr
import Derived.Lib.LaidU8
import Derived.LaidHandle
import Derived.Handed
namespace Go.Proofs.YtgdnckglfhabnaaDoor
open Go.ChangeShapes Go.WideShapes Go.ChangeAt Go.RowKit Go.Shelf

section
variable {H : Type} {enc : TypeId × Value → H}

/-- An array of integers that reads: its cells. -/
theorem ints_of_array {P : Program} {w : World} {base : Nat} {sp : Nat → Bool} {held : Bool} {fuel : Nat} {t e : TypeId} {n : Nat} {k : IntKind} {cs : List Value} {x : DataW H × List MemPlace}
    (ht : P.underlying t = some (.array n e)) (he : P.underlying e = some (.int k)) (hce : P.cellsOf e = 1) (_hl : cs.length = n)
    (h : DataW.trod enc P w base sp held fuel t cs = some x) : ∀ i, i < n → ∃ z, cs[i]? = some (.int k z) ∧ (Lit.int k z).wf = true := by
  cases fuel with
  | zero => simp [DataW.trod] at h
  | succ fuel =>
    simp only [DataW.trod, ht, hce, Nat.mul_one] at h
    split at h
    · obtain ⟨xs, hm, hx⟩ := Option.map_eq_some_iff.1 h
      intro i hi
      obtain ⟨b, hb, hf⟩ := Lib.mapM_at hm i i (by simp [hi])
      obtain ⟨z, hc, _, hw⟩ := DataW.trod_int he hf
      refine ⟨z, ?_, hw⟩
      have := congrArg (·[0]?) hc
      simpa [List.getElem?_take, List.getElem?_drop] using this
    · cases h
/-- Cells that are bytes all. -/
theorem bytes_of_cells (cs : List Value) (n : Nat) (hl : cs.length = n) (h : ∀ i, i < n → ∃ z, cs[i]? = some (.int .u8 z) ∧ (Lit.int .u8 z).wf = true) : ∃ l : List UInt8, l.length = n ∧ cs = bv l := by
  induction cs generalizing n with
  | nil => exact ⟨[], hl, rfl⟩
  | cons c r ih =>
    simp only [List.length_cons] at hl
    obtain ⟨z, hz, hw⟩ := h 0 (by omega)
    rw [List.getElem?_cons_zero] at hz
    injection hz with hz
    obtain ⟨l, hl', hr⟩ := ih (n - 1) (by omega) (fun i hi => by
      have := h (i + 1) (by omega)
      rw [List.getElem?_cons_succ] at this
      exact this)
    have hb := bounds_u8 hw
    refine ⟨UInt8.ofNat z.toNat :: l, by simp; omega, ?_⟩
    rw [hz, hr, bv, bv, List.map_cons, UInt8.toNat_ofNat']
    congr 2
    omega

variable {W : World} {base : Nat} {held : Bool}
set_option maxRecDepth 100000 in
theorem addr_of_trod {fuel : Nat} {cs : List Value} {x : DataW H × List MemPlace} (hsz : cs.length = 17) (h : DataW.trod enc Tryd.prog W base (fun _ => true) held fuel 24 cs = some x) :
    ∃ (u : Bool) (l : List UInt8), cs = (adC u l).toList ∧ l.length = 16 := by
  obtain ⟨xs, n, _, _, _, hlen, hg⟩ := DataW.trod_struct Tryd.underlying24 h
  have hxs : xs.length = 2 := hlen
  have C1 : Tryd.prog.cellsOf 4 = 1 := by kernel_rfl
  have C16 : Tryd.prog.cellsOf 22 = 16 := by kernel_rfl
  have C8 : Tryd.prog.cellsOf 5 = 1 := by kernel_rfl
  match xs, hxs with
  | [y0, y1], _ =>
    have h0 := hg 0 _ rfl
    have h1 := hg 1 _ rfl
    simp [C1] at h0
    simp [C16] at h1
    cases cs with
    | nil => cases hsz
    | cons c0 r =>
      have hr : r.length = 16 := by simpa using hsz
      simp only [List.take_succ_cons, List.take_zero] at h0
      obtain ⟨u, hu, _⟩ := DataW.trod_bool Tryd.underlying4 h0
      injection hu with hu
      subst hu
      rw [List.tail_cons, List.take_of_length_le (by omega)] at h1
      obtain ⟨l, hl, rfl⟩ := bytes_of_cells r 16 hr (ints_of_array Tryd.underlying22 Tryd.underlying5 C8 hr h1)
      exact ⟨u, l, rfl, hl⟩
set_option maxRecDepth 100000 in
theorem open_addr {r : Reach} {b0 : Nat} {v : Value} {d : DataW H} {pl : List MemPlace} (hv : Value.okWide Tryd.prog W r b0 24 v) (h : DataW.Trod enc Tryd.prog W base (fun _ => true) held 24 v d pl) :
    ∃ (u : Bool) (l : List UInt8), v = .agg (adC u l) ∧ l.length = 16 := by
  obtain ⟨cs, rfl, hsz⟩ := okWide_struct Tryd.underlying24 hv
  have hC : Tryd.prog.cellsOf 24 = 17 := by kernel_rfl
  obtain ⟨fuel, hf⟩ := h
  obtain ⟨L⟩ := cs
  obtain ⟨u, l, e, hl⟩ := addr_of_trod (hsz.trans hC) (by simpa [Value.cells] using hf)
  exact ⟨u, l, by rw [show L = (adC u l).toList from e], hl⟩
end

/-! ### The library's variables -/
theorem lib_pow : Tryd.prog.globalNamed "internal/strconv.uint64pow10" = some 4 := by kernel_rfl
theorem lib_bru : Tryd.prog.globalNamed "math/bits.deBruijn64tab" = some 8 := by kernel_rfl
theorem lib_syn : Tryd.prog.globalNamed "strconv.ErrSyntax" = some 5 := by kernel_rfl
theorem lib_rng : Tryd.prog.globalNamed "strconv.ErrRange" = some 6 := by kernel_rfl
end Go.Proofs.YtgdnckglfhabnaaDoor
