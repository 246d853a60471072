/- addr.group: one group of a writing. -/
import Derived.Test.YtgdnckglfhabnaaDoorAdPhex
import Derived.Test.YtgdnckglfhabnaaDoorAdNum
namespace Go.Proofs.YtgdnckglfhabnaaDoor
open Go.RowKit Go.Shelf

/-- Is a text a group, and which. -/
def grpB (s : ByteArray) : Bool := s.data.toList.all isHx && decide (1 ≤ s.size) && decide (s.size ≤ 4)
def grpN (s : ByteArray) : Nat := (phex 0 s.data.toList).getD 0

theorem hxn_lt {c : UInt8} (h : isHx c = true) : hxn c < 16 := by
  simp only [isHx, Bool.or_eq_true, decide_eq_true_eq] at h
  unfold hxn
  have := c.toNat_lt
  split
  · omega
  · split <;> omega
theorem phex_small (l : List UInt8) : ∀ (j acc : Nat), acc < 16 ^ j → j + l.length ≤ 4 → (∀ c ∈ l, isHx c = true) → ∃ n, phex acc l = some n ∧ n < 65536 := by
  induction l with
  | nil =>
    intro j acc h1 h2 _
    refine ⟨acc, rfl, ?_⟩
    have : 16 ^ j ≤ 16 ^ 4 := Nat.pow_le_pow_right (by omega) (by simpa using h2)
    omega
  | cons c r ih =>
    intro j acc h1 h2 hall
    have hc := hxn_lt (hall c (List.mem_cons_self ..))
    have hlt : acc * 16 + hxn c < 16 ^ (j + 1) := by rw [Nat.pow_succ]; omega
    have hle : 16 ^ (j + 1) ≤ 16 ^ 4 := Nat.pow_le_pow_right (by omega) (by simp at h2; omega)
    rw [phex, if_neg (by omega)]
    exact ih (j + 1) _ hlt (by simp at h2; omega) (fun x hx => hall x (List.mem_cons_of_mem _ hx))

/-- strconv.ParseUint(s, 16, 16). -/
def PhexEnd (s : ByteArray) (w : World) (e : Ending) (w' : World) : Prop :=
  Below w.heap.size w w' ∧ ((s.size ≠ 0 ∧ ∃ n, phex 0 s.data.toList = some n ∧ e = .returned (.tuple #[.int .u64 (n : Int), .nilIface])) ∨ ((s.size = 0 ∨ phex 0 s.data.toList = none) ∧ ∃ (z : Int) (t : TypeId) (p : Value), 0 ≤ z ∧ z ≤ 65535 ∧ e = .returned (.tuple #[.int .u64 z, .iface t p])))

set_option maxRecDepth 100000 in
set_option maxHeartbeats 4000000 in
theorem phex_any (s : ByteArray) (hlim : s.size ≤ 281474976710656) (hall : ∀ c ∈ s.data.toList, isHx c = true) (w : World) (env : Env w) :
    Calls Tryd.prog 55 #[.string s, .int .i64 16, .int .i64 16] w (PhexEnd s w) := by
  by_cases h0 : s.size = 0
  · have hs : s = ⟨#[]⟩ := by
      cases s with | mk d => simp [ByteArray.size] at h0; rw [h0]
    subst hs
    obtain ⟨tp, p, hv⟩ := env.syn
    have hv' : w.cell? ⟨5, 0, none⟩ = some (.iface tp p) := by
      have h0 := World.var?_cell (g := 5) (by kernel_rfl) hv 0
      simpa using h0
    have HI := Lib.hid (fun W => AnyPu.internal_strconv_ParseUint_empty { lays14 with } 16 16 W)
    have HT := Lib.hid (AnyPu.strconv_toError_syntax { lays14 with } ⟨#[80, 97, 114, 115, 101, 85, 105, 110, 116]⟩ ⟨#[]⟩ 16 16 (.iface tp p) w hlim hv' (Or.inr ⟨tp, p, rfl⟩))
    clear hv hv' env hall
    go_enter Tryd.func55, Tryd.ntmps55
    go_wp2_with fail
    refine (HI.out _).mono ?_
    rintro e w1 ⟨rfl, rfl⟩
    go_wp2_with fail
    refine HT.out.mono ?_
    rintro e w2 ⟨N, rfl, _, _, b⟩
    have B := Lib.hid b
    clear b
    go_wp2
    go_ret2
    exact ⟨B.out, .inr ⟨.inl rfl, 0, _, _, by omega, by omega, rfl⟩⟩
  have HI := Lib.hid (fun W => ihex_any s h0 (by omega) hall W)
  cases h : phex 0 s.data.toList with
  | some n =>
    rw [h] at HI
    have HP := Lib.hid (show PhexEnd s w (.returned (.tuple #[.int .u64 (n : Int), .nilIface])) (Lib.bytesWorld w 5 s) from ⟨Lib.bytesWorld_below _ _ _, .inl ⟨h0, n, h, rfl⟩⟩)
    clear h hall env
    go_enter Tryd.func55, Tryd.ntmps55
    go_wp2_with fail
    refine (HI.out _).mono ?_
    rintro e w1 ⟨rfl, hw⟩
    have HW := Lib.hid hw
    clear hw
    rw [phexV]
    go_wp2_with fail
    go_ret2
    rw [HW.out]
    exact HP.out
  | none =>
    rw [h] at HI
    obtain ⟨tp, p, hv⟩ := env.rng
    have hv' : (Lib.bytesWorld w 5 s).cell? ⟨6, 0, none⟩ = some (.iface tp p) := by
      have h0 := World.var?_cell (g := 6) (by kernel_rfl) hv 0
      exact cell_later (Lib.bytesWorld_below _ _ _) (by simpa using h0)
    have HT := Lib.hid (AnyPu.strconv_toError_range { lays14 with } ⟨#[80, 97, 114, 115, 101, 85, 105, 110, 116]⟩ s 16 16 (.iface tp p) _ hlim hv' (Or.inr ⟨tp, p, rfl⟩))
    have HB := Lib.hid (Lib.bytesWorld_below w 5 s)
    have HN := Lib.hid h
    clear hv hv' env hall h
    replace HI := Lib.hid (HI.out w)
    generalize Lib.bytesWorld w 5 s = W1 at *
    go_enter Tryd.func55, Tryd.ntmps55
    go_wp2_with fail
    refine HI.out.mono ?_
    rintro e w1 ⟨rfl, rfl⟩
    rw [phexV]
    go_wp2_with fail
    refine HT.out.mono ?_
    rintro e w2 ⟨N, rfl, _, _, b⟩
    have B := Lib.hid (HB.out.trans (b.mono HB.out.size))
    clear b
    go_wp2
    go_ret2
    exact ⟨B.out, .inr ⟨.inr HN.out, 65535, _, _, by omega, by omega, rfl⟩⟩
end Go.Proofs.YtgdnckglfhabnaaDoor
