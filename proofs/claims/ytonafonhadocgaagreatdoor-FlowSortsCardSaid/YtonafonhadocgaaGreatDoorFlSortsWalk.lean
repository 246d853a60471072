/- The walk of horologelaw28.FlowSorts. -/
import Derived.Test.YtonafonhadocgaaGreatDoorFlRSorted
import Derived.Test.YtonafonhadocgaaGreatDoorFlKnownWalk
namespace Go.Proofs.YtonafonhadocgaaGreatDoor
open Go.RowKit Go.Shelf

structure S11 (g1 o1 : Nat) (F1 : List Value) (g2 o2 : Nat) (W : World) : Prop where
  f : W.rangeAt g1 o1 F1
  g_ : W.rangeAt g2 o2 F1
structure S17 (b off i : Nat) (F : List Value) (g : Nat) (G : List Value) (W : World) : Prop where
  f : W.rangeAt b (off + i * 36) F
  h : W.rangeAt g (i * 36) F
  z : W.rangeAt g 0 G
theorem S17.keep {b off i g : Nat} {F G : List Value} {W W' : World} (h : S17 b off i F g G W) (hb : Below W.heap.size W W') : S17 b off i F g G W' :=
  ⟨fun i v hv => cell_later hb (h.f i v hv), fun i v hv => cell_later hb (h.h i v hv), fun i v hv => cell_later hb (h.z i v hv)⟩

set_option maxRecDepth 100000 in
set_option maxHeartbeats 8000000 in
theorem sorts_walk (A : Option Addr) (n c : Nat) (fs : List Fl) (w : World) (hr : RdF w A n c fs) (hok : ∀ k ∈ fs, FlOk k) (_hc : c ≤ 9223372036854775807) (env : Env w) :
    Calls Tryz.prog 5 #[.slice A n c] w fun e w' => e = .returned (.bool true) ∧ Below w.heap.size w w' := by
  have HR := Lib.hid hr
  have HOK := Lib.hid hok
  have HL := Lib.hid hr.len
  have hcap := hr.cap
  have E := Lib.hid env
  have HMK := Lib.hid (show OwnFl (w.alloc (.cells #[] 30)) w.heap.size (some ⟨w.heap.size, 0, none⟩) 0 0 [] from ⟨World.ownsRow_made w #[] 0 (Nat.le_refl _) (Nat.zero_le _) (by simp), fun f h => (by cases h), rfl⟩)
  have HR0 := Lib.hid (hr.below ((Below.refl _ w).alloc (Nat.le_refl _) (.cells #[] 30)))
  have B0 := Lib.hid ((Below.refl w.heap.size w).alloc (Nat.le_refl _) (.cells #[] 30))
  clear hr hok env
  by_cases h100 : 100 < n
  · have hg : decide ((100 : Int) < (n : Int)) = true := decide_eq_true (by omega)
    go_enter Tryz.func5, Tryz.ntmps5
    go_wp2_with fail
    refine (works_any _ E.out).mono ?_
    rintro e w1 ⟨rfl, b⟩
    have B1 := Lib.hid b
    clear b
    go_wp2_with fail
    go_ret
    exact ⟨rfl, B1.out⟩
  · have hg : decide ((100 : Int) < (n : Int)) = false := decide_eq_false (by omega)
    go_enter Tryz.func5, Tryz.ntmps5
    go_wp2_with (at_builtin; refine wpList_append_fl (w.alloc (.cells #[] 30)) (by rfl) (.tmp 12) (.tmp 13) (by rfl) w.heap.size (some ⟨w.heap.size, 0, none⟩) 0 0 [] (by rfl) HMK.out A n c fs (by rfl) HR0.out HOK.out (by omega) (by simp) n (by omega) ?_; intro A1 c1 w1 ho1 hb1; rw [List.nil_append] at ho1; have O1 := Lib.hid ho1; have B1 := Lib.hid (B0.out.trans hb1); clear ho1 hb1 HMK HR0 B0)
    have HS := Lib.hid (sorted_any A n c fs w1 (HR.out.below B1.out) HOK.out (by omega))
    refine HS.out.mono ?_
    rintro e w2 ⟨A2, c2, rfl, hr2, b⟩
    have O2 := Lib.hid (O1.out.below b)
    have B2 := Lib.hid (B1.out.trans (b.mono B1.out.size))
    have HR2 := Lib.hid hr2
    clear b HS hr2 O1 B1
    go_wp2_with fail
    have HS := Lib.hid (rsorted_any A1 n c1 fs w2 O2.out.rd HOK.out (by omega))
    refine HS.out.mono ?_
    rintro e w3 ⟨A3, c3, rfl, hr3, b⟩
    have O3 := Lib.hid (O2.out.below b)
    have B3 := Lib.hid (B2.out.trans (b.mono B2.out.size))
    have HR2b := Lib.hid (HR2.out.below b)
    have HR3 := Lib.hid hr3
    clear b HS hr3 O2 B2 HR2
    have HRL := Lib.hid (rsort_len fs)
    have HOKS := Lib.hid (fun f (hf : f ∈ rsortL fs) => HOK.out f ((fold_ins fs [] (by simp)).2 f |>.1 hf |>.resolve_left (by simp)))
    obtain ⟨out, hout⟩ : ∃ out, out = rsortL fs := ⟨_, rfl⟩
    rw [← hout] at HR2b HR3 HRL HOKS ⊢
    clear hout
    obtain ⟨m, hm⟩ : ∃ m, m = out.length := ⟨_, rfl⟩
    have HM := Lib.hid hm
    rw [← hm] at HR2b HR3 HRL ⊢
    clear hm
    have hmn : m ≤ n := by
      have := HRL.out
      rw [HL.out] at this
      exact this
    have h2c := HR2b.out.cap
    have h3c := HR3.out.cap
    have h1c := O3.out.rd.cap
    have I0 := Lib.hid B3.out
    go_wp2_with fail
    go_loopg [26] m (fun gg v wr => ∃ k : Nat, k + gg = m ∧ v = .int .i64 (k : Int) ∧ Hid (Below w3.heap.size w3 wr))
    case atStart => exact ⟨0, by omega, rfl, Lib.hid (Below.refl _ _)⟩
    case round =>
      clear I0
      obtain ⟨k, hkg, rfl, J⟩ := hrel
      cases gk with
      | zero =>
        obtain rfl : k = m := by omega
        have J0 := Lib.hid (And.intro (B3.out.trans (J.out.mono B3.out.size)) (O3.out.below J.out))
        clear J B3 O3 HR2b HR3
        go_wp2_with fail
        go_loopg [41] n (fun gg v wr => ∃ i : Nat, i + gg = n ∧ v = .int .i64 (i : Int) ∧ Hid (Below w.heap.size w wr ∧ OwnFl wr w.heap.size A1 n c1 fs))
        case atStart => exact ⟨0, by omega, rfl, J0⟩
        case round =>
          clear J0
          obtain ⟨i, hig, rfl, I⟩ := hrel
          cases gk with
          | zero =>
            obtain rfl : i = n := by omega
            go_wp2_with fail
            refine (works_any _ (E.out.below I.out.1)).mono ?_
            rintro e w9 ⟨rfl, b⟩
            have B9 := Lib.hid (I.out.1.trans (b.mono I.out.1.size))
            clear b
            go_wp2_with fail
            go_ret
            exact ⟨rfl, B9.out⟩
          | succ g2 =>
            have hi : i < n := by omega
            have hn0 : 0 < n := by omega
            obtain ⟨b, off, hA0, _, hrg⟩ := HR.out.at_ (by omega)
            subst hA0
            rcases I.out.2.form with ⟨_, h0, _⟩ | ⟨g, rfl, _⟩
            · omega
            obtain ⟨x, hx⟩ : ∃ x, fs[i]? = some x := ⟨_, List.getElem?_eq_getElem (by rw [HL.out]; exact hi)⟩
            obtain ⟨y, hy⟩ : ∃ y, fs[0]? = some y := ⟨_, List.getElem?_eq_getElem (by rw [HL.out]; exact hn0)⟩
            have hxo := HOK.out x (List.mem_of_getElem? hx)
            have hyo := HOK.out y (List.mem_of_getElem? hy)
            have hxr := I.out.2.rd.of hx
            have hyr := I.out.2.rd.of hy
            rw [Nat.zero_add] at hxr hyr
            obtain ⟨F1, hF1⟩ : ∃ F1, F1 = flC x.1 x.2 := ⟨_, rfl⟩
            obtain ⟨F2, hF2⟩ : ∃ F2, F2 = flC y.1 y.2 := ⟨_, rfl⟩
            have HI1 := Lib.hid (show (Tryz.prog.info? 30).map (·.size) = some F1.toList.length by rw [hF1, Array.length_toList, flC_size _ _ hxo.la hxo.lb]; exact flSize)
            have HI2 := Lib.hid (show (Tryz.prog.info? 30).map (·.size) = some F2.toList.length by rw [hF2, Array.length_toList, flC_size _ _ hyo.la hyo.lb]; exact flSize)
            have hq : ∀ W, (Op.equalIn 10000 30 (.agg F1) (.agg F1)).run Tryz.prog W = .ok true W := fun W => by rw [hF1]; exact (eq_flow x x hxo.la hxo.lb hxo.la hxo.lb W).trans (congrArg (fun v => Result.ok v W) (decide_eq_true rfl))
            have HLS := Lib.hid (show ∀ W, Calls Tryz.prog 15 #[.agg F2, .agg F1] W fun e w' => e = .returned (.bool (lessF y x)) ∧ Below W.heap.size W w' from fun W => by rw [hF1, hF2]; exact fless_any y x hyo.la hyo.lb hxo.la hxo.lb hyo.pa hyo.pb hxo.pa hxo.pb W)
            have HLR := Lib.hid (show ∀ W, Calls Tryz.prog 19 #[.agg F2, .agg F1] W fun e w' => e = .returned (.bool (lessF y x)) ∧ Below W.heap.size W w' from fun W => by rw [hF1, hF2]; exact rless28_any y x hyo hxo W)
            generalize lessF y x = lb at *
            have HS0 := Lib.hid (show S17 b off i F1.toList g F2.toList wr from ⟨fun j v hv => cell_later I.out.1 (hrg i x hx j v (by rw [← hF1]; exact hv)), by rw [hF1]; exact hxr, by rw [hF2]; exact hyr⟩)
            clear hrg hx hy hxo hyo hF1 hF2 hxr hyr
            go_wp2_with fail
            go_cut [71] from 44 to 71 (fun s wx => s = .bool false ∧ Below w.heap.size w wx ∧ OwnFl wx w.heap.size (some ⟨g, 0, none⟩) n c1 fs)
            case first =>
              refine wp_region_held_drew (S := S17 b off i F1.toList g F2.toList) (by kernel_rfl) (⟨HS0.out.f, HS0.out.h, HS0.out.z⟩) (fun hHeld => ?_)
              have BB := Lib.hid (below_drew (Below.refl wr.heap.size wr))
              clear HS0
              refine wpAnyH_take (i := 0) (oi := _) (v := ?_) rfl (by kernel_rfl) (by kernel_rfl) (by kernel_rfl) (fun _ _ _ h => h) (Or.inl ⟨by rfl, ?_⟩) (by assumption) ?_
              case refine_2 => (intro w hSw; go_simp <;> with_reducible rfl)
              try simp only [List.getElem_toArray, List.getElem_cons_zero, Act.put, List.setIfInBounds_toArray, List.set_cons_zero, List.set_cons_succ]
              refine wpAnyH_take (i := 1) (oi := _) (v := ?_) rfl (by kernel_rfl) (by kernel_rfl) (by kernel_rfl) (fun _ _ _ h => h) (Or.inl ⟨by rfl, ?_⟩) (by assumption) ?_
              case refine_2 => (intro w hSw; go_simp <;> with_reducible rfl)
              try simp only [List.getElem_toArray, List.getElem_cons_zero, List.getElem_cons_succ, Act.put, List.setIfInBounds_toArray, List.set_cons_zero, List.set_cons_succ]
              refine wpAnyH_take (i := 2) (oi := _) (v := ?_) rfl (by kernel_rfl) (by kernel_rfl) (by kernel_rfl) (fun _ _ _ h => h) (Or.inl ⟨by rfl, ?_⟩) (by assumption) ?_
              case refine_2 => (intro w hSw; go_simp <;> with_reducible rfl)
              try simp only [List.getElem_toArray, List.getElem_cons_zero, List.getElem_cons_succ, Act.put, List.setIfInBounds_toArray, List.set_cons_zero, List.set_cons_succ]
              refine wpAnyH_take (i := 3) (oi := _) (v := .agg F1.toList.toArray) rfl (by kernel_rfl) (by kernel_rfl) (by kernel_rfl) (fun _ _ _ h => h) (yieldsIf_load_rngF 30 (.tmp 46) b (off + i * 36) F1.toList _ (fun w h => h.f) (by rfl) (by rfl) Tryz.underlying30 rfl HI1.out (by rfl)) (by assumption) ?_
              try simp only [List.getElem_toArray, List.getElem_cons_zero, List.getElem_cons_succ, Act.put, List.setIfInBounds_toArray, List.set_cons_zero, List.set_cons_succ]
              refine wpAnyH_take (i := 4) (oi := _) (v := ?_) rfl (by kernel_rfl) (by kernel_rfl) (by kernel_rfl) (fun _ _ _ h => h) (Or.inl ⟨by rfl, ?_⟩) (by assumption) ?_
              case refine_2 => (intro w hSw; go_simp <;> with_reducible rfl)
              try simp only [List.getElem_toArray, List.getElem_cons_zero, List.getElem_cons_succ, Act.put, List.setIfInBounds_toArray, List.set_cons_zero, List.set_cons_succ]
              refine wpAnyH_take (i := 5) (oi := _) (v := ?_) rfl (by kernel_rfl) (by kernel_rfl) (by kernel_rfl) (fun _ _ _ h => h) (Or.inl ⟨by rfl, ?_⟩) (by assumption) ?_
              case refine_2 => (intro w hSw; go_simp <;> with_reducible rfl)
              try simp only [List.getElem_toArray, List.getElem_cons_zero, List.getElem_cons_succ, Act.put, List.setIfInBounds_toArray, List.set_cons_zero, List.set_cons_succ]
              refine wpAnyH_take (i := 6) (oi := _) (v := ?_) rfl (by kernel_rfl) (by kernel_rfl) (by kernel_rfl) (fun _ _ _ h => h) (Or.inl ⟨by rfl, ?_⟩) (by assumption) ?_
              case refine_2 => (intro w hSw; go_simp <;> with_reducible rfl)
              try simp only [List.getElem_toArray, List.getElem_cons_zero, List.getElem_cons_succ, Act.put, List.setIfInBounds_toArray, List.set_cons_zero, List.set_cons_succ]
              refine wpAnyH_take (i := 7) (oi := _) (v := .agg F1.toList.toArray) rfl (by kernel_rfl) (by kernel_rfl) (by kernel_rfl) (fun _ _ _ h => h) (yieldsIf_load_rngF 30 (.tmp 50) g (i * 36) F1.toList _ (fun w h => h.h) (by rfl) (by rfl) Tryz.underlying30 rfl HI1.out (by rfl)) (by assumption) ?_
              try simp only [List.getElem_toArray, List.getElem_cons_zero, List.getElem_cons_succ, Act.put, List.setIfInBounds_toArray, List.set_cons_zero, List.set_cons_succ]
              refine wpAnyH_take (i := 8) (oi := _) (v := ?_) rfl (by kernel_rfl) (by kernel_rfl) (by kernel_rfl) (fun _ _ _ h => h) (Or.inl ⟨by rfl, ?_⟩) (by assumption) ?_
              case refine_2 => (intro w hSw; go_simp <;> with_reducible rfl)
              try simp only [List.getElem_toArray, List.getElem_cons_zero, List.getElem_cons_succ, Act.put, List.setIfInBounds_toArray, List.set_cons_zero, List.set_cons_succ]
              refine wpAnyH_take (i := 9) (oi := _) (v := ?_) rfl (by kernel_rfl) (by kernel_rfl) (by kernel_rfl) (fun _ _ _ h => h) (Or.inl ⟨by rfl, ?_⟩) (by assumption) ?_
              case refine_2 => (intro w hSw; go_simp <;> with_reducible rfl)
              try simp only [List.getElem_toArray, List.getElem_cons_zero, List.getElem_cons_succ, Act.put, List.setIfInBounds_toArray, List.set_cons_zero, List.set_cons_succ]
              refine wpAnyH_take (i := 10) (oi := _) (v := ?_) rfl (by kernel_rfl) (by kernel_rfl) (by kernel_rfl) (fun _ _ _ h => h) (Or.inl ⟨by rfl, ?_⟩) (by assumption) ?_
              case refine_2 => (intro w hSw; go_simp <;> with_reducible rfl)
              try simp only [List.getElem_toArray, List.getElem_cons_zero, List.getElem_cons_succ, Act.put, List.setIfInBounds_toArray, List.set_cons_zero, List.set_cons_succ]
              refine wpAnyH_take (i := 11) (oi := _) (v := ?_) rfl (by kernel_rfl) (by kernel_rfl) (by kernel_rfl) (fun _ _ _ h => h) (Or.inl ⟨by rfl, ?_⟩) (by assumption) ?_
              case refine_2 => (intro w hSw; go_simp <;> with_reducible rfl)
              try simp only [List.getElem_toArray, List.getElem_cons_zero, List.getElem_cons_succ, Act.put, List.setIfInBounds_toArray, List.set_cons_zero, List.set_cons_succ]
              refine wpAnyH_take (i := 12) (oi := _) (v := .agg F2.toList.toArray) rfl (by kernel_rfl) (by kernel_rfl) (by kernel_rfl) (fun _ _ _ h => h) (yieldsIf_load_rngF 30 (.tmp 55) g 0 F2.toList _ (fun w h => h.z) (by rfl) (by rfl) Tryz.underlying30 rfl HI2.out (by rfl)) (by assumption) ?_
              try simp only [List.getElem_toArray, List.getElem_cons_zero, List.getElem_cons_succ, Act.put, List.setIfInBounds_toArray, List.set_cons_zero, List.set_cons_succ]
              refine wpAnyH_take (i := 13) (oi := _) (v := ?_) rfl (by kernel_rfl) (by kernel_rfl) (by kernel_rfl) (fun _ _ _ h => h) (Or.inl ⟨by rfl, ?_⟩) (by assumption) ?_
              case refine_2 => (intro w hSw; go_simp <;> with_reducible rfl)
              try simp only [List.getElem_toArray, List.getElem_cons_zero, List.getElem_cons_succ, Act.put, List.setIfInBounds_toArray, List.set_cons_zero, List.set_cons_succ]
              refine wpAnyH_take (i := 14) (oi := _) (v := ?_) rfl (by kernel_rfl) (by kernel_rfl) (by kernel_rfl) (fun _ _ _ h => h) (Or.inl ⟨by rfl, ?_⟩) (by assumption) ?_
              case refine_2 => (intro w hSw; go_simp <;> with_reducible rfl)
              try simp only [List.getElem_toArray, List.getElem_cons_zero, List.getElem_cons_succ, Act.put, List.setIfInBounds_toArray, List.set_cons_zero, List.set_cons_succ]
              refine wpAnyH_take (i := 15) (oi := _) (v := ?_) rfl (by kernel_rfl) (by kernel_rfl) (by kernel_rfl) (fun _ _ _ h => h) (Or.inl ⟨by rfl, ?_⟩) (by assumption) ?_
              case refine_2 => (intro w hSw; go_simp <;> with_reducible rfl)
              try simp only [List.getElem_toArray, List.getElem_cons_zero, List.getElem_cons_succ, Act.put, List.setIfInBounds_toArray, List.set_cons_zero, List.set_cons_succ]
              refine wpAnyH_take (i := 16) (oi := _) (v := .agg F1.toList.toArray) rfl (by kernel_rfl) (by kernel_rfl) (by kernel_rfl) (fun _ _ _ h => h) (yieldsIf_load_rngF 30 (.tmp 59) g (i * 36) F1.toList _ (fun w h => h.h) (by rfl) (by rfl) Tryz.underlying30 rfl HI1.out (by rfl)) (by assumption) ?_
              try simp only [List.getElem_toArray, List.getElem_cons_zero, List.getElem_cons_succ, Act.put, List.setIfInBounds_toArray, List.set_cons_zero, List.set_cons_succ]
              refine wpAnyH_take (i := 18) (oi := _) (v := ?_) rfl (by kernel_rfl) (by kernel_rfl) (by kernel_rfl) (fun _ _ _ h => h) (Or.inl ⟨by rfl, ?_⟩) (by assumption) ?_
              case refine_2 => (intro w hSw; go_simp <;> with_reducible rfl)
              try simp only [List.getElem_toArray, List.getElem_cons_zero, List.getElem_cons_succ, Act.put, List.setIfInBounds_toArray, List.set_cons_zero, List.set_cons_succ]
              refine wpAnyH_take (i := 19) (oi := _) (v := ?_) rfl (by kernel_rfl) (by kernel_rfl) (by kernel_rfl) (fun _ _ _ h => h) (Or.inl ⟨by rfl, ?_⟩) (by assumption) ?_
              case refine_2 => (intro w hSw; go_simp <;> with_reducible rfl)
              try simp only [List.getElem_toArray, List.getElem_cons_zero, List.getElem_cons_succ, Act.put, List.setIfInBounds_toArray, List.set_cons_zero, List.set_cons_succ]
              refine wpAnyH_take (i := 20) (oi := _) (v := .agg F2.toList.toArray) rfl (by kernel_rfl) (by kernel_rfl) (by kernel_rfl) (fun _ _ _ h => h) (yieldsIf_load_rngF 30 (.tmp 63) g 0 F2.toList _ (fun w h => h.z) (by rfl) (by rfl) Tryz.underlying30 rfl HI2.out (by rfl)) (by assumption) ?_
              try simp only [List.getElem_toArray, List.getElem_cons_zero, List.getElem_cons_succ, Act.put, List.setIfInBounds_toArray, List.set_cons_zero, List.set_cons_succ]
              refine wpAnyH_take (i := 21) (oi := _) (v := ?_) rfl (by kernel_rfl) (by kernel_rfl) (by kernel_rfl) (fun _ _ _ h => h) (Or.inl ⟨by rfl, ?_⟩) (by assumption) ?_
              case refine_2 => (intro w hSw; go_simp <;> with_reducible rfl)
              try simp only [List.getElem_toArray, List.getElem_cons_zero, List.getElem_cons_succ, Act.put, List.setIfInBounds_toArray, List.set_cons_zero, List.set_cons_succ]
              refine wpAnyH_take (i := 22) (oi := _) (v := ?_) rfl (by kernel_rfl) (by kernel_rfl) (by kernel_rfl) (fun _ _ _ h => h) (Or.inl ⟨by rfl, ?_⟩) (by assumption) ?_
              case refine_2 => (intro w hSw; go_simp <;> with_reducible rfl)
              try simp only [List.getElem_toArray, List.getElem_cons_zero, List.getElem_cons_succ, Act.put, List.setIfInBounds_toArray, List.set_cons_zero, List.set_cons_succ]
              refine wpAnyH_take (i := 23) (oi := _) (v := ?_) rfl (by kernel_rfl) (by kernel_rfl) (by kernel_rfl) (fun _ _ _ h => h) (Or.inl ⟨by rfl, ?_⟩) (by assumption) ?_
              case refine_2 => (intro w hSw; go_simp <;> with_reducible rfl)
              try simp only [List.getElem_toArray, List.getElem_cons_zero, List.getElem_cons_succ, Act.put, List.setIfInBounds_toArray, List.set_cons_zero, List.set_cons_succ]
              refine wpAnyH_take (i := 24) (oi := _) (v := .agg F1.toList.toArray) rfl (by kernel_rfl) (by kernel_rfl) (by kernel_rfl) (fun _ _ _ h => h) (yieldsIf_load_rngF 30 (.tmp 67) g (i * 36) F1.toList _ (fun w h => h.h) (by rfl) (by rfl) Tryz.underlying30 rfl HI1.out (by rfl)) (by assumption) ?_
              try simp only [List.getElem_toArray, List.getElem_cons_zero, List.getElem_cons_succ, Act.put, List.setIfInBounds_toArray, List.set_cons_zero, List.set_cons_succ]
              refine wpAnyH_ready (rs := [17]) (by kernel_rfl) (by simp) ?_
              refine AllReadyH.cons (o := _) rfl (fun K hK => ?_) AllReadyH.nil
              simp only [List.getElem_toArray, List.getElem_cons_zero, List.getElem_cons_succ]
              go_simp
              refine (HLS.out _).mono ?_
              rintro e wn ⟨rfl, b⟩
              have Bn := Lib.hid (BB.out.trans (b.mono BB.out.size))
              have hH := hHeld.keep b
              clear b BB
              go_simp
              refine hK.out _ _ hH (fun hHeld2 => ?_)
              clear hK K hHeld hH
              have hHeld := hHeld2
              have BB := Bn
              clear hHeld2 Bn
              try simp only [List.getElem_toArray, List.getElem_cons_zero, List.getElem_cons_succ, Act.put, List.setIfInBounds_toArray, List.set_cons_zero, List.set_cons_succ]
              refine wpAnyH_ready (rs := [25]) (by kernel_rfl) (by simp) ?_
              refine AllReadyH.cons (o := _) rfl (fun K hK => ?_) AllReadyH.nil
              simp only [List.getElem_toArray, List.getElem_cons_zero, List.getElem_cons_succ]
              go_simp
              refine (HLR.out _).mono ?_
              rintro e wn ⟨rfl, b⟩
              have Bn := Lib.hid (BB.out.trans (b.mono BB.out.size))
              have hH := hHeld.keep b
              clear b BB
              go_simp
              refine hK.out _ _ hH (fun hHeld2 => ?_)
              clear hK K hHeld hH
              have hHeld := hHeld2
              have BB := Bn
              clear hHeld2 Bn
              try simp only [List.getElem_toArray, List.getElem_cons_zero, List.getElem_cons_succ, Act.put, List.setIfInBounds_toArray, List.set_cons_zero, List.set_cons_succ]
              refine wpAnyH_take (i := 26) (oi := _) (v := ?_) rfl (by kernel_rfl) (by kernel_rfl) (by kernel_rfl) (fun _ _ _ h => h) (Or.inl ⟨by rfl, ?_⟩) (by assumption) ?_
              case refine_2 => (intro w hSw; go_simp <;> with_reducible rfl)
              try simp only [List.getElem_toArray, List.getElem_cons_zero, List.getElem_cons_succ, Act.put, List.setIfInBounds_toArray, List.set_cons_zero, List.set_cons_succ]
              refine wpAnyH_take (i := 27) (oi := _) (v := ?_) rfl (by kernel_rfl) (by kernel_rfl) (by kernel_rfl) (fun _ _ _ h => h) (Or.inl ⟨by rfl, ?_⟩) (by assumption) ?_
              case refine_2 => (intro w hSw; go_simp <;> with_reducible rfl)
              try simp only [List.getElem_toArray, List.getElem_cons_zero, List.getElem_cons_succ, Act.put, List.setIfInBounds_toArray, List.set_cons_zero, List.set_cons_succ]
              have hZ := hHeld
              refine wpAnyH_done (by kernel_rfl) ?_ _
              clear hHeld
              go_wp2_with fail
              go_meet
              exact ⟨rfl, I.out.1.trans (BB.out.mono I.out.1.size), I.out.2.below BB.out⟩
            case rest =>
              obtain ⟨rfl, hb, ho⟩ := hcut
              have I2 := Lib.hid (And.intro hb ho)
              clear hb ho I
              go_wp2_with fail
              go_roundg g2
              case measure => omega
              case rel => exact ⟨i + 1, by omega, by go_num, I2⟩
      | succ g2 =>
        have hk : k < m := by omega
        obtain ⟨b2, off2, hA2, _, hrg2⟩ := HR2b.out.at_ (by omega)
        obtain ⟨b3, off3, hA3, _, hrg3⟩ := HR3.out.at_ (by omega)
        subst hA2 hA3
        obtain ⟨x, hx⟩ : ∃ x, out[k]? = some x := ⟨_, List.getElem?_eq_getElem (by rw [← HM.out]; exact hk)⟩
        have hxo := HOKS.out x (List.mem_of_getElem? hx)
        obtain ⟨F1, hF1⟩ : ∃ F1, F1 = flC x.1 x.2 := ⟨_, rfl⟩
        have HI1 := Lib.hid (show (Tryz.prog.info? 30).map (·.size) = some F1.toList.length by rw [hF1, Array.length_toList, flC_size _ _ hxo.la hxo.lb]; exact flSize)
        have hq : ∀ W, (Op.equalIn 10000 30 (.agg F1) (.agg F1)).run Tryz.prog W = .ok true W := fun W => by rw [hF1]; exact (eq_flow x x hxo.la hxo.lb hxo.la hxo.lb W).trans (congrArg (fun v => Result.ok v W) (decide_eq_true rfl))
        have HS0 := Lib.hid (show S11 b2 (off2 + k * 36) F1.toList b3 (off3 + k * 36) wr from ⟨fun j v hv => cell_later J.out (hrg2 k x hx j v (by rw [← hF1]; exact hv)), fun j v hv => cell_later J.out (hrg3 k x hx j v (by rw [← hF1]; exact hv))⟩)
        clear hrg2 hrg3 hx hxo hF1
        go_wp2_with fail
        refine wp_region_held_drew (S := S11 b2 (off2 + k * 36) F1.toList b3 (off3 + k * 36)) (by kernel_rfl) (⟨HS0.out.f, HS0.out.g_⟩) (fun hHeld => ?_)
        have BB := Lib.hid (below_drew J.out)
        clear J HS0
        refine wpAnyH_take (i := 0) (oi := _) (v := ?_) rfl (by kernel_rfl) (by kernel_rfl) (by kernel_rfl) (fun _ _ _ h => h) (Or.inl ⟨by rfl, ?_⟩) (by assumption) ?_
        case refine_2 => (intro w hSw; go_simp <;> with_reducible rfl)
        try simp only [List.getElem_toArray, List.getElem_cons_zero, Act.put, List.setIfInBounds_toArray, List.set_cons_zero, List.set_cons_succ]
        refine wpAnyH_take (i := 1) (oi := _) (v := ?_) rfl (by kernel_rfl) (by kernel_rfl) (by kernel_rfl) (fun _ _ _ h => h) (Or.inl ⟨by rfl, ?_⟩) (by assumption) ?_
        case refine_2 => (intro w hSw; go_simp <;> with_reducible rfl)
        try simp only [List.getElem_toArray, List.getElem_cons_zero, List.getElem_cons_succ, Act.put, List.setIfInBounds_toArray, List.set_cons_zero, List.set_cons_succ]
        refine wpAnyH_take (i := 2) (oi := _) (v := ?_) rfl (by kernel_rfl) (by kernel_rfl) (by kernel_rfl) (fun _ _ _ h => h) (Or.inl ⟨by rfl, ?_⟩) (by assumption) ?_
        case refine_2 => (intro w hSw; go_simp <;> with_reducible rfl)
        try simp only [List.getElem_toArray, List.getElem_cons_zero, List.getElem_cons_succ, Act.put, List.setIfInBounds_toArray, List.set_cons_zero, List.set_cons_succ]
        refine wpAnyH_take (i := 3) (oi := _) (v := .agg F1.toList.toArray) rfl (by kernel_rfl) (by kernel_rfl) (by kernel_rfl) (fun _ _ _ h => h) (yieldsIf_load_rngF 30 (.tmp 31) b2 (off2 + k * 36) F1.toList _ (fun w h => h.f) (by rfl) (by rfl) Tryz.underlying30 rfl HI1.out (by rfl)) (by assumption) ?_
        try simp only [List.getElem_toArray, List.getElem_cons_zero, List.getElem_cons_succ, Act.put, List.setIfInBounds_toArray, List.set_cons_zero, List.set_cons_succ]
        refine wpAnyH_take (i := 4) (oi := _) (v := ?_) rfl (by kernel_rfl) (by kernel_rfl) (by kernel_rfl) (fun _ _ _ h => h) (Or.inl ⟨by rfl, ?_⟩) (by assumption) ?_
        case refine_2 => (intro w hSw; go_simp <;> with_reducible rfl)
        try simp only [List.getElem_toArray, List.getElem_cons_zero, List.getElem_cons_succ, Act.put, List.setIfInBounds_toArray, List.set_cons_zero, List.set_cons_succ]
        refine wpAnyH_take (i := 5) (oi := _) (v := ?_) rfl (by kernel_rfl) (by kernel_rfl) (by kernel_rfl) (fun _ _ _ h => h) (Or.inl ⟨by rfl, ?_⟩) (by assumption) ?_
        case refine_2 => (intro w hSw; go_simp <;> with_reducible rfl)
        try simp only [List.getElem_toArray, List.getElem_cons_zero, List.getElem_cons_succ, Act.put, List.setIfInBounds_toArray, List.set_cons_zero, List.set_cons_succ]
        refine wpAnyH_take (i := 6) (oi := _) (v := ?_) rfl (by kernel_rfl) (by kernel_rfl) (by kernel_rfl) (fun _ _ _ h => h) (Or.inl ⟨by rfl, ?_⟩) (by assumption) ?_
        case refine_2 => (intro w hSw; go_simp <;> with_reducible rfl)
        try simp only [List.getElem_toArray, List.getElem_cons_zero, List.getElem_cons_succ, Act.put, List.setIfInBounds_toArray, List.set_cons_zero, List.set_cons_succ]
        refine wpAnyH_take (i := 7) (oi := _) (v := .agg F1.toList.toArray) rfl (by kernel_rfl) (by kernel_rfl) (by kernel_rfl) (fun _ _ _ h => h) (yieldsIf_load_rngF 30 (.tmp 35) b3 (off3 + k * 36) F1.toList _ (fun w h => h.g_) (by rfl) (by rfl) Tryz.underlying30 rfl HI1.out (by rfl)) (by assumption) ?_
        try simp only [List.getElem_toArray, List.getElem_cons_zero, List.getElem_cons_succ, Act.put, List.setIfInBounds_toArray, List.set_cons_zero, List.set_cons_succ]
        refine wpAnyH_take (i := 8) (oi := _) (v := ?_) rfl (by kernel_rfl) (by kernel_rfl) (by kernel_rfl) (fun _ _ _ h => h) (Or.inl ⟨by rfl, ?_⟩) (by assumption) ?_
        case refine_2 => (intro w hSw; go_simp <;> with_reducible rfl)
        try simp only [List.getElem_toArray, List.getElem_cons_zero, List.getElem_cons_succ, Act.put, List.setIfInBounds_toArray, List.set_cons_zero, List.set_cons_succ]
        have hZ := hHeld
        refine wpAnyH_done (by kernel_rfl) ?_ _
        clear hHeld
        clear hZ
        go_wp2_with fail
        go_roundg g2
        case measure => omega
        case rel => exact ⟨k + 1, by omega, by go_num, BB⟩
end Go.Proofs.YtonafonhadocgaaGreatDoor
