/- The reference's Sorted of chapter 28. -/
import Derived.Test.YtonafonhadocgaaGreatDoorFlOwn
import Derived.Test.YtonafonhadocgaaGreatDoorFlSorted
import Derived.Test.YtonafonhadocgaaGreatDoorQM
namespace Go.Proofs.YtonafonhadocgaaGreatDoor
open Go.RowKit Go.Shelf

/-- Two flows read, and the own row. -/
structure R6 (base g1 o1 : Nat) (F1 : List Value) (g2 o2 : Nat) (F2 : List Value) (A : Option Addr) (n c : Nat) (fs : List Fl) (W : World) : Prop where
  f : W.rangeAt g1 o1 F1
  g_ : W.rangeAt g2 o2 F2
  own : OwnFl W base A n c fs
theorem R6.keep {base g1 o1 : Nat} {F1 : List Value} {g2 o2 : Nat} {F2 : List Value} {A : Option Addr} {n c : Nat} {fs : List Fl} {W W' : World} (h : R6 base g1 o1 F1 g2 o2 F2 A n c fs W) (hb : Below W.heap.size W W') : R6 base g1 o1 F1 g2 o2 F2 A n c fs W' :=
  ⟨fun i v hv => cell_later hb (h.f i v hv), fun i v hv => cell_later hb (h.g_ i v hv), h.own.below hb⟩
/-- Does the reference go on at k? -/
def goOn (x : Fl) (l : List Fl) (k : Nat) : Bool := match l[k]? with | some y => lessF y x | none => false
theorem ins_at {x : Fl} : ∀ (l : List Fl) (k : Nat), (∀ j, j < k → goOn x l j = true) → goOn x l k = false → insAt x l = k
  | [], 0, _, _ => rfl
  | [], k + 1, h, _ => by have := h 0 (by omega); cases this
  | y :: l, 0, _, h => by
    unfold insAt
    rw [List.takeWhile_cons_of_neg (by rw [show lessF y x = false from h]; decide)]
    rfl
  | y :: l, k + 1, hs, h => by
    have h0 : lessF y x = true := hs 0 (by omega)
    have := ins_at l k (fun j hj => hs (j + 1) (by omega)) h
    unfold insAt at *
    rw [List.takeWhile_cons_of_pos (p := fun y => lessF y x) h0, List.length_cons, this]
theorem go_lt {x : Fl} {l : List Fl} {k : Nat} (h : goOn x l k = true) : k < l.length := by
  unfold goOn at h
  split at h
  · rename_i y hy
    exact (List.getElem?_eq_some_iff.1 hy).1
  · cases h

theorem built1 (a : Fl) (oa : FlOk a) : Tryz.prog.builtSlice 30 1 [(0, .agg (flC a.1 a.2))] = some (flC a.1 a.2) := by
  obtain ⟨⟨u1, l1, p1⟩, ⟨v1, m1, q1⟩⟩ := a
  obtain ⟨a0, a1, a2, a3, a4, a5, a6, a7, a8, a9, a10, a11, a12, a13, a14, a15, h1⟩ := sixteen l1 oa.la
  obtain ⟨b0, b1, b2, b3, b4, b5, b6, b7, b8, b9, b10, b11, b12, b13, b14, b15, h2⟩ := sixteen m1 oa.lb
  clear oa
  subst h1 h2
  kernel_rfl

set_option maxRecDepth 100000 in
set_option maxHeartbeats 8000000 in
theorem rsorted_any (A : Option Addr) (n c : Nat) (fs : List Fl) (w : World) (hr : RdF w A n c fs) (hok : ∀ f ∈ fs, FlOk f) (hn : n ≤ 1000) :
    Calls Tryz.prog 18 #[.slice A n c] w fun e w' => ∃ A' c', e = .returned (.slice A' (rsortL fs).length c') ∧ RdF w' A' (rsortL fs).length c' (rsortL fs) ∧ Below w.heap.size w w' := by
  have HR := Lib.hid hr
  have HOK := Lib.hid hok
  have HL := Lib.hid hr.len
  have hcap := hr.cap
  have I0 := Lib.hid (And.intro (OwnFl.nil_ w w.heap.size) (Below.refl w.heap.size w))
  clear hr hok
  go_enter Tryz.func18, Tryz.ntmps18
  go_wp2_with fail
  go_loopg [3, 4] n (fun gg v u wr => ∃ (i m : Nat) (A1 : Option Addr) (c1 : Nat), i + gg = n ∧ u = .int .i64 (i : Int) ∧ v = .slice A1 m c1 ∧ m ≤ i ∧ Hid (OwnFl wr w.heap.size A1 m c1 (rsortL (fs.take i)) ∧ Below w.heap.size w wr))
  case atStart => exact ⟨0, 0, none, 0, by omega, rfl, rfl, by omega, I0⟩
  case round =>
    clear I0
    obtain ⟨i, m, A1, c1, hig, rfl, rfl, hmi, I⟩ := hrel
    cases gk with
    | zero =>
      obtain rfl : i = n := by omega
      have h1 := I.out.1
      rw [List.take_of_length_le (by rw [HL.out]; omega)] at h1
      have H1 := Lib.hid h1
      have HM := Lib.hid h1.len
      clear h1
      go_wp2_with fail
      go_ret
      exact ⟨A1, c1, by rw [HM.out]; rfl, by rw [HM.out]; exact H1.out.rd, I.out.2⟩
    | succ g2 =>
      have hi : i < n := by omega
      obtain ⟨b, off, hA, hbl, hrng⟩ := HR.out.at_ (by omega)
      subst hA
      obtain ⟨x, hx⟩ : ∃ x, fs[i]? = some x := ⟨_, List.getElem?_eq_getElem (by rw [HL.out]; exact hi)⟩
      have hxo := HOK.out x (List.mem_of_getElem? hx)
      have HT := Lib.hid (show rsortL (fs.take (i + 1)) = insU x (rsortL (fs.take i)) by rw [List.take_add_one, hx]; exact rsort_snoc _ x)
      have HX := Lib.hid (hrng i x hx)
      have HXO := Lib.hid hxo
      have HBL := Lib.hid hbl
      obtain ⟨F2, hF2⟩ : ∃ F2, F2 = flC x.1 x.2 := ⟨_, rfl⟩
      have HI2 := Lib.hid (show (Tryz.prog.info? 30).map (·.size) = some F2.toList.length by rw [hF2, Array.length_toList, flC_size _ _ hxo.la hxo.lb]; exact flSize)
      have HF2 := Lib.hid hF2
      have HX2 := Lib.hid (show ∀ wx, Below w.heap.size w wx → wx.rangeAt b (off + i * 36) F2.toList from fun wx hb j v hv => cell_later hb (hrng i x hx j v (by rw [← hF2]; exact hv)))
      clear hrng hx hxo hF2 hbl HX
      obtain ⟨out, hout⟩ : ∃ out, out = rsortL (fs.take i) := ⟨_, rfl⟩
      rw [← hout] at HT I
      have HO := Lib.hid hout
      clear hout
      have hm := I.out.1.len
      have HM := Lib.hid hm
      clear hm
      go_wp2_with fail
      go_loopg [5] m (fun gg v wq => ∃ k : Nat, k + gg = m ∧ v = .int .i64 (k : Int) ∧ Hid (∀ j, j < k → goOn x out j = true) ∧ Hid (OwnFl wq w.heap.size A1 m c1 out ∧ Below w.heap.size w wq))
      case atStart => exact ⟨0, by omega, rfl, Lib.hid (fun j h => by omega), I⟩
      case round =>
        clear I
        obtain ⟨k, hkg, rfl, HG, J⟩ := hrel
        have hkm : k ≤ m := by omega
        go_wp2_with fail
        go_cut [27] from 13 to 27 (fun s wx => s = .bool (goOn x out k) ∧ OwnFl wx w.heap.size A1 m c1 out ∧ Below w.heap.size w wx)
        case first =>
          by_cases hlt : k < m
          · obtain ⟨y, hy⟩ : ∃ y, out[k]? = some y := ⟨_, List.getElem?_eq_getElem (by rw [HM.out]; exact hlt)⟩
            have hyo := J.out.1.ok y (List.mem_of_getElem? hy)
            rcases J.out.1.form with ⟨rfl, rfl, rfl⟩ | ⟨g1, rfl, hmc⟩
            · omega
            have hyr := J.out.1.rd.of hy
            rw [Nat.zero_add] at hyr
            obtain ⟨F1, hF1⟩ : ∃ F1, F1 = flC y.1 y.2 := ⟨_, rfl⟩
            have HI1 := Lib.hid (show (Tryz.prog.info? 30).map (·.size) = some F1.toList.length by rw [hF1, Array.length_toList, flC_size _ _ hyo.la hyo.lb]; exact flSize)
            have HLS := Lib.hid (show ∀ W, Calls Tryz.prog 19 #[.agg F1, .agg F2] W fun e w' => e = .returned (.bool (lessF y x)) ∧ Below W.heap.size W w' from fun W => by rw [hF1, HF2.out]; exact rless28_any y x hyo HXO.out W)
            have hgo : goOn x out k = lessF y x := by unfold goOn; rw [hy]
            have HGO := Lib.hid hgo
            have HS0 := Lib.hid (show R6 w.heap.size g1 (k * 36) F1.toList b (off + i * 36) F2.toList (some ⟨g1, 0, none⟩) m c1 out wr from ⟨by rw [hF1]; exact hyr, HX2.out _ J.out.2, J.out.1⟩)
            have hd : decide ((k : Int) < (m : Int)) = true := decide_eq_true (by omega)
            clear hF1 hyr hy hyo hgo
            refine wp_region_held_drew (S := R6 w.heap.size g1 (k * 36) F1.toList b (off + i * 36) F2.toList (some ⟨g1, 0, none⟩) m c1 out) (by kernel_rfl) (⟨HS0.out.f, HS0.out.g_, HS0.out.own.below (below_drew (Below.refl _ _))⟩) (fun hHeld => ?_)
            have BB := Lib.hid (below_drew J.out.2)
            clear J HS0
            refine wpAnyH_take (i := 0) (oi := _) (v := ?_) rfl (by kernel_rfl) (by kernel_rfl) (by kernel_rfl) (fun _ _ _ h => h) (Or.inl ⟨by rfl, ?_⟩) (by assumption) ?_
            case refine_2 => (intro w hSw; go_simp <;> with_reducible rfl)
            try simp only [List.getElem_toArray, List.getElem_cons_zero, Act.put, List.setIfInBounds_toArray, List.set_cons_zero, List.set_cons_succ]
            refine wpAnyH_take (i := 1) (oi := _) (v := ?_) rfl (by kernel_rfl) (by kernel_rfl) (by kernel_rfl) (fun _ _ _ h => h) (Or.inl ⟨by rfl, ?_⟩) (by assumption) ?_
            case refine_2 => (intro w hSw; go_simp <;> with_reducible rfl)
            try simp only [List.getElem_toArray, List.getElem_cons_zero, List.getElem_cons_succ, Act.put, List.setIfInBounds_toArray, List.set_cons_zero, List.set_cons_succ]
            refine wpAnyH_take (i := 2) (oi := _) (v := ?_) rfl (by kernel_rfl) (by kernel_rfl) (by kernel_rfl) (fun _ _ _ h => h) (Or.inl ⟨by rfl, ?_⟩) (by assumption) ?_
            case refine_2 => (intro w hSw; go_simp <;> with_reducible rfl)
            try simp only [List.getElem_toArray, List.getElem_cons_zero, List.getElem_cons_succ, Act.put, List.setIfInBounds_toArray, List.set_cons_zero, List.set_cons_succ]
            refine wpAnyH_take (i := 3) (oi := _) (v := .bool true) rfl (by kernel_rfl) (by kernel_rfl) (by kernel_rfl) (fun _ _ _ h => h) (Or.inl ⟨by rfl, ?_⟩) (by assumption) ?_
            case refine_1 => (intro w hSw; go_simp <;> with_reducible rfl)
            try simp only [List.getElem_toArray, List.getElem_cons_zero, List.getElem_cons_succ, Act.put, List.setIfInBounds_toArray, List.set_cons_zero, List.set_cons_succ]
            refine wpAnyH_take (i := 4) (oi := _) (v := ?_) rfl (by kernel_rfl) (by kernel_rfl) (by kernel_rfl) (fun _ _ _ h => h) (Or.inl ⟨by rfl, ?_⟩) (by assumption) ?_
            case refine_2 => (intro w hSw; go_simp <;> with_reducible rfl)
            try simp only [List.getElem_toArray, List.getElem_cons_zero, List.getElem_cons_succ, Act.put, List.setIfInBounds_toArray, List.set_cons_zero, List.set_cons_succ]
            refine wpAnyH_take (i := 5) (oi := _) (v := ?_) rfl (by kernel_rfl) (by kernel_rfl) (by kernel_rfl) (fun _ _ _ h => h) (Or.inl ⟨by rfl, ?_⟩) (by assumption) ?_
            case refine_2 => (intro w hSw; go_simp <;> with_reducible rfl)
            try simp only [List.getElem_toArray, List.getElem_cons_zero, List.getElem_cons_succ, Act.put, List.setIfInBounds_toArray, List.set_cons_zero, List.set_cons_succ]
            refine wpAnyH_take (i := 6) (oi := _) (v := ?_) rfl (by kernel_rfl) (by kernel_rfl) (by kernel_rfl) (fun _ _ _ h => h) (Or.inl ⟨by rfl, ?_⟩) (by assumption) ?_
            case refine_2 => (intro w hSw; go_simp <;> with_reducible rfl)
            try simp only [List.getElem_toArray, List.getElem_cons_zero, List.getElem_cons_succ, Act.put, List.setIfInBounds_toArray, List.set_cons_zero, List.set_cons_succ]
            refine wpAnyH_take (i := 7) (oi := _) (v := ?_) rfl (by kernel_rfl) (by kernel_rfl) (by kernel_rfl) (fun _ _ _ h => h) (Or.inl ⟨by rfl, ?_⟩) (by assumption) ?_
            case refine_2 => (intro w hSw; go_simp <;> with_reducible rfl)
            try simp only [List.getElem_toArray, List.getElem_cons_zero, List.getElem_cons_succ, Act.put, List.setIfInBounds_toArray, List.set_cons_zero, List.set_cons_succ]
            refine wpAnyH_take (i := 8) (oi := _) (v := .agg F1.toList.toArray) rfl (by kernel_rfl) (by kernel_rfl) (by kernel_rfl) (fun _ _ _ h => h) (yieldsIf_load_rngF 30 (.tmp 20) g1 (k * 36) F1.toList _ (fun w h => h.f) (by rfl) (by rfl) Tryz.underlying30 rfl HI1.out (by rfl)) (by assumption) ?_
            try simp only [List.getElem_toArray, List.getElem_cons_zero, List.getElem_cons_succ, Act.put, List.setIfInBounds_toArray, List.set_cons_zero, List.set_cons_succ]
            refine wpAnyH_take (i := 9) (oi := _) (v := ?_) rfl (by kernel_rfl) (by kernel_rfl) (by kernel_rfl) (fun _ _ _ h => h) (Or.inl ⟨by rfl, ?_⟩) (by assumption) ?_
            case refine_2 => (intro w hSw; go_simp <;> with_reducible rfl)
            try simp only [List.getElem_toArray, List.getElem_cons_zero, List.getElem_cons_succ, Act.put, List.setIfInBounds_toArray, List.set_cons_zero, List.set_cons_succ]
            refine wpAnyH_take (i := 10) (oi := _) (v := ?_) rfl (by kernel_rfl) (by kernel_rfl) (by kernel_rfl) (fun _ _ _ h => h) (Or.inl ⟨by rfl, ?_⟩) (by assumption) ?_
            case refine_2 => (intro w hSw; go_simp <;> with_reducible rfl)
            try simp only [List.getElem_toArray, List.getElem_cons_zero, List.getElem_cons_succ, Act.put, List.setIfInBounds_toArray, List.set_cons_zero, List.set_cons_succ]
            refine wpAnyH_take (i := 11) (oi := _) (v := ?_) rfl (by kernel_rfl) (by kernel_rfl) (by kernel_rfl) (fun _ _ _ h => h) (Or.inl ⟨by rfl, ?_⟩) (by assumption) ?_
            case refine_2 => (intro w hSw; go_simp <;> with_reducible rfl)
            try simp only [List.getElem_toArray, List.getElem_cons_zero, List.getElem_cons_succ, Act.put, List.setIfInBounds_toArray, List.set_cons_zero, List.set_cons_succ]
            refine wpAnyH_take (i := 12) (oi := _) (v := .agg F2.toList.toArray) rfl (by kernel_rfl) (by kernel_rfl) (by kernel_rfl) (fun _ _ _ h => h) (yieldsIf_load_rngF 30 (.tmp 24) b (off + i * 36) F2.toList _ (fun w h => h.g_) (by rfl) (by rfl) Tryz.underlying30 rfl HI2.out (by rfl)) (by assumption) ?_
            try simp only [List.getElem_toArray, List.getElem_cons_zero, List.getElem_cons_succ, Act.put, List.setIfInBounds_toArray, List.set_cons_zero, List.set_cons_succ]
            refine wpAnyH_ready (rs := [13]) (by kernel_rfl) (by simp) ?_
            refine AllReadyH.cons (o := _) rfl (fun K hK => ?_) AllReadyH.nil
            simp only [List.getElem_toArray, List.getElem_cons_zero, List.getElem_cons_succ]
            go_simp
            refine (HLS.out _).mono ?_
            rintro e wn ⟨rfl, b⟩
            have Bn := Lib.hid (BB.out.trans (b.mono BB.out.size))
            have hH := hHeld.keep b
            clear b BB
            go_simp
            refine hK.out _ _ hH (fun hHeld2 => ?_)
            clear hK K hHeld hH
            have hHeld := hHeld2
            have BB := Bn
            clear hHeld2 Bn
            try simp only [List.getElem_toArray, List.getElem_cons_zero, List.getElem_cons_succ, Act.put, List.setIfInBounds_toArray, List.set_cons_zero, List.set_cons_succ]
            refine wpAnyH_take (i := 14) (oi := _) (v := ?_) rfl (by kernel_rfl) (by kernel_rfl) (by kernel_rfl) (fun _ _ _ h => h) (Or.inl ⟨by rfl, ?_⟩) (by assumption) ?_
            case refine_2 => (intro w hSw; go_simp <;> with_reducible rfl)
            try simp only [List.getElem_toArray, List.getElem_cons_zero, List.getElem_cons_succ, Act.put, List.setIfInBounds_toArray, List.set_cons_zero, List.set_cons_succ]
            have hZ := hHeld
            refine wpAnyH_done (by kernel_rfl) ?_ _
            clear hHeld
            go_wp2_with fail
            go_meet
            exact ⟨by rw [HGO.out], hZ.own, BB.out⟩
          · obtain rfl : k = m := by omega
            have hgo : goOn x out k = false := by
              unfold goOn
              rw [List.getElem?_eq_none (by rw [HM.out]; omega)]
            have HGO := Lib.hid hgo
            have hd : decide ((k : Int) < (k : Int)) = false := decide_eq_false (by omega)
            clear hgo
            go_quiet (fail)
            go_wp2_with fail
            go_meet
            exact ⟨by rw [HGO.out], J.out.1.below (below_drewN (Below.refl _ _) _), below_drewN J.out.2 _⟩
        case rest =>
          obtain ⟨rfl, ho, hb⟩ := hcut
          have J2 := Lib.hid (And.intro ho hb)
          clear ho hb J
          cases hgo : goOn x out k with
          | true =>
            have hlt := go_lt hgo
            rw [HM.out] at hlt
            have HG2 := Lib.hid (show ∀ j, j < k + 1 → goOn x out j = true from fun j hj => by
              by_cases e : j = k
              · rw [e]; exact hgo
              · exact HG.out j (by omega))
            obtain ⟨g3, rfl⟩ : ∃ g3, gk = g3 + 1 := ⟨gk - 1, by omega⟩
            clear HG
            go_wp2_with fail
            go_roundg g3
            case measure => omega
            case rel => exact ⟨k + 1, by omega, by go_num, HG2, J2⟩
          | false =>
            have HK := Lib.hid (ins_at out k HG.out hgo)
            clear HG hgo
            go_wp2_with fail
            go_cut [44] from 30 to 44 (fun s wx => s = .bool (decide (out[k]? = some x)) ∧ OwnFl wx w.heap.size A1 m c1 out ∧ Below w.heap.size w wx)
            case first =>
              by_cases hlt : k < m
              · obtain ⟨y, hy⟩ : ∃ y, out[k]? = some y := ⟨_, List.getElem?_eq_getElem (by rw [HM.out]; exact hlt)⟩
                have hyo := J2.out.1.ok y (List.mem_of_getElem? hy)
                rcases J2.out.1.form with ⟨rfl, rfl, rfl⟩ | ⟨g1, rfl, hmc⟩
                · omega
                have hyr := J2.out.1.rd.of hy
                rw [Nat.zero_add] at hyr
                obtain ⟨F1, hF1⟩ : ∃ F1, F1 = flC y.1 y.2 := ⟨_, rfl⟩
                have HI1 := Lib.hid (show (Tryz.prog.info? 30).map (·.size) = some F1.toList.length by rw [hF1, Array.length_toList, flC_size _ _ hyo.la hyo.lb]; exact flSize)
                have hq : ∀ W, (Op.equalIn 10000 30 (.agg F1) (.agg F2)).run Tryz.prog W = .ok (decide (y = x)) W := fun W => by rw [hF1, HF2.out]; exact eq_flow y x hyo.la hyo.lb HXO.out.la HXO.out.lb W
                have hgo : decide (out[k]? = some x) = decide (y = x) := by rw [hy]; simp
                have HGO := Lib.hid hgo
                have HS0 := Lib.hid (show R6 w.heap.size g1 (k * 36) F1.toList b (off + i * 36) F2.toList (some ⟨g1, 0, none⟩) m c1 out wc from ⟨by rw [hF1]; exact hyr, HX2.out _ J2.out.2, J2.out.1⟩)
                have hd : decide ((k : Int) < (m : Int)) = true := decide_eq_true (by omega)
                clear hF1 hyr hy hyo hgo
                refine wp_region_held_drew (S := R6 w.heap.size g1 (k * 36) F1.toList b (off + i * 36) F2.toList (some ⟨g1, 0, none⟩) m c1 out) (by kernel_rfl) (⟨HS0.out.f, HS0.out.g_, HS0.out.own.below (below_drew (Below.refl _ _))⟩) (fun hHeld => ?_)
                have BB := Lib.hid (below_drew J2.out.2)
                clear J2 HS0
                refine wpAnyH_take (i := 0) (oi := _) (v := ?_) rfl (by kernel_rfl) (by kernel_rfl) (by kernel_rfl) (fun _ _ _ h => h) (Or.inl ⟨by rfl, ?_⟩) (by assumption) ?_
                case refine_2 => (intro w hSw; go_simp <;> with_reducible rfl)
                try simp only [List.getElem_toArray, List.getElem_cons_zero, Act.put, List.setIfInBounds_toArray, List.set_cons_zero, List.set_cons_succ]
                refine wpAnyH_take (i := 1) (oi := _) (v := ?_) rfl (by kernel_rfl) (by kernel_rfl) (by kernel_rfl) (fun _ _ _ h => h) (Or.inl ⟨by rfl, ?_⟩) (by assumption) ?_
                case refine_2 => (intro w hSw; go_simp <;> with_reducible rfl)
                try simp only [List.getElem_toArray, List.getElem_cons_zero, List.getElem_cons_succ, Act.put, List.setIfInBounds_toArray, List.set_cons_zero, List.set_cons_succ]
                refine wpAnyH_take (i := 2) (oi := _) (v := ?_) rfl (by kernel_rfl) (by kernel_rfl) (by kernel_rfl) (fun _ _ _ h => h) (Or.inl ⟨by rfl, ?_⟩) (by assumption) ?_
                case refine_2 => (intro w hSw; go_simp <;> with_reducible rfl)
                try simp only [List.getElem_toArray, List.getElem_cons_zero, List.getElem_cons_succ, Act.put, List.setIfInBounds_toArray, List.set_cons_zero, List.set_cons_succ]
                refine wpAnyH_take (i := 3) (oi := _) (v := .bool true) rfl (by kernel_rfl) (by kernel_rfl) (by kernel_rfl) (fun _ _ _ h => h) (Or.inl ⟨by rfl, ?_⟩) (by assumption) ?_
                case refine_1 => (intro w hSw; go_simp <;> with_reducible rfl)
                try simp only [List.getElem_toArray, List.getElem_cons_zero, List.getElem_cons_succ, Act.put, List.setIfInBounds_toArray, List.set_cons_zero, List.set_cons_succ]
                refine wpAnyH_take (i := 4) (oi := _) (v := ?_) rfl (by kernel_rfl) (by kernel_rfl) (by kernel_rfl) (fun _ _ _ h => h) (Or.inl ⟨by rfl, ?_⟩) (by assumption) ?_
                case refine_2 => (intro w hSw; go_simp <;> with_reducible rfl)
                try simp only [List.getElem_toArray, List.getElem_cons_zero, List.getElem_cons_succ, Act.put, List.setIfInBounds_toArray, List.set_cons_zero, List.set_cons_succ]
                refine wpAnyH_take (i := 5) (oi := _) (v := ?_) rfl (by kernel_rfl) (by kernel_rfl) (by kernel_rfl) (fun _ _ _ h => h) (Or.inl ⟨by rfl, ?_⟩) (by assumption) ?_
                case refine_2 => (intro w hSw; go_simp <;> with_reducible rfl)
                try simp only [List.getElem_toArray, List.getElem_cons_zero, List.getElem_cons_succ, Act.put, List.setIfInBounds_toArray, List.set_cons_zero, List.set_cons_succ]
                refine wpAnyH_take (i := 6) (oi := _) (v := ?_) rfl (by kernel_rfl) (by kernel_rfl) (by kernel_rfl) (fun _ _ _ h => h) (Or.inl ⟨by rfl, ?_⟩) (by assumption) ?_
                case refine_2 => (intro w hSw; go_simp <;> with_reducible rfl)
                try simp only [List.getElem_toArray, List.getElem_cons_zero, List.getElem_cons_succ, Act.put, List.setIfInBounds_toArray, List.set_cons_zero, List.set_cons_succ]
                refine wpAnyH_take (i := 7) (oi := _) (v := ?_) rfl (by kernel_rfl) (by kernel_rfl) (by kernel_rfl) (fun _ _ _ h => h) (Or.inl ⟨by rfl, ?_⟩) (by assumption) ?_
                case refine_2 => (intro w hSw; go_simp <;> with_reducible rfl)
                try simp only [List.getElem_toArray, List.getElem_cons_zero, List.getElem_cons_succ, Act.put, List.setIfInBounds_toArray, List.set_cons_zero, List.set_cons_succ]
                refine wpAnyH_take (i := 8) (oi := _) (v := .agg F1.toList.toArray) rfl (by kernel_rfl) (by kernel_rfl) (by kernel_rfl) (fun _ _ _ h => h) (yieldsIf_load_rngF 30 (.tmp 37) g1 (k * 36) F1.toList _ (fun w h => h.f) (by rfl) (by rfl) Tryz.underlying30 rfl HI1.out (by rfl)) (by assumption) ?_
                try simp only [List.getElem_toArray, List.getElem_cons_zero, List.getElem_cons_succ, Act.put, List.setIfInBounds_toArray, List.set_cons_zero, List.set_cons_succ]
                refine wpAnyH_take (i := 9) (oi := _) (v := ?_) rfl (by kernel_rfl) (by kernel_rfl) (by kernel_rfl) (fun _ _ _ h => h) (Or.inl ⟨by rfl, ?_⟩) (by assumption) ?_
                case refine_2 => (intro w hSw; go_simp <;> with_reducible rfl)
                try simp only [List.getElem_toArray, List.getElem_cons_zero, List.getElem_cons_succ, Act.put, List.setIfInBounds_toArray, List.set_cons_zero, List.set_cons_succ]
                refine wpAnyH_take (i := 10) (oi := _) (v := ?_) rfl (by kernel_rfl) (by kernel_rfl) (by kernel_rfl) (fun _ _ _ h => h) (Or.inl ⟨by rfl, ?_⟩) (by assumption) ?_
                case refine_2 => (intro w hSw; go_simp <;> with_reducible rfl)
                try simp only [List.getElem_toArray, List.getElem_cons_zero, List.getElem_cons_succ, Act.put, List.setIfInBounds_toArray, List.set_cons_zero, List.set_cons_succ]
                refine wpAnyH_take (i := 11) (oi := _) (v := ?_) rfl (by kernel_rfl) (by kernel_rfl) (by kernel_rfl) (fun _ _ _ h => h) (Or.inl ⟨by rfl, ?_⟩) (by assumption) ?_
                case refine_2 => (intro w hSw; go_simp <;> with_reducible rfl)
                try simp only [List.getElem_toArray, List.getElem_cons_zero, List.getElem_cons_succ, Act.put, List.setIfInBounds_toArray, List.set_cons_zero, List.set_cons_succ]
                refine wpAnyH_take (i := 12) (oi := _) (v := .agg F2.toList.toArray) rfl (by kernel_rfl) (by kernel_rfl) (by kernel_rfl) (fun _ _ _ h => h) (yieldsIf_load_rngF 30 (.tmp 41) b (off + i * 36) F2.toList _ (fun w h => h.g_) (by rfl) (by rfl) Tryz.underlying30 rfl HI2.out (by rfl)) (by assumption) ?_
                try simp only [List.getElem_toArray, List.getElem_cons_zero, List.getElem_cons_succ, Act.put, List.setIfInBounds_toArray, List.set_cons_zero, List.set_cons_succ]
                refine wpAnyH_take (i := 13) (oi := _) (v := ?_) rfl (by kernel_rfl) (by kernel_rfl) (by kernel_rfl) (fun _ _ _ h => h) (Or.inl ⟨by rfl, ?_⟩) (by assumption) ?_
                case refine_2 => (intro w hSw; go_simp <;> with_reducible rfl)
                try simp only [List.getElem_toArray, List.getElem_cons_zero, List.getElem_cons_succ, Act.put, List.setIfInBounds_toArray, List.set_cons_zero, List.set_cons_succ]
                refine wpAnyH_take (i := 14) (oi := _) (v := ?_) rfl (by kernel_rfl) (by kernel_rfl) (by kernel_rfl) (fun _ _ _ h => h) (Or.inl ⟨by rfl, ?_⟩) (by assumption) ?_
                case refine_2 => (intro w hSw; go_simp <;> with_reducible rfl)
                try simp only [List.getElem_toArray, List.getElem_cons_zero, List.getElem_cons_succ, Act.put, List.setIfInBounds_toArray, List.set_cons_zero, List.set_cons_succ]
                have hZ := hHeld
                refine wpAnyH_done (by kernel_rfl) ?_ _
                clear hHeld
                go_wp2_with fail
                go_meet
                exact ⟨by rw [HGO.out], hZ.own, BB.out⟩
              · obtain rfl : k = m := by omega
                have hgo : decide (out[k]? = some x) = false := by
                  rw [List.getElem?_eq_none (by rw [HM.out]; omega)]
                  rfl
                have HGO := Lib.hid hgo
                have hd : decide ((k : Int) < (k : Int)) = false := decide_eq_false (by omega)
                clear hgo
                go_quiet (fail)
                go_wp2_with fail
                go_meet
                exact ⟨by rw [HGO.out], J2.out.1.below (below_drewN (Below.refl _ _) _), below_drewN J2.out.2 _⟩
            case rest =>
              obtain ⟨rfl, ho, hb⟩ := hcut
              have J3 := Lib.hid (And.intro ho hb)
              clear ho hb J2
              by_cases hsame : out[k]? = some x
              · have hU : insU x out = out := by unfold insU; rw [HK.out, if_pos hsame]
                have HT2 := HT.out
                rw [hU] at HT2
                rw [← HT2] at J3
                have hd : decide (out[k]? = some x) = true := decide_eq_true hsame
                clear hU HT2
                go_wp2_with fail
                go_roundg g2
                case measure => omega
                case rel => exact ⟨i + 1, m, A1, c1, by omega, by go_num, rfl, by omega, J3⟩
              · have hU : insU x out = out.take k ++ x :: out.drop k := by unfold insU; rw [HK.out, if_neg hsame]
                have hd : decide (out[k]? = some x) = false := decide_eq_false hsame
                have HT2 := Lib.hid (HT.out.trans hU)
                clear hU
                have HBS := Lib.hid (show Tryz.prog.builtSlice 30 1 [(0, .agg F2)] = some F2 by rw [HF2.out]; exact built1 x HXO.out)
                have HOT := Lib.hid (fun f (hf : f ∈ out.take k) => J3.out.1.ok f (List.mem_of_mem_take hf))
                have HOD := Lib.hid (fun f (hf : f ∈ out.drop k) => J3.out.1.ok f (List.mem_of_mem_drop hf))
                have HXO1 := Lib.hid (show ∀ f ∈ [x], FlOk f from fun f hf => by rw [List.mem_singleton.1 hf]; exact HXO.out)
                have HONE := Lib.hid (show ∀ W : World, RdF (W.alloc (.cells F2 30)) (some ⟨W.heap.size, 0, none⟩) 1 1 [x] from fun W => by rw [HF2.out]; exact RdF.one W x)
                have HA1 := Lib.hid (J3.out.1.rd.take_ k hkm)
                rcases J3.out.1.form with ⟨rfl, rfl, rfl⟩ | ⟨g1, rfl, hmc⟩
                · obtain rfl : k = 0 := by omega
                  go_wp2_with (first | (at_builtin; refine wpList_append_fl wc (by rfl) (.tmp 45) (.tmp 48) (by rfl) wc.heap.size none 0 0 [] (by rfl) (OwnFl.nil_ _ _) none 0 0 (out.take 0) (by rfl) HA1.out HOT.out (by omega) (Nat.le_refl _) 0 (by omega) ?_; intro A2 c2 w2 ho2 hb2; rw [List.nil_append] at ho2; have O2 := Lib.hid ho2; have B2 := Lib.hid hb2; have HL2 := Lib.hid (HX2.out w2 (J3.out.2.trans (hb2.mono J3.out.2.size))); clear ho2 hb2) | ((with_reducible refine at_loadP 30 (.tmp 53) ?_); refine wpList_load_rngP 30 (.tmp 53) b (off + i * 36) F2.toList _ HL2.out (by rfl) (by rfl) Tryz.underlying30 rfl HI2.out (by rfl) ?_) | ((with_reducible refine at_bslice 50 1 #[(0, .tmp 54)] ?_); refine wpList_bslice rfl 50 30 1 #[(0, .tmp 54)] rfl w2.heap.size rfl (some 55) rfl Tryz.underlying50 F2 HBS.out ?_) | (at_builtin; refine wpList_append_fl (w2.alloc (.cells F2 30)) (by rfl) (.tmp 50) (.tmp 55) (by rfl) wc.heap.size A2 0 c2 (out.take 0) (by rfl) (O2.out.alloc _) (some ⟨w2.heap.size, 0, none⟩) 1 1 [x] (by rfl) (HONE.out _) HXO1.out (by omega) (by have := B2.out.size; simp; omega) (0 + 1) (by omega) ?_; intro A3 c3 w3 ho3 hb3; have O3 := Lib.hid ho3; have B3 := Lib.hid (((B2.out.alloc B2.out.size (.cells F2 30))).trans hb3); clear ho3 hb3 O2) | (at_builtin; refine wpList_append_fl w3 (by rfl) (.tmp 57) (.tmp 60) (by rfl) wc.heap.size A3 (0 + 1) c3 (out.take 0 ++ [x]) (by rfl) O3.out none 0 0 (out.drop 0) (by rfl) (J3.out.1.rd.below B3.out) HOD.out (by omega) B3.out.size (0 + 1) (by omega) ?_; intro A5 c5 w5 ho5 hb5; have O5 := Lib.hid ho5; have B5 := Lib.hid (B3.out.trans hb5); clear ho5 hb5 O3 B3))
                  have HZ := HT2.out
                  have h5 := O5.out.mono (base' := w.heap.size) J3.out.2.size
                  rw [List.append_assoc] at h5
                  rw [show [x] ++ out.drop 0 = x :: out.drop 0 from rfl, ← HZ] at h5
                  have O6 := Lib.hid (And.intro h5 (J3.out.2.trans (B5.out.mono J3.out.2.size)))
                  clear h5 HZ
                  go_wp2_with fail
                  go_roundg g2
                  case measure => omega
                  case rel => exact ⟨i + 1, 0 + 1, A5, c5, by omega, by go_num, rfl, by omega, O6⟩
                · by_cases hke : c1 = k
                  · subst hke
                    obtain rfl : m = c1 := by omega
                    go_wp2_with (first | (at_builtin; refine wpList_append_fl wc (by rfl) (.tmp 45) (.tmp 48) (by rfl) wc.heap.size none 0 0 [] (by rfl) (OwnFl.nil_ _ _) (some ⟨g1, 0, none⟩) m m (out.take m) (by rfl) HA1.out HOT.out (by omega) (Nat.le_refl _) m (by omega) ?_; intro A2 c2 w2 ho2 hb2; rw [List.nil_append] at ho2; have O2 := Lib.hid ho2; have B2 := Lib.hid hb2; have HL2 := Lib.hid (HX2.out w2 (J3.out.2.trans (hb2.mono J3.out.2.size))); clear ho2 hb2) | ((with_reducible refine at_loadP 30 (.tmp 53) ?_); refine wpList_load_rngP 30 (.tmp 53) b (off + i * 36) F2.toList _ HL2.out (by rfl) (by rfl) Tryz.underlying30 rfl HI2.out (by rfl) ?_) | ((with_reducible refine at_bslice 50 1 #[(0, .tmp 54)] ?_); refine wpList_bslice rfl 50 30 1 #[(0, .tmp 54)] rfl w2.heap.size rfl (some 55) rfl Tryz.underlying50 F2 HBS.out ?_) | (at_builtin; refine wpList_append_fl (w2.alloc (.cells F2 30)) (by rfl) (.tmp 50) (.tmp 55) (by rfl) wc.heap.size A2 m c2 (out.take m) (by rfl) (O2.out.alloc _) (some ⟨w2.heap.size, 0, none⟩) 1 1 [x] (by rfl) (HONE.out _) HXO1.out (by omega) (by have := B2.out.size; simp; omega) (m + 1) (by omega) ?_; intro A3 c3 w3 ho3 hb3; have O3 := Lib.hid ho3; have B3 := Lib.hid (((B2.out.alloc B2.out.size (.cells F2 30))).trans hb3); clear ho3 hb3 O2) | (at_builtin; refine wpList_append_fl w3 (by rfl) (.tmp 57) (.tmp 60) (by rfl) wc.heap.size A3 (m + 1) c3 (out.take m ++ [x]) (by rfl) O3.out (some ⟨g1, 0, none⟩) 0 0 (out.drop m) (by rfl) ((J3.out.1.rd.below B3.out).drop_ m (Nat.le_refl _) (Nat.lt_of_lt_of_le (J3.out.1.own.lt g1 rfl).2 B3.out.size) 0 0 (by omega) (Nat.le_refl _) 0 (fun h => absurd h (by omega))) HOD.out (by omega) B3.out.size (m + 1) (by omega) ?_; intro A5 c5 w5 ho5 hb5; have O5 := Lib.hid ho5; have B5 := Lib.hid (B3.out.trans hb5); clear ho5 hb5 O3 B3))
                    have HZ := HT2.out
                    have h5 := O5.out.mono (base' := w.heap.size) J3.out.2.size
                    rw [List.append_assoc] at h5
                    rw [show [x] ++ out.drop m = x :: out.drop m from rfl, ← HZ] at h5
                    have O6 := Lib.hid (And.intro h5 (J3.out.2.trans (B5.out.mono J3.out.2.size)))
                    clear h5 HZ
                    go_wp2_with fail
                    go_roundg g2
                    case measure => omega
                    case rel => exact ⟨i + 1, m + 1, A5, c5, by omega, by go_num, rfl, by omega, O6⟩
                  · have hkc : k < c1 := by omega
                    have hkc2 : ¬ k = c1 := by omega
                    have hkc3 : ¬ c1 - k = 0 := by omega
                    have hkc4 : k ≤ c1 := by omega
                    go_wp2_with (first | (at_builtin; refine wpList_append_fl wc (by rfl) (.tmp 45) (.tmp 48) (by rfl) wc.heap.size none 0 0 [] (by rfl) (OwnFl.nil_ _ _) (some ⟨g1, 0, none⟩) k c1 (out.take k) (by rfl) HA1.out HOT.out (by omega) (Nat.le_refl _) k (by omega) ?_; intro A2 c2 w2 ho2 hb2; rw [List.nil_append] at ho2; have O2 := Lib.hid ho2; have B2 := Lib.hid hb2; have HL2 := Lib.hid (HX2.out w2 (J3.out.2.trans (hb2.mono J3.out.2.size))); clear ho2 hb2) | ((with_reducible refine at_loadP 30 (.tmp 53) ?_); refine wpList_load_rngP 30 (.tmp 53) b (off + i * 36) F2.toList _ HL2.out (by rfl) (by rfl) Tryz.underlying30 rfl HI2.out (by rfl) ?_) | ((with_reducible refine at_bslice 50 1 #[(0, .tmp 54)] ?_); refine wpList_bslice rfl 50 30 1 #[(0, .tmp 54)] rfl w2.heap.size rfl (some 55) rfl Tryz.underlying50 F2 HBS.out ?_) | (at_builtin; refine wpList_append_fl (w2.alloc (.cells F2 30)) (by rfl) (.tmp 50) (.tmp 55) (by rfl) wc.heap.size A2 k c2 (out.take k) (by rfl) (O2.out.alloc _) (some ⟨w2.heap.size, 0, none⟩) 1 1 [x] (by rfl) (HONE.out _) HXO1.out (by omega) (by have := B2.out.size; simp; omega) (k + 1) (by omega) ?_; intro A3 c3 w3 ho3 hb3; have O3 := Lib.hid ho3; have B3 := Lib.hid (((B2.out.alloc B2.out.size (.cells F2 30))).trans hb3); clear ho3 hb3 O2) | (at_builtin; refine wpList_append_fl w3 (by rfl) (.tmp 57) (.tmp 60) (by rfl) wc.heap.size A3 (k + 1) c3 (out.take k ++ [x]) (by rfl) O3.out (some ⟨g1, k * 36, none⟩) (m - k) (c1 - k) (out.drop k) (by rfl) ((J3.out.1.rd.below B3.out).drop_ k hkm (Nat.lt_of_lt_of_le (J3.out.1.own.lt g1 rfl).2 B3.out.size) _ _ rfl (by omega) _ (fun _ => by omega)) HOD.out (by omega) B3.out.size (m + 1) (by omega) ?_; intro A5 c5 w5 ho5 hb5; have O5 := Lib.hid ho5; have B5 := Lib.hid (B3.out.trans hb5); clear ho5 hb5 O3 B3))
                    have HZ := HT2.out
                    have h5 := O5.out.mono (base' := w.heap.size) J3.out.2.size
                    rw [List.append_assoc] at h5
                    rw [show [x] ++ out.drop k = x :: out.drop k from rfl, ← HZ] at h5
                    have O6 := Lib.hid (And.intro h5 (J3.out.2.trans (B5.out.mono J3.out.2.size)))
                    clear h5 HZ
                    go_wp2_with fail
                    go_roundg g2
                    case measure => omega
                    case rel => exact ⟨i + 1, m + 1, A5, c5, by omega, by go_num, rfl, by omega, O6⟩
end Go.Proofs.YtonafonhadocgaaGreatDoor
