/- The walk of horologelaw28.FlowGroups. -/
import Derived.Test.YtonafonhadocgaaDoorQM
import Derived.Test.YtonafonhadocgaaDoorFlRGrp
namespace Go.Proofs.YtonafonhadocgaaDoor
open Go.RowKit Go.Shelf

/-- What a row of rows holds at a place: a slice; what that slice holds. -/
theorem GRes.row {base : Nat} {v : Value} {gs : List (List Nat)} {W : World} (h : GRes base v gs W) : ∃ A c, v = .slice A gs.length c ∧ ∀ (i : Nat) (g : List Nat), gs[i]? = some g →
    ∃ b, A = some ⟨b, 0, none⟩ ∧ ∃ A1 c1, W.cell? ⟨b, i, none⟩ = some (.slice A1 g.length c1) ∧ ∀ (k q : Nat), g[k]? = some q → ∃ b1, A1 = some ⟨b1, 0, none⟩ ∧ W.cell? ⟨b1, k, none⟩ = some (.int .i64 (q : Int)) := by
  obtain ⟨vs, ho, hl, hr⟩ := h
  have some_of : ∀ {T : TypeId} {x : Value} {xs : List Value}, OwnV T W base x xs → ∃ A c, x = .slice A xs.length c ∧ (0 < xs.length → ∃ b, A = some ⟨b, 0, none⟩) := fun {T x xs} ho => by
    obtain ⟨A, c, rfl, hrd, hA⟩ := ho.form
    refine ⟨A, c, rfl, fun hn => ?_⟩
    rcases hA with rfl | ⟨g, rfl, _⟩
    · obtain ⟨b, o, e, _⟩ := hrd.2.2.2 hn
      cases e
    · exact ⟨g, rfl⟩
  obtain ⟨A, c, rfl, hA⟩ := some_of ho
  refine ⟨A, c, by rw [hl], fun i g hi => ?_⟩
  have hi2 := (List.getElem?_eq_some_iff.1 hi).1
  obtain ⟨b, rfl⟩ := hA (by omega)
  obtain ⟨u, hu, hou⟩ := hr i g hi
  obtain ⟨A1, c1, rfl, hA1⟩ := some_of hou
  have hil : (ints g).length = g.length := ints_len g
  refine ⟨b, rfl, A1, c1, by rw [← hil]; exact (ho.cellAt i (by omega)).trans hu, fun k q hk => ?_⟩
  have hk2 := (List.getElem?_eq_some_iff.1 hk).1
  obtain ⟨b1, rfl⟩ := hA1 (by omega)
  refine ⟨b1, rfl, (hou.cellAt k (by omega)).trans ?_⟩
  rw [ints, List.getElem?_map, hk]
  rfl

set_option maxRecDepth 100000 in
set_option maxHeartbeats 8000000 in
theorem groups_walk (A : Option Addr) (n c : Nat) (ks : List Ky) (w : World) (hr : RdK w A n c ks) (hok : ∀ k ∈ ks, KyOk k) (env : Env w) :
    Calls Tryd.prog 4 #[.slice A n c] w fun e w' => e = .returned (.bool true) ∧ Below w.heap.size w w' := by
  have E := Lib.hid env
  have HR := Lib.hid hr
  have HOK := Lib.hid hok
  clear env hr hok
  have B0 := Lib.hid (Below.refl w.heap.size w)
  by_cases h100 : 100 < n
  · go_enter Tryd.func4, Tryd.ntmps4
    go_wp2_with fail
    refine (works_any _ (E.out.below B0.out)).mono ?_
    rintro e w2 ⟨rfl, b⟩
    have B2 := Lib.hid (B0.out.trans (b.mono B0.out.size))
    clear b
    go_wp2_with fail
    go_ret
    exact ⟨rfl, B2.out⟩
  · have HG := Lib.hid (groups_any A n c ks w HR.out HOK.out (by omega))
    have HQ := Lib.hid (fun W (b : Below w.heap.size w W) => rgroups_any A n c ks W (HR.out.below b) HOK.out (by omega))
    have HLN := Lib.hid (show (grpL (ks.map (·.1))).length ≤ 100 by
      rw [grpL_len]
      have h1 := dd_len (ks.map (·.1))
      rw [List.length_map] at h1
      have h2 := HR.out.1
      omega)
    have HLR := Lib.hid (show ∀ (i : Nat) (g : List Nat), (grpL (ks.map (·.1)))[i]? = some g → g.length ≤ 100 from fun i g hg => by
      rw [grpL, List.getElem?_map] at hg
      obtain ⟨f, _, rfl⟩ := Option.map_eq_some_iff.1 hg
      have h1 := pos_len (ks.map (·.1)) f
      rw [List.length_map] at h1
      have h2 := HR.out.1
      omega)
    go_enter Tryd.func4, Tryd.ntmps4
    go_wp2_with fail
    refine HG.out.mono ?_
    rintro e w1 ⟨v1, rfl, g1, b⟩
    have G1 := Lib.hid g1
    have B1 := Lib.hid b
    clear b g1 HG
    go_wp2_with fail
    refine (HQ.out _ B1.out).mono ?_
    rintro e w2 ⟨v2, rfl, g2, b⟩
    have G2 := Lib.hid g2
    have G3 := Lib.hid (G1.out.below b)
    have B2 := Lib.hid (B1.out.trans (b.mono B1.out.size))
    clear b g2 HQ G1 B1
    obtain ⟨A1, c1, rfl, HW1⟩ := G3.out.row
    obtain ⟨A2, c2, rfl, HW2⟩ := G2.out.row
    have H1 := Lib.hid HW1
    have H2 := Lib.hid HW2
    clear HW1 HW2 G3 G2
    generalize grpL (ks.map (·.1)) = gs at *
    have hgl := HLN.out
    go_wp2_with fail
    have B3 := Lib.hid (Below.refl w2.heap.size w2)
    go_loopg [22] gs.length (fun g v wr => ∃ i : Nat, i + g = gs.length ∧ v = .int .i64 i ∧ Hid (Below w2.heap.size w2 wr))
    case atStart => exact ⟨0, by omega, rfl, B3⟩
    case round =>
      clear B3
      obtain ⟨i, hig, rfl, I⟩ := hrel
      cases gk with
      | zero =>
        obtain rfl : i = gs.length := by omega
        have BI := Lib.hid (B2.out.trans (I.out.mono B2.out.size))
        go_wp2_with fail
        refine (works_any _ (E.out.below BI.out)).mono ?_
        rintro e w5 ⟨rfl, b⟩
        have B5 := Lib.hid (BI.out.trans (b.mono BI.out.size))
        clear b BI
        go_wp2_with fail
        go_ret
        exact ⟨rfl, B5.out⟩
      | succ gk2 =>
        have hil : i < gs.length := by omega
        obtain ⟨g, hg⟩ : ∃ g, gs[i]? = some g := ⟨gs[i]'hil, List.getElem?_eq_getElem _⟩
        obtain ⟨b1, rfl, D1, e1, q1, X1⟩ := H1.out i g hg
        obtain ⟨b2, rfl, D2, e2, q2, X2⟩ := H2.out i g hg
        have HX1 := Lib.hid X1
        have HX2 := Lib.hid X2
        have p1 := cell_later I.out q1
        have p2 := cell_later I.out q2
        have hgn := HLR.out i g hg
        have HP1 := Lib.hid q1
        have HP2 := Lib.hid q2
        clear X1 X2 q1 q2 hg
        go_upto_region 9 with fail
        go_quiet (fail)
        go_wp2_with fail
        clear p1 p2
        go_loopg [41] g.length (fun g' v wr => ∃ q : Nat, q + g' = g.length ∧ v = .int .i64 q ∧ Hid (Below w2.heap.size w2 wr))
        case atStart => exact ⟨0, by omega, rfl, Lib.hid (below_drewN I.out _)⟩
        case round =>
          clear I
          obtain ⟨q, hqg, rfl, I⟩ := hrel
          cases gk with
          | zero =>
            obtain rfl : q = g.length := by omega
            go_wp2_with fail
            go_roundg gk2
            case measure => omega
            case rel => exact ⟨i + 1, by omega, by go_num, I⟩
          | succ gk3 =>
            have hql : q < g.length := by omega
            obtain ⟨y, hy⟩ : ∃ y, g[q]? = some y := ⟨g[q]'hql, List.getElem?_eq_getElem _⟩
            obtain ⟨b3, rfl, r1⟩ := HX1.out q y hy
            obtain ⟨b4, rfl, r2⟩ := HX2.out q y hy
            have p1 := cell_later I.out HP1.out
            have p2 := cell_later I.out HP2.out
            have p3 := cell_later I.out r1
            have p4 := cell_later I.out r2
            clear r1 r2 hy
            go_upto_region 14 with fail
            go_quiet (fail)
            go_wp2_with fail
            go_roundg gk3
            case measure => omega
            case rel => exact ⟨q + 1, by omega, by go_num, Lib.hid (below_drewN I.out _)⟩
end Go.Proofs.YtonafonhadocgaaDoor
