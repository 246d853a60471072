/- The walk of horologelaw05.AddrOrder. -/
import Derived.Test.YtgdnckglfhabnaaDoorAdKnown
import Derived.Test.YtgdnckglfhabnaaDoorAdOrder
namespace Go.Proofs.YtgdnckglfhabnaaDoor
open Go.RowKit Go.Shelf

theorem print_inj {u v : Bool} {l m : List UInt8} (hl : l.length = 16) (hm : m.length = 16) (h1 : mayB u l = true) (h2 : mayB v m = true) (h : printT u l = printT v m) : u = v ∧ l = m := by
  have e1 := parse_print u l hl h1
  have e2 := parse_print v m hm h2
  rw [h, e2] at e1
  injection e1 with e1
  injection e1 with e3 e4
  exact ⟨e3.symm, e4.symm⟩

/-- Three boxed addresses in a world. -/
structure OHeld (g : Nat) (c1 c2 c3 : Array Value) (w : World) : Prop where
  a : Blk w g 24 c1
  b : Blk w (g + 1) 24 c2
  c : Blk w (g + 1 + 1) 24 c3
theorem OHeld.keep {g : Nat} {c1 c2 c3 : Array Value} {w w' : World} (h : OHeld g c1 c2 c3 w) (hb : Below w.heap.size w w') : OHeld g c1 c2 c3 w' := ⟨h.a.keep hb, h.b.keep hb, h.c.keep hb⟩
theorem OHeld.box (w : World) (c1 c2 c3 : Array Value) : OHeld w.heap.size c1 c2 c3 (((w.alloc (.cells c1 24)).alloc (.cells c2 24)).alloc (.cells c3 24)) := by
  have e1 : (w.alloc (.cells c1 24)).heap.size = w.heap.size + 1 := by simp
  have e2 : ((w.alloc (.cells c1 24)).alloc (.cells c2 24)).heap.size = w.heap.size + 1 + 1 := by simp
  have k2 := Blk.new (w.alloc (.cells c1 24)) 24 c2
  have k3 := Blk.new ((w.alloc (.cells c1 24)).alloc (.cells c2 24)) 24 c3
  rw [e1] at k2
  rw [e2] at k3
  exact ⟨((Blk.new w 24 c1).alloc _).alloc _, k2.alloc _, k3⟩
theorem OHeld.below (w : World) (c1 c2 c3 : Array Value) : Below w.heap.size w (((w.alloc (.cells c1 24)).alloc (.cells c2 24)).alloc (.cells c3 24)) :=
  (((Below.refl _ w).alloc (Nat.le_refl _) _).alloc (by simp) _).alloc (by simp; omega) _


set_option maxRecDepth 100000 in
set_option maxHeartbeats 16000000 in
theorem order_walk (u v x : Bool) (l m n : List UInt8) (hl : l.length = 16) (hm : m.length = 16) (hn : n.length = 16) (w : World) (env : Env w) :
    Calls Tryd.prog 4 #[.agg (adC u l), .agg (adC v m), .agg (adC x n)] w fun e w' => e = .returned (.bool true) ∧ Below w.heap.size w w' := by
  have E := Lib.hid env
  clear env
  have B0 := Lib.hid (OHeld.below w (adC u l) (adC v m) (adC x n))
  have H0 := Lib.hid (OHeld.box w (adC u l) (adC v m) (adC x n))
  have HS1 := Lib.hid (show (Tryd.prog.info? 24).map (·.size) = some (adC u l).size by rw [adC_size _ _ hl]; exact adSize)
  have HS2 := Lib.hid (show (Tryd.prog.info? 24).map (·.size) = some (adC v m).size by rw [adC_size _ _ hm]; exact adSize)
  have HS3 := Lib.hid (show (Tryd.prog.info? 24).map (·.size) = some (adC x n).size by rw [adC_size _ _ hn]; exact adSize)
  have hz : ∀ W : World, (Op.equalIn 10000 24 (.agg (adC u l)) (.agg (adC v m))).run Tryd.prog W = .ok (decide (u = v ∧ l = m)) W := fun W => eq_addr u v l m hl hm W
  have Haa := Lib.hid (fun W => less_any u u l l hl hl W)
  have Hab := Lib.hid (fun W => less_any u v l m hl hm W)
  have Hba := Lib.hid (fun W => less_any v u m l hm hl W)
  have Hbc := Lib.hid (fun W => less_any v x m n hm hn W)
  have Hac := Lib.hid (fun W => less_any u x l n hl hn W)
  have HPA := Lib.hid (fun W (e : Env W) => print_any u l hl W e)
  have HPB := Lib.hid (fun W (e : Env W) => print_any v m hm W e)
  have HPV := Lib.hid (show ∃ (sa sb : ByteArray) (ea eb : Int), printV u l = .tuple #[.string sa, .int .i64 ea] ∧ printV v m = .tuple #[.string sb, .int .i64 eb] ∧ (ea = 0 → eb = 0 → decide (sa = sb) = decide (u = v ∧ l = m)) by
    unfold printV
    cases h1 : mayB u l with
    | false =>
      cases h2 : mayB v m with
      | false => exact ⟨_, _, _, _, rfl, rfl, fun h => by cases h⟩
      | true => exact ⟨_, _, _, _, rfl, rfl, fun h => by cases h⟩
    | true =>
      cases h2 : mayB v m with
      | false => exact ⟨_, _, _, _, rfl, rfl, fun _ h => by cases h⟩
      | true =>
        refine ⟨_, _, _, _, rfl, rfl, fun _ _ => ?_⟩
        rw [decide_eq_decide]
        constructor
        · intro h
          injection h with h
          exact print_inj hl hm h1 h2 (List.toArray_inj h)
        · rintro ⟨rfl, rfl⟩
          rfl)
  obtain ⟨sa, sb, ea, eb, hpa, hpb, hp⟩ := HPV.out
  rw [hpa] at HPA
  rw [hpb] at HPB
  have HP := Lib.hid hp
  clear hpa hpb hp HPV
  rw [less_self] at Haa
  have ht := fun h => @less_total u v l m h
  have ha := @less_asym u v l m
  have hne := @less_ne u v l m
  have hne2 := @less_ne v u m l
  have htr := @less_trans u v x l m n
  generalize lessB u l v m = p at *
  generalize lessB v m u l = q at *
  generalize lessB v m x n = p2 at *
  generalize lessB u l x n = p3 at *
  generalize adC u l = c1 at *
  generalize adC v m = c2 at *
  generalize adC x n = c3 at *
  have hq : (p != q) = !(decide (u = v ∧ l = m)) := by
    by_cases h : u = v ∧ l = m
    · rw [decide_eq_true h]
      cases p
      · cases q
        · rfl
        · exact absurd ⟨h.1.symm, h.2.symm⟩ (hne2 rfl)
      · exact absurd h (hne rfl)
    · rw [decide_eq_false h]
      cases p
      · rw [ht h rfl]; rfl
      · rw [ha rfl]; rfl
  have hpr : p = true → decide (u = v ∧ l = m) = false := fun h => decide_eq_false (hne h)
  clear ht ha hne hne2
  generalize decide (u = v ∧ l = m) = r at *
  go_enter Tryd.func4, Tryd.ntmps4
  go_wp2_with fail
  refine (known_any _ (E.out.below B0.out)).mono ?_
  rintro e w1 ⟨rfl, b⟩
  have HH := Lib.hid (H0.out.keep b)
  have BB := Lib.hid (B0.out.trans (b.mono B0.out.size))
  clear b H0 B0
  cases p with
  | true =>
    obtain rfl := hpr rfl
    obtain rfl : q = false := by cases q <;> simp_all
    cases p2 with
    | true =>
      obtain rfl := htr rfl rfl
      go_upto_region 3 with fail
      refine wp_region_held_drew (S := OHeld w.heap.size c1 c2 c3) (by kernel_rfl) (⟨HH.out.a, HH.out.b, HH.out.c⟩) (fun hHeld => ?_)
      have Bd := Lib.hid (below_drew BB.out)
      clear BB
      have BB := Bd
      clear Bd
      refine wpAnyH_take (i := 0) (oi := _) (v := .agg c1) rfl (by kernel_rfl) (by kernel_rfl) (by kernel_rfl) (fun _ _ _ h => h) (yieldsIf_load_blk 24 (.tmp 3) w.heap.size 24 c1 _ (fun w h => OHeld.a h) (by rfl) (by rfl) Tryd.underlying24 rfl (HS1.out) (by rfl)) (by assumption) ?_
      try simp only [List.getElem_toArray, List.getElem_cons_zero, Act.put, List.setIfInBounds_toArray, List.set_cons_zero, List.set_cons_succ]
      refine wpAnyH_take (i := 1) (oi := _) (v := .agg c1) rfl (by kernel_rfl) (by kernel_rfl) (by kernel_rfl) (fun _ _ _ h => h) (yieldsIf_load_blk 24 (.tmp 3) w.heap.size 24 c1 _ (fun w h => OHeld.a h) (by rfl) (by rfl) Tryd.underlying24 rfl (HS1.out) (by rfl)) (by assumption) ?_
      try simp only [List.getElem_toArray, List.getElem_cons_zero, List.getElem_cons_succ, Act.put, List.setIfInBounds_toArray, List.set_cons_zero, List.set_cons_succ]
      refine wpAnyH_ready (rs := [2]) (by kernel_rfl) (by simp) ?_
      refine AllReadyH.cons (o := _) rfl (fun K hK => ?_) AllReadyH.nil
      simp only [List.getElem_toArray, List.getElem_cons_zero, List.getElem_cons_succ]
      go_simp
      refine (Haa.out _).mono ?_
      rintro e wn ⟨rfl, b⟩
      have Bn := Lib.hid (BB.out.trans (b.mono BB.out.size))
      have hH := hHeld.keep b
      clear b BB
      go_simp
      refine hK.out _ _ hH (fun hHeld2 => ?_)
      clear hK K hHeld hH
      have hHeld := hHeld2
      have BB := Bn
      clear hHeld2 Bn
      try simp only [List.getElem_toArray, List.getElem_cons_zero, List.getElem_cons_succ, Act.put, List.setIfInBounds_toArray, List.set_cons_zero, List.set_cons_succ]
      refine wpAnyH_take (i := 3) (oi := _) (v := ?_) rfl (by kernel_rfl) (by kernel_rfl) (by kernel_rfl) (fun _ _ _ h => h) (Or.inl ⟨by rfl, ?_⟩) (by assumption) ?_
      case refine_2 => (intro w hSw; go_simp <;> with_reducible rfl)
      try simp only [List.getElem_toArray, List.getElem_cons_zero, List.getElem_cons_succ, Act.put, List.setIfInBounds_toArray, List.set_cons_zero, List.set_cons_succ]
      refine wpAnyH_take (i := 4) (oi := _) (v := .agg c1) rfl (by kernel_rfl) (by kernel_rfl) (by kernel_rfl) (fun _ _ _ h => h) (yieldsIf_load_blk 24 (.tmp 3) w.heap.size 24 c1 _ (fun w h => OHeld.a h) (by rfl) (by rfl) Tryd.underlying24 rfl (HS1.out) (by rfl)) (by assumption) ?_
      try simp only [List.getElem_toArray, List.getElem_cons_zero, List.getElem_cons_succ, Act.put, List.setIfInBounds_toArray, List.set_cons_zero, List.set_cons_succ]
      refine wpAnyH_take (i := 5) (oi := _) (v := .agg c2) rfl (by kernel_rfl) (by kernel_rfl) (by kernel_rfl) (fun _ _ _ h => h) (yieldsIf_load_blk 24 (.tmp 4) (w.heap.size + 1) 24 c2 _ (fun w h => OHeld.b h) (by rfl) (by rfl) Tryd.underlying24 rfl (HS2.out) (by rfl)) (by assumption) ?_
      try simp only [List.getElem_toArray, List.getElem_cons_zero, List.getElem_cons_succ, Act.put, List.setIfInBounds_toArray, List.set_cons_zero, List.set_cons_succ]
      refine wpAnyH_take (i := 7) (oi := _) (v := .agg c2) rfl (by kernel_rfl) (by kernel_rfl) (by kernel_rfl) (fun _ _ _ h => h) (yieldsIf_load_blk 24 (.tmp 4) (w.heap.size + 1) 24 c2 _ (fun w h => OHeld.b h) (by rfl) (by rfl) Tryd.underlying24 rfl (HS2.out) (by rfl)) (by assumption) ?_
      try simp only [List.getElem_toArray, List.getElem_cons_zero, List.getElem_cons_succ, Act.put, List.setIfInBounds_toArray, List.set_cons_zero, List.set_cons_succ]
      refine wpAnyH_take (i := 8) (oi := _) (v := .agg c1) rfl (by kernel_rfl) (by kernel_rfl) (by kernel_rfl) (fun _ _ _ h => h) (yieldsIf_load_blk 24 (.tmp 3) w.heap.size 24 c1 _ (fun w h => OHeld.a h) (by rfl) (by rfl) Tryd.underlying24 rfl (HS1.out) (by rfl)) (by assumption) ?_
      try simp only [List.getElem_toArray, List.getElem_cons_zero, List.getElem_cons_succ, Act.put, List.setIfInBounds_toArray, List.set_cons_zero, List.set_cons_succ]
      refine wpAnyH_take (i := 11) (oi := _) (v := .agg c1) rfl (by kernel_rfl) (by kernel_rfl) (by kernel_rfl) (fun _ _ _ h => h) (yieldsIf_load_blk 24 (.tmp 3) w.heap.size 24 c1 _ (fun w h => OHeld.a h) (by rfl) (by rfl) Tryd.underlying24 rfl (HS1.out) (by rfl)) (by assumption) ?_
      try simp only [List.getElem_toArray, List.getElem_cons_zero, List.getElem_cons_succ, Act.put, List.setIfInBounds_toArray, List.set_cons_zero, List.set_cons_succ]
      refine wpAnyH_take (i := 12) (oi := _) (v := .agg c2) rfl (by kernel_rfl) (by kernel_rfl) (by kernel_rfl) (fun _ _ _ h => h) (yieldsIf_load_blk 24 (.tmp 4) (w.heap.size + 1) 24 c2 _ (fun w h => OHeld.b h) (by rfl) (by rfl) Tryd.underlying24 rfl (HS2.out) (by rfl)) (by assumption) ?_
      try simp only [List.getElem_toArray, List.getElem_cons_zero, List.getElem_cons_succ, Act.put, List.setIfInBounds_toArray, List.set_cons_zero, List.set_cons_succ]
      refine wpAnyH_take (i := 13) (oi := _) (v := ?_) rfl (by kernel_rfl) (by kernel_rfl) (by kernel_rfl) (fun _ _ _ h => h) (Or.inl ⟨by rfl, ?_⟩) (by assumption) ?_
      case refine_2 => (intro w hSw; go_simp <;> with_reducible rfl)
      try simp only [List.getElem_toArray, List.getElem_cons_zero, List.getElem_cons_succ, Act.put, List.setIfInBounds_toArray, List.set_cons_zero, List.set_cons_succ]
      refine wpAnyH_ready (rs := [6]) (by kernel_rfl) (by simp) ?_
      refine AllReadyH.cons (o := _) rfl (fun K hK => ?_) AllReadyH.nil
      simp only [List.getElem_toArray, List.getElem_cons_zero, List.getElem_cons_succ]
      go_simp
      refine (Hab.out _).mono ?_
      rintro e wn ⟨rfl, b⟩
      have Bn := Lib.hid (BB.out.trans (b.mono BB.out.size))
      have hH := hHeld.keep b
      clear b BB
      go_simp
      refine hK.out _ _ hH (fun hHeld2 => ?_)
      clear hK K hHeld hH
      have hHeld := hHeld2
      have BB := Bn
      clear hHeld2 Bn
      try simp only [List.getElem_toArray, List.getElem_cons_zero, List.getElem_cons_succ, Act.put, List.setIfInBounds_toArray, List.set_cons_zero, List.set_cons_succ]
      refine wpAnyH_ready (rs := [9]) (by kernel_rfl) (by simp) ?_
      refine AllReadyH.cons (o := _) rfl (fun K hK => ?_) AllReadyH.nil
      simp only [List.getElem_toArray, List.getElem_cons_zero, List.getElem_cons_succ]
      go_simp
      refine (Hba.out _).mono ?_
      rintro e wn ⟨rfl, b⟩
      have Bn := Lib.hid (BB.out.trans (b.mono BB.out.size))
      have hH := hHeld.keep b
      clear b BB
      go_simp
      refine hK.out _ _ hH (fun hHeld2 => ?_)
      clear hK K hHeld hH
      have hHeld := hHeld2
      have BB := Bn
      clear hHeld2 Bn
      try simp only [List.getElem_toArray, List.getElem_cons_zero, List.getElem_cons_succ, Act.put, List.setIfInBounds_toArray, List.set_cons_zero, List.set_cons_succ]
      refine wpAnyH_take (i := 10) (oi := _) (v := ?_) rfl (by kernel_rfl) (by kernel_rfl) (by kernel_rfl) (fun _ _ _ h => h) (Or.inl ⟨by rfl, ?_⟩) (by assumption) ?_
      case refine_2 => (intro w hSw; go_simp <;> with_reducible rfl)
      try simp only [List.getElem_toArray, List.getElem_cons_zero, List.getElem_cons_succ, Act.put, List.setIfInBounds_toArray, List.set_cons_zero, List.set_cons_succ]
      refine wpAnyH_take (i := 14) (oi := _) (v := ?_) rfl (by kernel_rfl) (by kernel_rfl) (by kernel_rfl) (fun _ _ _ h => h) (Or.inl ⟨by rfl, ?_⟩) (by assumption) ?_
      case refine_2 => (intro w hSw; go_simp <;> with_reducible rfl)
      try simp only [List.getElem_toArray, List.getElem_cons_zero, List.getElem_cons_succ, Act.put, List.setIfInBounds_toArray, List.set_cons_zero, List.set_cons_succ]
      refine wpAnyH_take (i := 15) (oi := _) (v := ?_) rfl (by kernel_rfl) (by kernel_rfl) (by kernel_rfl) (fun _ _ _ h => h) (Or.inl ⟨by rfl, ?_⟩) (by assumption) ?_
      case refine_2 => (intro w hSw; go_simp <;> with_reducible rfl)
      try simp only [List.getElem_toArray, List.getElem_cons_zero, List.getElem_cons_succ, Act.put, List.setIfInBounds_toArray, List.set_cons_zero, List.set_cons_succ]
      refine wpAnyH_take (i := 16) (oi := _) (v := ?_) rfl (by kernel_rfl) (by kernel_rfl) (by kernel_rfl) (fun _ _ _ h => h) (Or.inl ⟨by rfl, ?_⟩) (by assumption) ?_
      case refine_2 => (intro w hSw; go_simp <;> with_reducible rfl)
      try simp only [List.getElem_toArray, List.getElem_cons_zero, List.getElem_cons_succ, Act.put, List.setIfInBounds_toArray, List.set_cons_zero, List.set_cons_succ]
      refine wpAnyH_take (i := 17) (oi := _) (v := .agg c1) rfl (by kernel_rfl) (by kernel_rfl) (by kernel_rfl) (fun _ _ _ h => h) (yieldsIf_load_blk 24 (.tmp 3) w.heap.size 24 c1 _ (fun w h => OHeld.a h) (by rfl) (by rfl) Tryd.underlying24 rfl (HS1.out) (by rfl)) (by assumption) ?_
      try simp only [List.getElem_toArray, List.getElem_cons_zero, List.getElem_cons_succ, Act.put, List.setIfInBounds_toArray, List.set_cons_zero, List.set_cons_succ]
      refine wpAnyH_take (i := 18) (oi := _) (v := .agg c2) rfl (by kernel_rfl) (by kernel_rfl) (by kernel_rfl) (fun _ _ _ h => h) (yieldsIf_load_blk 24 (.tmp 4) (w.heap.size + 1) 24 c2 _ (fun w h => OHeld.b h) (by rfl) (by rfl) Tryd.underlying24 rfl (HS2.out) (by rfl)) (by assumption) ?_
      try simp only [List.getElem_toArray, List.getElem_cons_zero, List.getElem_cons_succ, Act.put, List.setIfInBounds_toArray, List.set_cons_zero, List.set_cons_succ]
      refine wpAnyH_ready (rs := [19]) (by kernel_rfl) (by simp) ?_
      refine AllReadyH.cons (o := _) rfl (fun K hK => ?_) AllReadyH.nil
      simp only [List.getElem_toArray, List.getElem_cons_zero, List.getElem_cons_succ]
      go_simp
      refine (Hab.out _).mono ?_
      rintro e wn ⟨rfl, b⟩
      have Bn := Lib.hid (BB.out.trans (b.mono BB.out.size))
      have hH := hHeld.keep b
      clear b BB
      go_simp
      refine hK.out _ _ hH (fun hHeld2 => ?_)
      clear hK K hHeld hH
      have hHeld := hHeld2
      have BB := Bn
      clear hHeld2 Bn
      try simp only [List.getElem_toArray, List.getElem_cons_zero, List.getElem_cons_succ, Act.put, List.setIfInBounds_toArray, List.set_cons_zero, List.set_cons_succ]
      refine wpAnyH_take (i := 20) (oi := _) (v := ?_) rfl (by kernel_rfl) (by kernel_rfl) (by kernel_rfl) (fun _ _ _ h => h) (Or.inl ⟨by rfl, ?_⟩) (by assumption) ?_
      case refine_2 => (intro w hSw; go_simp <;> with_reducible rfl)
      try simp only [List.getElem_toArray, List.getElem_cons_zero, List.getElem_cons_succ, Act.put, List.setIfInBounds_toArray, List.set_cons_zero, List.set_cons_succ]
      refine wpAnyH_take (i := 21) (oi := _) (v := .agg c2) rfl (by kernel_rfl) (by kernel_rfl) (by kernel_rfl) (fun _ _ _ h => h) (yieldsIf_load_blk 24 (.tmp 4) (w.heap.size + 1) 24 c2 _ (fun w h => OHeld.b h) (by rfl) (by rfl) Tryd.underlying24 rfl (HS2.out) (by rfl)) (by assumption) ?_
      try simp only [List.getElem_toArray, List.getElem_cons_zero, List.getElem_cons_succ, Act.put, List.setIfInBounds_toArray, List.set_cons_zero, List.set_cons_succ]
      refine wpAnyH_take (i := 22) (oi := _) (v := .agg c3) rfl (by kernel_rfl) (by kernel_rfl) (by kernel_rfl) (fun _ _ _ h => h) (yieldsIf_load_blk 24 (.tmp 5) (w.heap.size + 1 + 1) 24 c3 _ (fun w h => OHeld.c h) (by rfl) (by rfl) Tryd.underlying24 rfl (HS3.out) (by rfl)) (by assumption) ?_
      try simp only [List.getElem_toArray, List.getElem_cons_zero, List.getElem_cons_succ, Act.put, List.setIfInBounds_toArray, List.set_cons_zero, List.set_cons_succ]
      refine wpAnyH_ready (rs := [23]) (by kernel_rfl) (by simp) ?_
      refine AllReadyH.cons (o := _) rfl (fun K hK => ?_) AllReadyH.nil
      simp only [List.getElem_toArray, List.getElem_cons_zero, List.getElem_cons_succ]
      go_simp
      refine (Hbc.out _).mono ?_
      rintro e wn ⟨rfl, b⟩
      have Bn := Lib.hid (BB.out.trans (b.mono BB.out.size))
      have hH := hHeld.keep b
      clear b BB
      go_simp
      refine hK.out _ _ hH (fun hHeld2 => ?_)
      clear hK K hHeld hH
      have hHeld := hHeld2
      have BB := Bn
      clear hHeld2 Bn
      try simp only [List.getElem_toArray, List.getElem_cons_zero, List.getElem_cons_succ, Act.put, List.setIfInBounds_toArray, List.set_cons_zero, List.set_cons_succ]
      refine wpAnyH_take (i := 24) (oi := _) (v := ?_) rfl (by kernel_rfl) (by kernel_rfl) (by kernel_rfl) (fun _ _ _ h => h) (Or.inl ⟨by rfl, ?_⟩) (by assumption) ?_
      case refine_2 => (intro w hSw; go_simp <;> with_reducible rfl)
      try simp only [List.getElem_toArray, List.getElem_cons_zero, List.getElem_cons_succ, Act.put, List.setIfInBounds_toArray, List.set_cons_zero, List.set_cons_succ]
      refine wpAnyH_take (i := 25) (oi := _) (v := ?_) rfl (by kernel_rfl) (by kernel_rfl) (by kernel_rfl) (fun _ _ _ h => h) (Or.inl ⟨by rfl, ?_⟩) (by assumption) ?_
      case refine_2 => (intro w hSw; go_simp <;> with_reducible rfl)
      try simp only [List.getElem_toArray, List.getElem_cons_zero, List.getElem_cons_succ, Act.put, List.setIfInBounds_toArray, List.set_cons_zero, List.set_cons_succ]
      refine wpAnyH_take (i := 26) (oi := _) (v := .agg c1) rfl (by kernel_rfl) (by kernel_rfl) (by kernel_rfl) (fun _ _ _ h => h) (yieldsIf_load_blk 24 (.tmp 3) w.heap.size 24 c1 _ (fun w h => OHeld.a h) (by rfl) (by rfl) Tryd.underlying24 rfl (HS1.out) (by rfl)) (by assumption) ?_
      try simp only [List.getElem_toArray, List.getElem_cons_zero, List.getElem_cons_succ, Act.put, List.setIfInBounds_toArray, List.set_cons_zero, List.set_cons_succ]
      refine wpAnyH_take (i := 27) (oi := _) (v := .agg c3) rfl (by kernel_rfl) (by kernel_rfl) (by kernel_rfl) (fun _ _ _ h => h) (yieldsIf_load_blk 24 (.tmp 5) (w.heap.size + 1 + 1) 24 c3 _ (fun w h => OHeld.c h) (by rfl) (by rfl) Tryd.underlying24 rfl (HS3.out) (by rfl)) (by assumption) ?_
      try simp only [List.getElem_toArray, List.getElem_cons_zero, List.getElem_cons_succ, Act.put, List.setIfInBounds_toArray, List.set_cons_zero, List.set_cons_succ]
      refine wpAnyH_ready (rs := [28]) (by kernel_rfl) (by simp) ?_
      refine AllReadyH.cons (o := _) rfl (fun K hK => ?_) AllReadyH.nil
      simp only [List.getElem_toArray, List.getElem_cons_zero, List.getElem_cons_succ]
      go_simp
      refine (Hac.out _).mono ?_
      rintro e wn ⟨rfl, b⟩
      have Bn := Lib.hid (BB.out.trans (b.mono BB.out.size))
      have hH := hHeld.keep b
      clear b BB
      go_simp
      refine hK.out _ _ hH (fun hHeld2 => ?_)
      clear hK K hHeld hH
      have hHeld := hHeld2
      have BB := Bn
      clear hHeld2 Bn
      try simp only [List.getElem_toArray, List.getElem_cons_zero, List.getElem_cons_succ, Act.put, List.setIfInBounds_toArray, List.set_cons_zero, List.set_cons_succ]
      refine wpAnyH_take (i := 29) (oi := _) (v := ?_) rfl (by kernel_rfl) (by kernel_rfl) (by kernel_rfl) (fun _ _ _ h => h) (Or.inl ⟨by rfl, ?_⟩) (by assumption) ?_
      case refine_2 => (intro w hSw; go_simp <;> with_reducible rfl)
      try simp only [List.getElem_toArray, List.getElem_cons_zero, List.getElem_cons_succ, Act.put, List.setIfInBounds_toArray, List.set_cons_zero, List.set_cons_succ]
      refine wpAnyH_take (i := 30) (oi := _) (v := ?_) rfl (by kernel_rfl) (by kernel_rfl) (by kernel_rfl) (fun _ _ _ h => h) (Or.inl ⟨by rfl, ?_⟩) (by assumption) ?_
      case refine_2 => (intro w hSw; go_simp <;> with_reducible rfl)
      try simp only [List.getElem_toArray, List.getElem_cons_zero, List.getElem_cons_succ, Act.put, List.setIfInBounds_toArray, List.set_cons_zero, List.set_cons_succ]
      refine wpAnyH_take (i := 31) (oi := _) (v := ?_) rfl (by kernel_rfl) (by kernel_rfl) (by kernel_rfl) (fun _ _ _ h => h) (Or.inl ⟨by rfl, ?_⟩) (by assumption) ?_
      case refine_2 => (intro w hSw; go_simp <;> with_reducible rfl)
      try simp only [List.getElem_toArray, List.getElem_cons_zero, List.getElem_cons_succ, Act.put, List.setIfInBounds_toArray, List.set_cons_zero, List.set_cons_succ]
      refine wpAnyH_done (by kernel_rfl) ?_ _
      have HH2 := Lib.hid hHeld
      clear hHeld HH
      have HH := HH2
      clear HH2
      go_wp2_with (refine wpList_load_blk 24 (.tmp 3) w.heap.size 24 c1 _ HH.out.a (by rfl) (by rfl) Tryd.underlying24 rfl HS1.out (by rfl) ?_)
      refine (HPA.out _ (E.out.below BB.out)).mono ?_
      rintro e w8 ⟨rfl, b⟩
      have HH2 := Lib.hid (HH.out.keep b)
      have BB2 := Lib.hid (BB.out.trans (b.mono BB.out.size))
      clear b HH BB
      go_wp2_with (refine wpList_load_blk 24 (.tmp 4) (w.heap.size + 1) 24 c2 _ HH2.out.b (by rfl) (by rfl) Tryd.underlying24 rfl HS2.out (by rfl) ?_)
      refine (HPB.out _ (E.out.below BB2.out)).mono ?_
      rintro e w9 ⟨rfl, b⟩
      have HH3 := Lib.hid (HH2.out.keep b)
      have BB3 := Lib.hid (BB2.out.trans (b.mono BB2.out.size))
      clear b HH2 BB2
      by_cases h0 : ea = 0
      · subst h0
        by_cases h1 : eb = 0
        · subst h1
          have hsr := HP.out rfl rfl
          have hst : (sa.toList == sb.toList) = false := by
            rw [← hsr, ByteArray.toList_eq, ByteArray.toList_eq]
            by_cases h : sa = sb
            · rw [decide_eq_true h, h]; exact beq_self_eq_true _
            · rw [decide_eq_false h, beq_eq_false_iff_ne]
              exact fun e => h (by cases sa; cases sb; simp at e; rw [e])
          go_wp2_with (first | (refine wpList_load_blk 24 (.tmp 3) w.heap.size 24 c1 _ HH3.out.a (by rfl) (by rfl) Tryd.underlying24 rfl HS1.out (by rfl) ?_) | (refine wpList_load_blk 24 (.tmp 4) (w.heap.size + 1) 24 c2 _ HH3.out.b (by rfl) (by rfl) Tryd.underlying24 rfl HS2.out (by rfl) ?_))
          go_ret
          exact ⟨rfl, BB3.out⟩
        · have hn1 : (eb == 0) = false := by rw [beq_eq_false_iff_ne]; exact h1
          go_wp2_with fail
          go_ret
          exact ⟨rfl, BB3.out⟩
      · have hn1 : (ea == 0) = false := by rw [beq_eq_false_iff_ne]; exact h0
        go_wp2_with fail
        go_ret
        exact ⟨rfl, BB3.out⟩
    | false =>
      go_upto_region 3 with fail
      refine wp_region_held_drew (S := OHeld w.heap.size c1 c2 c3) (by kernel_rfl) (⟨HH.out.a, HH.out.b, HH.out.c⟩) (fun hHeld => ?_)
      have Bd := Lib.hid (below_drew BB.out)
      clear BB
      have BB := Bd
      clear Bd
      refine wpAnyH_take (i := 0) (oi := _) (v := .agg c1) rfl (by kernel_rfl) (by kernel_rfl) (by kernel_rfl) (fun _ _ _ h => h) (yieldsIf_load_blk 24 (.tmp 3) w.heap.size 24 c1 _ (fun w h => OHeld.a h) (by rfl) (by rfl) Tryd.underlying24 rfl (HS1.out) (by rfl)) (by assumption) ?_
      try simp only [List.getElem_toArray, List.getElem_cons_zero, Act.put, List.setIfInBounds_toArray, List.set_cons_zero, List.set_cons_succ]
      refine wpAnyH_take (i := 1) (oi := _) (v := .agg c1) rfl (by kernel_rfl) (by kernel_rfl) (by kernel_rfl) (fun _ _ _ h => h) (yieldsIf_load_blk 24 (.tmp 3) w.heap.size 24 c1 _ (fun w h => OHeld.a h) (by rfl) (by rfl) Tryd.underlying24 rfl (HS1.out) (by rfl)) (by assumption) ?_
      try simp only [List.getElem_toArray, List.getElem_cons_zero, List.getElem_cons_succ, Act.put, List.setIfInBounds_toArray, List.set_cons_zero, List.set_cons_succ]
      refine wpAnyH_ready (rs := [2]) (by kernel_rfl) (by simp) ?_
      refine AllReadyH.cons (o := _) rfl (fun K hK => ?_) AllReadyH.nil
      simp only [List.getElem_toArray, List.getElem_cons_zero, List.getElem_cons_succ]
      go_simp
      refine (Haa.out _).mono ?_
      rintro e wn ⟨rfl, b⟩
      have Bn := Lib.hid (BB.out.trans (b.mono BB.out.size))
      have hH := hHeld.keep b
      clear b BB
      go_simp
      refine hK.out _ _ hH (fun hHeld2 => ?_)
      clear hK K hHeld hH
      have hHeld := hHeld2
      have BB := Bn
      clear hHeld2 Bn
      try simp only [List.getElem_toArray, List.getElem_cons_zero, List.getElem_cons_succ, Act.put, List.setIfInBounds_toArray, List.set_cons_zero, List.set_cons_succ]
      refine wpAnyH_take (i := 3) (oi := _) (v := ?_) rfl (by kernel_rfl) (by kernel_rfl) (by kernel_rfl) (fun _ _ _ h => h) (Or.inl ⟨by rfl, ?_⟩) (by assumption) ?_
      case refine_2 => (intro w hSw; go_simp <;> with_reducible rfl)
      try simp only [List.getElem_toArray, List.getElem_cons_zero, List.getElem_cons_succ, Act.put, List.setIfInBounds_toArray, List.set_cons_zero, List.set_cons_succ]
      refine wpAnyH_take (i := 4) (oi := _) (v := .agg c1) rfl (by kernel_rfl) (by kernel_rfl) (by kernel_rfl) (fun _ _ _ h => h) (yieldsIf_load_blk 24 (.tmp 3) w.heap.size 24 c1 _ (fun w h => OHeld.a h) (by rfl) (by rfl) Tryd.underlying24 rfl (HS1.out) (by rfl)) (by assumption) ?_
      try simp only [List.getElem_toArray, List.getElem_cons_zero, List.getElem_cons_succ, Act.put, List.setIfInBounds_toArray, List.set_cons_zero, List.set_cons_succ]
      refine wpAnyH_take (i := 5) (oi := _) (v := .agg c2) rfl (by kernel_rfl) (by kernel_rfl) (by kernel_rfl) (fun _ _ _ h => h) (yieldsIf_load_blk 24 (.tmp 4) (w.heap.size + 1) 24 c2 _ (fun w h => OHeld.b h) (by rfl) (by rfl) Tryd.underlying24 rfl (HS2.out) (by rfl)) (by assumption) ?_
      try simp only [List.getElem_toArray, List.getElem_cons_zero, List.getElem_cons_succ, Act.put, List.setIfInBounds_toArray, List.set_cons_zero, List.set_cons_succ]
      refine wpAnyH_take (i := 7) (oi := _) (v := .agg c2) rfl (by kernel_rfl) (by kernel_rfl) (by kernel_rfl) (fun _ _ _ h => h) (yieldsIf_load_blk 24 (.tmp 4) (w.heap.size + 1) 24 c2 _ (fun w h => OHeld.b h) (by rfl) (by rfl) Tryd.underlying24 rfl (HS2.out) (by rfl)) (by assumption) ?_
      try simp only [List.getElem_toArray, List.getElem_cons_zero, List.getElem_cons_succ, Act.put, List.setIfInBounds_toArray, List.set_cons_zero, List.set_cons_succ]
      refine wpAnyH_take (i := 8) (oi := _) (v := .agg c1) rfl (by kernel_rfl) (by kernel_rfl) (by kernel_rfl) (fun _ _ _ h => h) (yieldsIf_load_blk 24 (.tmp 3) w.heap.size 24 c1 _ (fun w h => OHeld.a h) (by rfl) (by rfl) Tryd.underlying24 rfl (HS1.out) (by rfl)) (by assumption) ?_
      try simp only [List.getElem_toArray, List.getElem_cons_zero, List.getElem_cons_succ, Act.put, List.setIfInBounds_toArray, List.set_cons_zero, List.set_cons_succ]
      refine wpAnyH_take (i := 11) (oi := _) (v := .agg c1) rfl (by kernel_rfl) (by kernel_rfl) (by kernel_rfl) (fun _ _ _ h => h) (yieldsIf_load_blk 24 (.tmp 3) w.heap.size 24 c1 _ (fun w h => OHeld.a h) (by rfl) (by rfl) Tryd.underlying24 rfl (HS1.out) (by rfl)) (by assumption) ?_
      try simp only [List.getElem_toArray, List.getElem_cons_zero, List.getElem_cons_succ, Act.put, List.setIfInBounds_toArray, List.set_cons_zero, List.set_cons_succ]
      refine wpAnyH_take (i := 12) (oi := _) (v := .agg c2) rfl (by kernel_rfl) (by kernel_rfl) (by kernel_rfl) (fun _ _ _ h => h) (yieldsIf_load_blk 24 (.tmp 4) (w.heap.size + 1) 24 c2 _ (fun w h => OHeld.b h) (by rfl) (by rfl) Tryd.underlying24 rfl (HS2.out) (by rfl)) (by assumption) ?_
      try simp only [List.getElem_toArray, List.getElem_cons_zero, List.getElem_cons_succ, Act.put, List.setIfInBounds_toArray, List.set_cons_zero, List.set_cons_succ]
      refine wpAnyH_take (i := 13) (oi := _) (v := ?_) rfl (by kernel_rfl) (by kernel_rfl) (by kernel_rfl) (fun _ _ _ h => h) (Or.inl ⟨by rfl, ?_⟩) (by assumption) ?_
      case refine_2 => (intro w hSw; go_simp <;> with_reducible rfl)
      try simp only [List.getElem_toArray, List.getElem_cons_zero, List.getElem_cons_succ, Act.put, List.setIfInBounds_toArray, List.set_cons_zero, List.set_cons_succ]
      refine wpAnyH_ready (rs := [6]) (by kernel_rfl) (by simp) ?_
      refine AllReadyH.cons (o := _) rfl (fun K hK => ?_) AllReadyH.nil
      simp only [List.getElem_toArray, List.getElem_cons_zero, List.getElem_cons_succ]
      go_simp
      refine (Hab.out _).mono ?_
      rintro e wn ⟨rfl, b⟩
      have Bn := Lib.hid (BB.out.trans (b.mono BB.out.size))
      have hH := hHeld.keep b
      clear b BB
      go_simp
      refine hK.out _ _ hH (fun hHeld2 => ?_)
      clear hK K hHeld hH
      have hHeld := hHeld2
      have BB := Bn
      clear hHeld2 Bn
      try simp only [List.getElem_toArray, List.getElem_cons_zero, List.getElem_cons_succ, Act.put, List.setIfInBounds_toArray, List.set_cons_zero, List.set_cons_succ]
      refine wpAnyH_ready (rs := [9]) (by kernel_rfl) (by simp) ?_
      refine AllReadyH.cons (o := _) rfl (fun K hK => ?_) AllReadyH.nil
      simp only [List.getElem_toArray, List.getElem_cons_zero, List.getElem_cons_succ]
      go_simp
      refine (Hba.out _).mono ?_
      rintro e wn ⟨rfl, b⟩
      have Bn := Lib.hid (BB.out.trans (b.mono BB.out.size))
      have hH := hHeld.keep b
      clear b BB
      go_simp
      refine hK.out _ _ hH (fun hHeld2 => ?_)
      clear hK K hHeld hH
      have hHeld := hHeld2
      have BB := Bn
      clear hHeld2 Bn
      try simp only [List.getElem_toArray, List.getElem_cons_zero, List.getElem_cons_succ, Act.put, List.setIfInBounds_toArray, List.set_cons_zero, List.set_cons_succ]
      refine wpAnyH_take (i := 10) (oi := _) (v := ?_) rfl (by kernel_rfl) (by kernel_rfl) (by kernel_rfl) (fun _ _ _ h => h) (Or.inl ⟨by rfl, ?_⟩) (by assumption) ?_
      case refine_2 => (intro w hSw; go_simp <;> with_reducible rfl)
      try simp only [List.getElem_toArray, List.getElem_cons_zero, List.getElem_cons_succ, Act.put, List.setIfInBounds_toArray, List.set_cons_zero, List.set_cons_succ]
      refine wpAnyH_take (i := 14) (oi := _) (v := ?_) rfl (by kernel_rfl) (by kernel_rfl) (by kernel_rfl) (fun _ _ _ h => h) (Or.inl ⟨by rfl, ?_⟩) (by assumption) ?_
      case refine_2 => (intro w hSw; go_simp <;> with_reducible rfl)
      try simp only [List.getElem_toArray, List.getElem_cons_zero, List.getElem_cons_succ, Act.put, List.setIfInBounds_toArray, List.set_cons_zero, List.set_cons_succ]
      refine wpAnyH_take (i := 15) (oi := _) (v := ?_) rfl (by kernel_rfl) (by kernel_rfl) (by kernel_rfl) (fun _ _ _ h => h) (Or.inl ⟨by rfl, ?_⟩) (by assumption) ?_
      case refine_2 => (intro w hSw; go_simp <;> with_reducible rfl)
      try simp only [List.getElem_toArray, List.getElem_cons_zero, List.getElem_cons_succ, Act.put, List.setIfInBounds_toArray, List.set_cons_zero, List.set_cons_succ]
      refine wpAnyH_take (i := 16) (oi := _) (v := ?_) rfl (by kernel_rfl) (by kernel_rfl) (by kernel_rfl) (fun _ _ _ h => h) (Or.inl ⟨by rfl, ?_⟩) (by assumption) ?_
      case refine_2 => (intro w hSw; go_simp <;> with_reducible rfl)
      try simp only [List.getElem_toArray, List.getElem_cons_zero, List.getElem_cons_succ, Act.put, List.setIfInBounds_toArray, List.set_cons_zero, List.set_cons_succ]
      refine wpAnyH_take (i := 17) (oi := _) (v := .agg c1) rfl (by kernel_rfl) (by kernel_rfl) (by kernel_rfl) (fun _ _ _ h => h) (yieldsIf_load_blk 24 (.tmp 3) w.heap.size 24 c1 _ (fun w h => OHeld.a h) (by rfl) (by rfl) Tryd.underlying24 rfl (HS1.out) (by rfl)) (by assumption) ?_
      try simp only [List.getElem_toArray, List.getElem_cons_zero, List.getElem_cons_succ, Act.put, List.setIfInBounds_toArray, List.set_cons_zero, List.set_cons_succ]
      refine wpAnyH_take (i := 18) (oi := _) (v := .agg c2) rfl (by kernel_rfl) (by kernel_rfl) (by kernel_rfl) (fun _ _ _ h => h) (yieldsIf_load_blk 24 (.tmp 4) (w.heap.size + 1) 24 c2 _ (fun w h => OHeld.b h) (by rfl) (by rfl) Tryd.underlying24 rfl (HS2.out) (by rfl)) (by assumption) ?_
      try simp only [List.getElem_toArray, List.getElem_cons_zero, List.getElem_cons_succ, Act.put, List.setIfInBounds_toArray, List.set_cons_zero, List.set_cons_succ]
      refine wpAnyH_ready (rs := [19]) (by kernel_rfl) (by simp) ?_
      refine AllReadyH.cons (o := _) rfl (fun K hK => ?_) AllReadyH.nil
      simp only [List.getElem_toArray, List.getElem_cons_zero, List.getElem_cons_succ]
      go_simp
      refine (Hab.out _).mono ?_
      rintro e wn ⟨rfl, b⟩
      have Bn := Lib.hid (BB.out.trans (b.mono BB.out.size))
      have hH := hHeld.keep b
      clear b BB
      go_simp
      refine hK.out _ _ hH (fun hHeld2 => ?_)
      clear hK K hHeld hH
      have hHeld := hHeld2
      have BB := Bn
      clear hHeld2 Bn
      try simp only [List.getElem_toArray, List.getElem_cons_zero, List.getElem_cons_succ, Act.put, List.setIfInBounds_toArray, List.set_cons_zero, List.set_cons_succ]
      refine wpAnyH_take (i := 20) (oi := _) (v := ?_) rfl (by kernel_rfl) (by kernel_rfl) (by kernel_rfl) (fun _ _ _ h => h) (Or.inl ⟨by rfl, ?_⟩) (by assumption) ?_
      case refine_2 => (intro w hSw; go_simp <;> with_reducible rfl)
      try simp only [List.getElem_toArray, List.getElem_cons_zero, List.getElem_cons_succ, Act.put, List.setIfInBounds_toArray, List.set_cons_zero, List.set_cons_succ]
      refine wpAnyH_take (i := 21) (oi := _) (v := .agg c2) rfl (by kernel_rfl) (by kernel_rfl) (by kernel_rfl) (fun _ _ _ h => h) (yieldsIf_load_blk 24 (.tmp 4) (w.heap.size + 1) 24 c2 _ (fun w h => OHeld.b h) (by rfl) (by rfl) Tryd.underlying24 rfl (HS2.out) (by rfl)) (by assumption) ?_
      try simp only [List.getElem_toArray, List.getElem_cons_zero, List.getElem_cons_succ, Act.put, List.setIfInBounds_toArray, List.set_cons_zero, List.set_cons_succ]
      refine wpAnyH_take (i := 22) (oi := _) (v := .agg c3) rfl (by kernel_rfl) (by kernel_rfl) (by kernel_rfl) (fun _ _ _ h => h) (yieldsIf_load_blk 24 (.tmp 5) (w.heap.size + 1 + 1) 24 c3 _ (fun w h => OHeld.c h) (by rfl) (by rfl) Tryd.underlying24 rfl (HS3.out) (by rfl)) (by assumption) ?_
      try simp only [List.getElem_toArray, List.getElem_cons_zero, List.getElem_cons_succ, Act.put, List.setIfInBounds_toArray, List.set_cons_zero, List.set_cons_succ]
      refine wpAnyH_ready (rs := [23]) (by kernel_rfl) (by simp) ?_
      refine AllReadyH.cons (o := _) rfl (fun K hK => ?_) AllReadyH.nil
      simp only [List.getElem_toArray, List.getElem_cons_zero, List.getElem_cons_succ]
      go_simp
      refine (Hbc.out _).mono ?_
      rintro e wn ⟨rfl, b⟩
      have Bn := Lib.hid (BB.out.trans (b.mono BB.out.size))
      have hH := hHeld.keep b
      clear b BB
      go_simp
      refine hK.out _ _ hH (fun hHeld2 => ?_)
      clear hK K hHeld hH
      have hHeld := hHeld2
      have BB := Bn
      clear hHeld2 Bn
      try simp only [List.getElem_toArray, List.getElem_cons_zero, List.getElem_cons_succ, Act.put, List.setIfInBounds_toArray, List.set_cons_zero, List.set_cons_succ]
      refine wpAnyH_take (i := 24) (oi := _) (v := ?_) rfl (by kernel_rfl) (by kernel_rfl) (by kernel_rfl) (fun _ _ _ h => h) (Or.inl ⟨by rfl, ?_⟩) (by assumption) ?_
      case refine_2 => (intro w hSw; go_simp <;> with_reducible rfl)
      try simp only [List.getElem_toArray, List.getElem_cons_zero, List.getElem_cons_succ, Act.put, List.setIfInBounds_toArray, List.set_cons_zero, List.set_cons_succ]
      refine wpAnyH_take (i := 25) (oi := _) (v := ?_) rfl (by kernel_rfl) (by kernel_rfl) (by kernel_rfl) (fun _ _ _ h => h) (Or.inl ⟨by rfl, ?_⟩) (by assumption) ?_
      case refine_2 => (intro w hSw; go_simp <;> with_reducible rfl)
      try simp only [List.getElem_toArray, List.getElem_cons_zero, List.getElem_cons_succ, Act.put, List.setIfInBounds_toArray, List.set_cons_zero, List.set_cons_succ]
      refine wpAnyH_take (i := 26) (oi := _) (v := undef) rfl (by kernel_rfl) (by kernel_rfl) (by kernel_rfl) (fun _ _ _ h => h) (Or.inr ⟨by rfl, rfl⟩) (by assumption) ?_
      try simp only [List.getElem_toArray, List.getElem_cons_zero, List.getElem_cons_succ, Act.put, List.setIfInBounds_toArray, List.set_cons_zero, List.set_cons_succ]
      refine wpAnyH_take (i := 27) (oi := _) (v := undef) rfl (by kernel_rfl) (by kernel_rfl) (by kernel_rfl) (fun _ _ _ h => h) (Or.inr ⟨by rfl, rfl⟩) (by assumption) ?_
      try simp only [List.getElem_toArray, List.getElem_cons_zero, List.getElem_cons_succ, Act.put, List.setIfInBounds_toArray, List.set_cons_zero, List.set_cons_succ]
      refine wpAnyH_take (i := 28) (oi := _) (v := undef) rfl (by kernel_rfl) (by kernel_rfl) (by kernel_rfl) (fun _ _ _ h => h) (Or.inr ⟨by rfl, rfl⟩) (by assumption) ?_
      try simp only [List.getElem_toArray, List.getElem_cons_zero, List.getElem_cons_succ, Act.put, List.setIfInBounds_toArray, List.set_cons_zero, List.set_cons_succ]
      refine wpAnyH_take (i := 29) (oi := _) (v := undef) rfl (by kernel_rfl) (by kernel_rfl) (by kernel_rfl) (fun _ _ _ h => h) (Or.inr ⟨by rfl, rfl⟩) (by assumption) ?_
      try simp only [List.getElem_toArray, List.getElem_cons_zero, List.getElem_cons_succ, Act.put, List.setIfInBounds_toArray, List.set_cons_zero, List.set_cons_succ]
      refine wpAnyH_take (i := 30) (oi := _) (v := ?_) rfl (by kernel_rfl) (by kernel_rfl) (by kernel_rfl) (fun _ _ _ h => h) (Or.inl ⟨by rfl, ?_⟩) (by assumption) ?_
      case refine_2 => (intro w hSw; go_simp <;> with_reducible rfl)
      try simp only [List.getElem_toArray, List.getElem_cons_zero, List.getElem_cons_succ, Act.put, List.setIfInBounds_toArray, List.set_cons_zero, List.set_cons_succ]
      refine wpAnyH_take (i := 31) (oi := _) (v := ?_) rfl (by kernel_rfl) (by kernel_rfl) (by kernel_rfl) (fun _ _ _ h => h) (Or.inl ⟨by rfl, ?_⟩) (by assumption) ?_
      case refine_2 => (intro w hSw; go_simp <;> with_reducible rfl)
      try simp only [List.getElem_toArray, List.getElem_cons_zero, List.getElem_cons_succ, Act.put, List.setIfInBounds_toArray, List.set_cons_zero, List.set_cons_succ]
      refine wpAnyH_done (by kernel_rfl) ?_ _
      have HH2 := Lib.hid hHeld
      clear hHeld HH
      have HH := HH2
      clear HH2
      go_wp2_with (refine wpList_load_blk 24 (.tmp 3) w.heap.size 24 c1 _ HH.out.a (by rfl) (by rfl) Tryd.underlying24 rfl HS1.out (by rfl) ?_)
      refine (HPA.out _ (E.out.below BB.out)).mono ?_
      rintro e w8 ⟨rfl, b⟩
      have HH2 := Lib.hid (HH.out.keep b)
      have BB2 := Lib.hid (BB.out.trans (b.mono BB.out.size))
      clear b HH BB
      go_wp2_with (refine wpList_load_blk 24 (.tmp 4) (w.heap.size + 1) 24 c2 _ HH2.out.b (by rfl) (by rfl) Tryd.underlying24 rfl HS2.out (by rfl) ?_)
      refine (HPB.out _ (E.out.below BB2.out)).mono ?_
      rintro e w9 ⟨rfl, b⟩
      have HH3 := Lib.hid (HH2.out.keep b)
      have BB3 := Lib.hid (BB2.out.trans (b.mono BB2.out.size))
      clear b HH2 BB2
      by_cases h0 : ea = 0
      · subst h0
        by_cases h1 : eb = 0
        · subst h1
          have hsr := HP.out rfl rfl
          have hst : (sa.toList == sb.toList) = false := by
            rw [← hsr, ByteArray.toList_eq, ByteArray.toList_eq]
            by_cases h : sa = sb
            · rw [decide_eq_true h, h]; exact beq_self_eq_true _
            · rw [decide_eq_false h, beq_eq_false_iff_ne]
              exact fun e => h (by cases sa; cases sb; simp at e; rw [e])
          go_wp2_with (first | (refine wpList_load_blk 24 (.tmp 3) w.heap.size 24 c1 _ HH3.out.a (by rfl) (by rfl) Tryd.underlying24 rfl HS1.out (by rfl) ?_) | (refine wpList_load_blk 24 (.tmp 4) (w.heap.size + 1) 24 c2 _ HH3.out.b (by rfl) (by rfl) Tryd.underlying24 rfl HS2.out (by rfl) ?_))
          go_ret
          exact ⟨rfl, BB3.out⟩
        · have hn1 : (eb == 0) = false := by rw [beq_eq_false_iff_ne]; exact h1
          go_wp2_with fail
          go_ret
          exact ⟨rfl, BB3.out⟩
      · have hn1 : (ea == 0) = false := by rw [beq_eq_false_iff_ne]; exact h0
        go_wp2_with fail
        go_ret
        exact ⟨rfl, BB3.out⟩
  | false =>
    cases r with
    | true =>
      obtain rfl : q = false := by cases q <;> simp_all
      go_upto_region 3 with fail
      refine wp_region_held_drew (S := OHeld w.heap.size c1 c2 c3) (by kernel_rfl) (⟨HH.out.a, HH.out.b, HH.out.c⟩) (fun hHeld => ?_)
      have Bd := Lib.hid (below_drew BB.out)
      clear BB
      have BB := Bd
      clear Bd
      refine wpAnyH_take (i := 0) (oi := _) (v := .agg c1) rfl (by kernel_rfl) (by kernel_rfl) (by kernel_rfl) (fun _ _ _ h => h) (yieldsIf_load_blk 24 (.tmp 3) w.heap.size 24 c1 _ (fun w h => OHeld.a h) (by rfl) (by rfl) Tryd.underlying24 rfl (HS1.out) (by rfl)) (by assumption) ?_
      try simp only [List.getElem_toArray, List.getElem_cons_zero, Act.put, List.setIfInBounds_toArray, List.set_cons_zero, List.set_cons_succ]
      refine wpAnyH_take (i := 1) (oi := _) (v := .agg c1) rfl (by kernel_rfl) (by kernel_rfl) (by kernel_rfl) (fun _ _ _ h => h) (yieldsIf_load_blk 24 (.tmp 3) w.heap.size 24 c1 _ (fun w h => OHeld.a h) (by rfl) (by rfl) Tryd.underlying24 rfl (HS1.out) (by rfl)) (by assumption) ?_
      try simp only [List.getElem_toArray, List.getElem_cons_zero, List.getElem_cons_succ, Act.put, List.setIfInBounds_toArray, List.set_cons_zero, List.set_cons_succ]
      refine wpAnyH_ready (rs := [2]) (by kernel_rfl) (by simp) ?_
      refine AllReadyH.cons (o := _) rfl (fun K hK => ?_) AllReadyH.nil
      simp only [List.getElem_toArray, List.getElem_cons_zero, List.getElem_cons_succ]
      go_simp
      refine (Haa.out _).mono ?_
      rintro e wn ⟨rfl, b⟩
      have Bn := Lib.hid (BB.out.trans (b.mono BB.out.size))
      have hH := hHeld.keep b
      clear b BB
      go_simp
      refine hK.out _ _ hH (fun hHeld2 => ?_)
      clear hK K hHeld hH
      have hHeld := hHeld2
      have BB := Bn
      clear hHeld2 Bn
      try simp only [List.getElem_toArray, List.getElem_cons_zero, List.getElem_cons_succ, Act.put, List.setIfInBounds_toArray, List.set_cons_zero, List.set_cons_succ]
      refine wpAnyH_take (i := 3) (oi := _) (v := ?_) rfl (by kernel_rfl) (by kernel_rfl) (by kernel_rfl) (fun _ _ _ h => h) (Or.inl ⟨by rfl, ?_⟩) (by assumption) ?_
      case refine_2 => (intro w hSw; go_simp <;> with_reducible rfl)
      try simp only [List.getElem_toArray, List.getElem_cons_zero, List.getElem_cons_succ, Act.put, List.setIfInBounds_toArray, List.set_cons_zero, List.set_cons_succ]
      refine wpAnyH_take (i := 4) (oi := _) (v := .agg c1) rfl (by kernel_rfl) (by kernel_rfl) (by kernel_rfl) (fun _ _ _ h => h) (yieldsIf_load_blk 24 (.tmp 3) w.heap.size 24 c1 _ (fun w h => OHeld.a h) (by rfl) (by rfl) Tryd.underlying24 rfl (HS1.out) (by rfl)) (by assumption) ?_
      try simp only [List.getElem_toArray, List.getElem_cons_zero, List.getElem_cons_succ, Act.put, List.setIfInBounds_toArray, List.set_cons_zero, List.set_cons_succ]
      refine wpAnyH_take (i := 5) (oi := _) (v := .agg c2) rfl (by kernel_rfl) (by kernel_rfl) (by kernel_rfl) (fun _ _ _ h => h) (yieldsIf_load_blk 24 (.tmp 4) (w.heap.size + 1) 24 c2 _ (fun w h => OHeld.b h) (by rfl) (by rfl) Tryd.underlying24 rfl (HS2.out) (by rfl)) (by assumption) ?_
      try simp only [List.getElem_toArray, List.getElem_cons_zero, List.getElem_cons_succ, Act.put, List.setIfInBounds_toArray, List.set_cons_zero, List.set_cons_succ]
      refine wpAnyH_take (i := 7) (oi := _) (v := .agg c2) rfl (by kernel_rfl) (by kernel_rfl) (by kernel_rfl) (fun _ _ _ h => h) (yieldsIf_load_blk 24 (.tmp 4) (w.heap.size + 1) 24 c2 _ (fun w h => OHeld.b h) (by rfl) (by rfl) Tryd.underlying24 rfl (HS2.out) (by rfl)) (by assumption) ?_
      try simp only [List.getElem_toArray, List.getElem_cons_zero, List.getElem_cons_succ, Act.put, List.setIfInBounds_toArray, List.set_cons_zero, List.set_cons_succ]
      refine wpAnyH_take (i := 8) (oi := _) (v := .agg c1) rfl (by kernel_rfl) (by kernel_rfl) (by kernel_rfl) (fun _ _ _ h => h) (yieldsIf_load_blk 24 (.tmp 3) w.heap.size 24 c1 _ (fun w h => OHeld.a h) (by rfl) (by rfl) Tryd.underlying24 rfl (HS1.out) (by rfl)) (by assumption) ?_
      try simp only [List.getElem_toArray, List.getElem_cons_zero, List.getElem_cons_succ, Act.put, List.setIfInBounds_toArray, List.set_cons_zero, List.set_cons_succ]
      refine wpAnyH_take (i := 11) (oi := _) (v := .agg c1) rfl (by kernel_rfl) (by kernel_rfl) (by kernel_rfl) (fun _ _ _ h => h) (yieldsIf_load_blk 24 (.tmp 3) w.heap.size 24 c1 _ (fun w h => OHeld.a h) (by rfl) (by rfl) Tryd.underlying24 rfl (HS1.out) (by rfl)) (by assumption) ?_
      try simp only [List.getElem_toArray, List.getElem_cons_zero, List.getElem_cons_succ, Act.put, List.setIfInBounds_toArray, List.set_cons_zero, List.set_cons_succ]
      refine wpAnyH_take (i := 12) (oi := _) (v := .agg c2) rfl (by kernel_rfl) (by kernel_rfl) (by kernel_rfl) (fun _ _ _ h => h) (yieldsIf_load_blk 24 (.tmp 4) (w.heap.size + 1) 24 c2 _ (fun w h => OHeld.b h) (by rfl) (by rfl) Tryd.underlying24 rfl (HS2.out) (by rfl)) (by assumption) ?_
      try simp only [List.getElem_toArray, List.getElem_cons_zero, List.getElem_cons_succ, Act.put, List.setIfInBounds_toArray, List.set_cons_zero, List.set_cons_succ]
      refine wpAnyH_take (i := 13) (oi := _) (v := ?_) rfl (by kernel_rfl) (by kernel_rfl) (by kernel_rfl) (fun _ _ _ h => h) (Or.inl ⟨by rfl, ?_⟩) (by assumption) ?_
      case refine_2 => (intro w hSw; go_simp <;> with_reducible rfl)
      try simp only [List.getElem_toArray, List.getElem_cons_zero, List.getElem_cons_succ, Act.put, List.setIfInBounds_toArray, List.set_cons_zero, List.set_cons_succ]
      refine wpAnyH_ready (rs := [6]) (by kernel_rfl) (by simp) ?_
      refine AllReadyH.cons (o := _) rfl (fun K hK => ?_) AllReadyH.nil
      simp only [List.getElem_toArray, List.getElem_cons_zero, List.getElem_cons_succ]
      go_simp
      refine (Hab.out _).mono ?_
      rintro e wn ⟨rfl, b⟩
      have Bn := Lib.hid (BB.out.trans (b.mono BB.out.size))
      have hH := hHeld.keep b
      clear b BB
      go_simp
      refine hK.out _ _ hH (fun hHeld2 => ?_)
      clear hK K hHeld hH
      have hHeld := hHeld2
      have BB := Bn
      clear hHeld2 Bn
      try simp only [List.getElem_toArray, List.getElem_cons_zero, List.getElem_cons_succ, Act.put, List.setIfInBounds_toArray, List.set_cons_zero, List.set_cons_succ]
      refine wpAnyH_ready (rs := [9]) (by kernel_rfl) (by simp) ?_
      refine AllReadyH.cons (o := _) rfl (fun K hK => ?_) AllReadyH.nil
      simp only [List.getElem_toArray, List.getElem_cons_zero, List.getElem_cons_succ]
      go_simp
      refine (Hba.out _).mono ?_
      rintro e wn ⟨rfl, b⟩
      have Bn := Lib.hid (BB.out.trans (b.mono BB.out.size))
      have hH := hHeld.keep b
      clear b BB
      go_simp
      refine hK.out _ _ hH (fun hHeld2 => ?_)
      clear hK K hHeld hH
      have hHeld := hHeld2
      have BB := Bn
      clear hHeld2 Bn
      try simp only [List.getElem_toArray, List.getElem_cons_zero, List.getElem_cons_succ, Act.put, List.setIfInBounds_toArray, List.set_cons_zero, List.set_cons_succ]
      refine wpAnyH_take (i := 10) (oi := _) (v := ?_) rfl (by kernel_rfl) (by kernel_rfl) (by kernel_rfl) (fun _ _ _ h => h) (Or.inl ⟨by rfl, ?_⟩) (by assumption) ?_
      case refine_2 => (intro w hSw; go_simp <;> with_reducible rfl)
      try simp only [List.getElem_toArray, List.getElem_cons_zero, List.getElem_cons_succ, Act.put, List.setIfInBounds_toArray, List.set_cons_zero, List.set_cons_succ]
      refine wpAnyH_take (i := 14) (oi := _) (v := ?_) rfl (by kernel_rfl) (by kernel_rfl) (by kernel_rfl) (fun _ _ _ h => h) (Or.inl ⟨by rfl, ?_⟩) (by assumption) ?_
      case refine_2 => (intro w hSw; go_simp <;> with_reducible rfl)
      try simp only [List.getElem_toArray, List.getElem_cons_zero, List.getElem_cons_succ, Act.put, List.setIfInBounds_toArray, List.set_cons_zero, List.set_cons_succ]
      refine wpAnyH_take (i := 15) (oi := _) (v := ?_) rfl (by kernel_rfl) (by kernel_rfl) (by kernel_rfl) (fun _ _ _ h => h) (Or.inl ⟨by rfl, ?_⟩) (by assumption) ?_
      case refine_2 => (intro w hSw; go_simp <;> with_reducible rfl)
      try simp only [List.getElem_toArray, List.getElem_cons_zero, List.getElem_cons_succ, Act.put, List.setIfInBounds_toArray, List.set_cons_zero, List.set_cons_succ]
      refine wpAnyH_take (i := 16) (oi := _) (v := ?_) rfl (by kernel_rfl) (by kernel_rfl) (by kernel_rfl) (fun _ _ _ h => h) (Or.inl ⟨by rfl, ?_⟩) (by assumption) ?_
      case refine_2 => (intro w hSw; go_simp <;> with_reducible rfl)
      try simp only [List.getElem_toArray, List.getElem_cons_zero, List.getElem_cons_succ, Act.put, List.setIfInBounds_toArray, List.set_cons_zero, List.set_cons_succ]
      refine wpAnyH_take (i := 17) (oi := _) (v := .agg c1) rfl (by kernel_rfl) (by kernel_rfl) (by kernel_rfl) (fun _ _ _ h => h) (yieldsIf_load_blk 24 (.tmp 3) w.heap.size 24 c1 _ (fun w h => OHeld.a h) (by rfl) (by rfl) Tryd.underlying24 rfl (HS1.out) (by rfl)) (by assumption) ?_
      try simp only [List.getElem_toArray, List.getElem_cons_zero, List.getElem_cons_succ, Act.put, List.setIfInBounds_toArray, List.set_cons_zero, List.set_cons_succ]
      refine wpAnyH_take (i := 18) (oi := _) (v := .agg c2) rfl (by kernel_rfl) (by kernel_rfl) (by kernel_rfl) (fun _ _ _ h => h) (yieldsIf_load_blk 24 (.tmp 4) (w.heap.size + 1) 24 c2 _ (fun w h => OHeld.b h) (by rfl) (by rfl) Tryd.underlying24 rfl (HS2.out) (by rfl)) (by assumption) ?_
      try simp only [List.getElem_toArray, List.getElem_cons_zero, List.getElem_cons_succ, Act.put, List.setIfInBounds_toArray, List.set_cons_zero, List.set_cons_succ]
      refine wpAnyH_ready (rs := [19]) (by kernel_rfl) (by simp) ?_
      refine AllReadyH.cons (o := _) rfl (fun K hK => ?_) AllReadyH.nil
      simp only [List.getElem_toArray, List.getElem_cons_zero, List.getElem_cons_succ]
      go_simp
      refine (Hab.out _).mono ?_
      rintro e wn ⟨rfl, b⟩
      have Bn := Lib.hid (BB.out.trans (b.mono BB.out.size))
      have hH := hHeld.keep b
      clear b BB
      go_simp
      refine hK.out _ _ hH (fun hHeld2 => ?_)
      clear hK K hHeld hH
      have hHeld := hHeld2
      have BB := Bn
      clear hHeld2 Bn
      try simp only [List.getElem_toArray, List.getElem_cons_zero, List.getElem_cons_succ, Act.put, List.setIfInBounds_toArray, List.set_cons_zero, List.set_cons_succ]
      refine wpAnyH_take (i := 20) (oi := _) (v := ?_) rfl (by kernel_rfl) (by kernel_rfl) (by kernel_rfl) (fun _ _ _ h => h) (Or.inl ⟨by rfl, ?_⟩) (by assumption) ?_
      case refine_2 => (intro w hSw; go_simp <;> with_reducible rfl)
      try simp only [List.getElem_toArray, List.getElem_cons_zero, List.getElem_cons_succ, Act.put, List.setIfInBounds_toArray, List.set_cons_zero, List.set_cons_succ]
      refine wpAnyH_take (i := 21) (oi := _) (v := undef) rfl (by kernel_rfl) (by kernel_rfl) (by kernel_rfl) (fun _ _ _ h => h) (Or.inr ⟨by rfl, rfl⟩) (by assumption) ?_
      try simp only [List.getElem_toArray, List.getElem_cons_zero, List.getElem_cons_succ, Act.put, List.setIfInBounds_toArray, List.set_cons_zero, List.set_cons_succ]
      refine wpAnyH_take (i := 22) (oi := _) (v := undef) rfl (by kernel_rfl) (by kernel_rfl) (by kernel_rfl) (fun _ _ _ h => h) (Or.inr ⟨by rfl, rfl⟩) (by assumption) ?_
      try simp only [List.getElem_toArray, List.getElem_cons_zero, List.getElem_cons_succ, Act.put, List.setIfInBounds_toArray, List.set_cons_zero, List.set_cons_succ]
      refine wpAnyH_take (i := 23) (oi := _) (v := undef) rfl (by kernel_rfl) (by kernel_rfl) (by kernel_rfl) (fun _ _ _ h => h) (Or.inr ⟨by rfl, rfl⟩) (by assumption) ?_
      try simp only [List.getElem_toArray, List.getElem_cons_zero, List.getElem_cons_succ, Act.put, List.setIfInBounds_toArray, List.set_cons_zero, List.set_cons_succ]
      refine wpAnyH_take (i := 24) (oi := _) (v := ?_) rfl (by kernel_rfl) (by kernel_rfl) (by kernel_rfl) (fun _ _ _ h => h) (Or.inl ⟨by rfl, ?_⟩) (by assumption) ?_
      case refine_2 => (intro w hSw; go_simp <;> with_reducible rfl)
      try simp only [List.getElem_toArray, List.getElem_cons_zero, List.getElem_cons_succ, Act.put, List.setIfInBounds_toArray, List.set_cons_zero, List.set_cons_succ]
      refine wpAnyH_take (i := 25) (oi := _) (v := ?_) rfl (by kernel_rfl) (by kernel_rfl) (by kernel_rfl) (fun _ _ _ h => h) (Or.inl ⟨by rfl, ?_⟩) (by assumption) ?_
      case refine_2 => (intro w hSw; go_simp <;> with_reducible rfl)
      try simp only [List.getElem_toArray, List.getElem_cons_zero, List.getElem_cons_succ, Act.put, List.setIfInBounds_toArray, List.set_cons_zero, List.set_cons_succ]
      refine wpAnyH_take (i := 26) (oi := _) (v := undef) rfl (by kernel_rfl) (by kernel_rfl) (by kernel_rfl) (fun _ _ _ h => h) (Or.inr ⟨by rfl, rfl⟩) (by assumption) ?_
      try simp only [List.getElem_toArray, List.getElem_cons_zero, List.getElem_cons_succ, Act.put, List.setIfInBounds_toArray, List.set_cons_zero, List.set_cons_succ]
      refine wpAnyH_take (i := 27) (oi := _) (v := undef) rfl (by kernel_rfl) (by kernel_rfl) (by kernel_rfl) (fun _ _ _ h => h) (Or.inr ⟨by rfl, rfl⟩) (by assumption) ?_
      try simp only [List.getElem_toArray, List.getElem_cons_zero, List.getElem_cons_succ, Act.put, List.setIfInBounds_toArray, List.set_cons_zero, List.set_cons_succ]
      refine wpAnyH_take (i := 28) (oi := _) (v := undef) rfl (by kernel_rfl) (by kernel_rfl) (by kernel_rfl) (fun _ _ _ h => h) (Or.inr ⟨by rfl, rfl⟩) (by assumption) ?_
      try simp only [List.getElem_toArray, List.getElem_cons_zero, List.getElem_cons_succ, Act.put, List.setIfInBounds_toArray, List.set_cons_zero, List.set_cons_succ]
      refine wpAnyH_take (i := 29) (oi := _) (v := undef) rfl (by kernel_rfl) (by kernel_rfl) (by kernel_rfl) (fun _ _ _ h => h) (Or.inr ⟨by rfl, rfl⟩) (by assumption) ?_
      try simp only [List.getElem_toArray, List.getElem_cons_zero, List.getElem_cons_succ, Act.put, List.setIfInBounds_toArray, List.set_cons_zero, List.set_cons_succ]
      refine wpAnyH_take (i := 30) (oi := _) (v := ?_) rfl (by kernel_rfl) (by kernel_rfl) (by kernel_rfl) (fun _ _ _ h => h) (Or.inl ⟨by rfl, ?_⟩) (by assumption) ?_
      case refine_2 => (intro w hSw; go_simp <;> with_reducible rfl)
      try simp only [List.getElem_toArray, List.getElem_cons_zero, List.getElem_cons_succ, Act.put, List.setIfInBounds_toArray, List.set_cons_zero, List.set_cons_succ]
      refine wpAnyH_take (i := 31) (oi := _) (v := ?_) rfl (by kernel_rfl) (by kernel_rfl) (by kernel_rfl) (fun _ _ _ h => h) (Or.inl ⟨by rfl, ?_⟩) (by assumption) ?_
      case refine_2 => (intro w hSw; go_simp <;> with_reducible rfl)
      try simp only [List.getElem_toArray, List.getElem_cons_zero, List.getElem_cons_succ, Act.put, List.setIfInBounds_toArray, List.set_cons_zero, List.set_cons_succ]
      refine wpAnyH_done (by kernel_rfl) ?_ _
      have HH2 := Lib.hid hHeld
      clear hHeld HH
      have HH := HH2
      clear HH2
      go_wp2_with (refine wpList_load_blk 24 (.tmp 3) w.heap.size 24 c1 _ HH.out.a (by rfl) (by rfl) Tryd.underlying24 rfl HS1.out (by rfl) ?_)
      refine (HPA.out _ (E.out.below BB.out)).mono ?_
      rintro e w8 ⟨rfl, b⟩
      have HH2 := Lib.hid (HH.out.keep b)
      have BB2 := Lib.hid (BB.out.trans (b.mono BB.out.size))
      clear b HH BB
      go_wp2_with (refine wpList_load_blk 24 (.tmp 4) (w.heap.size + 1) 24 c2 _ HH2.out.b (by rfl) (by rfl) Tryd.underlying24 rfl HS2.out (by rfl) ?_)
      refine (HPB.out _ (E.out.below BB2.out)).mono ?_
      rintro e w9 ⟨rfl, b⟩
      have HH3 := Lib.hid (HH2.out.keep b)
      have BB3 := Lib.hid (BB2.out.trans (b.mono BB2.out.size))
      clear b HH2 BB2
      by_cases h0 : ea = 0
      · subst h0
        by_cases h1 : eb = 0
        · subst h1
          have hsr := HP.out rfl rfl
          have hst : (sa.toList == sb.toList) = true := by
            rw [← hsr, ByteArray.toList_eq, ByteArray.toList_eq]
            by_cases h : sa = sb
            · rw [decide_eq_true h, h]; exact beq_self_eq_true _
            · rw [decide_eq_false h, beq_eq_false_iff_ne]
              exact fun e => h (by cases sa; cases sb; simp at e; rw [e])
          go_wp2_with (first | (refine wpList_load_blk 24 (.tmp 3) w.heap.size 24 c1 _ HH3.out.a (by rfl) (by rfl) Tryd.underlying24 rfl HS1.out (by rfl) ?_) | (refine wpList_load_blk 24 (.tmp 4) (w.heap.size + 1) 24 c2 _ HH3.out.b (by rfl) (by rfl) Tryd.underlying24 rfl HS2.out (by rfl) ?_))
          go_ret
          exact ⟨rfl, BB3.out⟩
        · have hn1 : (eb == 0) = false := by rw [beq_eq_false_iff_ne]; exact h1
          go_wp2_with fail
          go_ret
          exact ⟨rfl, BB3.out⟩
      · have hn1 : (ea == 0) = false := by rw [beq_eq_false_iff_ne]; exact h0
        go_wp2_with fail
        go_ret
        exact ⟨rfl, BB3.out⟩
    | false =>
      obtain rfl : q = true := by cases q <;> simp_all
      go_upto_region 3 with fail
      refine wp_region_held_drew (S := OHeld w.heap.size c1 c2 c3) (by kernel_rfl) (⟨HH.out.a, HH.out.b, HH.out.c⟩) (fun hHeld => ?_)
      have Bd := Lib.hid (below_drew BB.out)
      clear BB
      have BB := Bd
      clear Bd
      refine wpAnyH_take (i := 0) (oi := _) (v := .agg c1) rfl (by kernel_rfl) (by kernel_rfl) (by kernel_rfl) (fun _ _ _ h => h) (yieldsIf_load_blk 24 (.tmp 3) w.heap.size 24 c1 _ (fun w h => OHeld.a h) (by rfl) (by rfl) Tryd.underlying24 rfl (HS1.out) (by rfl)) (by assumption) ?_
      try simp only [List.getElem_toArray, List.getElem_cons_zero, Act.put, List.setIfInBounds_toArray, List.set_cons_zero, List.set_cons_succ]
      refine wpAnyH_take (i := 1) (oi := _) (v := .agg c1) rfl (by kernel_rfl) (by kernel_rfl) (by kernel_rfl) (fun _ _ _ h => h) (yieldsIf_load_blk 24 (.tmp 3) w.heap.size 24 c1 _ (fun w h => OHeld.a h) (by rfl) (by rfl) Tryd.underlying24 rfl (HS1.out) (by rfl)) (by assumption) ?_
      try simp only [List.getElem_toArray, List.getElem_cons_zero, List.getElem_cons_succ, Act.put, List.setIfInBounds_toArray, List.set_cons_zero, List.set_cons_succ]
      refine wpAnyH_ready (rs := [2]) (by kernel_rfl) (by simp) ?_
      refine AllReadyH.cons (o := _) rfl (fun K hK => ?_) AllReadyH.nil
      simp only [List.getElem_toArray, List.getElem_cons_zero, List.getElem_cons_succ]
      go_simp
      refine (Haa.out _).mono ?_
      rintro e wn ⟨rfl, b⟩
      have Bn := Lib.hid (BB.out.trans (b.mono BB.out.size))
      have hH := hHeld.keep b
      clear b BB
      go_simp
      refine hK.out _ _ hH (fun hHeld2 => ?_)
      clear hK K hHeld hH
      have hHeld := hHeld2
      have BB := Bn
      clear hHeld2 Bn
      try simp only [List.getElem_toArray, List.getElem_cons_zero, List.getElem_cons_succ, Act.put, List.setIfInBounds_toArray, List.set_cons_zero, List.set_cons_succ]
      refine wpAnyH_take (i := 3) (oi := _) (v := ?_) rfl (by kernel_rfl) (by kernel_rfl) (by kernel_rfl) (fun _ _ _ h => h) (Or.inl ⟨by rfl, ?_⟩) (by assumption) ?_
      case refine_2 => (intro w hSw; go_simp <;> with_reducible rfl)
      try simp only [List.getElem_toArray, List.getElem_cons_zero, List.getElem_cons_succ, Act.put, List.setIfInBounds_toArray, List.set_cons_zero, List.set_cons_succ]
      refine wpAnyH_take (i := 4) (oi := _) (v := .agg c1) rfl (by kernel_rfl) (by kernel_rfl) (by kernel_rfl) (fun _ _ _ h => h) (yieldsIf_load_blk 24 (.tmp 3) w.heap.size 24 c1 _ (fun w h => OHeld.a h) (by rfl) (by rfl) Tryd.underlying24 rfl (HS1.out) (by rfl)) (by assumption) ?_
      try simp only [List.getElem_toArray, List.getElem_cons_zero, List.getElem_cons_succ, Act.put, List.setIfInBounds_toArray, List.set_cons_zero, List.set_cons_succ]
      refine wpAnyH_take (i := 5) (oi := _) (v := .agg c2) rfl (by kernel_rfl) (by kernel_rfl) (by kernel_rfl) (fun _ _ _ h => h) (yieldsIf_load_blk 24 (.tmp 4) (w.heap.size + 1) 24 c2 _ (fun w h => OHeld.b h) (by rfl) (by rfl) Tryd.underlying24 rfl (HS2.out) (by rfl)) (by assumption) ?_
      try simp only [List.getElem_toArray, List.getElem_cons_zero, List.getElem_cons_succ, Act.put, List.setIfInBounds_toArray, List.set_cons_zero, List.set_cons_succ]
      refine wpAnyH_take (i := 7) (oi := _) (v := .agg c2) rfl (by kernel_rfl) (by kernel_rfl) (by kernel_rfl) (fun _ _ _ h => h) (yieldsIf_load_blk 24 (.tmp 4) (w.heap.size + 1) 24 c2 _ (fun w h => OHeld.b h) (by rfl) (by rfl) Tryd.underlying24 rfl (HS2.out) (by rfl)) (by assumption) ?_
      try simp only [List.getElem_toArray, List.getElem_cons_zero, List.getElem_cons_succ, Act.put, List.setIfInBounds_toArray, List.set_cons_zero, List.set_cons_succ]
      refine wpAnyH_take (i := 8) (oi := _) (v := .agg c1) rfl (by kernel_rfl) (by kernel_rfl) (by kernel_rfl) (fun _ _ _ h => h) (yieldsIf_load_blk 24 (.tmp 3) w.heap.size 24 c1 _ (fun w h => OHeld.a h) (by rfl) (by rfl) Tryd.underlying24 rfl (HS1.out) (by rfl)) (by assumption) ?_
      try simp only [List.getElem_toArray, List.getElem_cons_zero, List.getElem_cons_succ, Act.put, List.setIfInBounds_toArray, List.set_cons_zero, List.set_cons_succ]
      refine wpAnyH_take (i := 11) (oi := _) (v := .agg c1) rfl (by kernel_rfl) (by kernel_rfl) (by kernel_rfl) (fun _ _ _ h => h) (yieldsIf_load_blk 24 (.tmp 3) w.heap.size 24 c1 _ (fun w h => OHeld.a h) (by rfl) (by rfl) Tryd.underlying24 rfl (HS1.out) (by rfl)) (by assumption) ?_
      try simp only [List.getElem_toArray, List.getElem_cons_zero, List.getElem_cons_succ, Act.put, List.setIfInBounds_toArray, List.set_cons_zero, List.set_cons_succ]
      refine wpAnyH_take (i := 12) (oi := _) (v := .agg c2) rfl (by kernel_rfl) (by kernel_rfl) (by kernel_rfl) (fun _ _ _ h => h) (yieldsIf_load_blk 24 (.tmp 4) (w.heap.size + 1) 24 c2 _ (fun w h => OHeld.b h) (by rfl) (by rfl) Tryd.underlying24 rfl (HS2.out) (by rfl)) (by assumption) ?_
      try simp only [List.getElem_toArray, List.getElem_cons_zero, List.getElem_cons_succ, Act.put, List.setIfInBounds_toArray, List.set_cons_zero, List.set_cons_succ]
      refine wpAnyH_take (i := 13) (oi := _) (v := ?_) rfl (by kernel_rfl) (by kernel_rfl) (by kernel_rfl) (fun _ _ _ h => h) (Or.inl ⟨by rfl, ?_⟩) (by assumption) ?_
      case refine_2 => (intro w hSw; go_simp <;> with_reducible rfl)
      try simp only [List.getElem_toArray, List.getElem_cons_zero, List.getElem_cons_succ, Act.put, List.setIfInBounds_toArray, List.set_cons_zero, List.set_cons_succ]
      refine wpAnyH_ready (rs := [6]) (by kernel_rfl) (by simp) ?_
      refine AllReadyH.cons (o := _) rfl (fun K hK => ?_) AllReadyH.nil
      simp only [List.getElem_toArray, List.getElem_cons_zero, List.getElem_cons_succ]
      go_simp
      refine (Hab.out _).mono ?_
      rintro e wn ⟨rfl, b⟩
      have Bn := Lib.hid (BB.out.trans (b.mono BB.out.size))
      have hH := hHeld.keep b
      clear b BB
      go_simp
      refine hK.out _ _ hH (fun hHeld2 => ?_)
      clear hK K hHeld hH
      have hHeld := hHeld2
      have BB := Bn
      clear hHeld2 Bn
      try simp only [List.getElem_toArray, List.getElem_cons_zero, List.getElem_cons_succ, Act.put, List.setIfInBounds_toArray, List.set_cons_zero, List.set_cons_succ]
      refine wpAnyH_ready (rs := [9]) (by kernel_rfl) (by simp) ?_
      refine AllReadyH.cons (o := _) rfl (fun K hK => ?_) AllReadyH.nil
      simp only [List.getElem_toArray, List.getElem_cons_zero, List.getElem_cons_succ]
      go_simp
      refine (Hba.out _).mono ?_
      rintro e wn ⟨rfl, b⟩
      have Bn := Lib.hid (BB.out.trans (b.mono BB.out.size))
      have hH := hHeld.keep b
      clear b BB
      go_simp
      refine hK.out _ _ hH (fun hHeld2 => ?_)
      clear hK K hHeld hH
      have hHeld := hHeld2
      have BB := Bn
      clear hHeld2 Bn
      try simp only [List.getElem_toArray, List.getElem_cons_zero, List.getElem_cons_succ, Act.put, List.setIfInBounds_toArray, List.set_cons_zero, List.set_cons_succ]
      refine wpAnyH_take (i := 10) (oi := _) (v := ?_) rfl (by kernel_rfl) (by kernel_rfl) (by kernel_rfl) (fun _ _ _ h => h) (Or.inl ⟨by rfl, ?_⟩) (by assumption) ?_
      case refine_2 => (intro w hSw; go_simp <;> with_reducible rfl)
      try simp only [List.getElem_toArray, List.getElem_cons_zero, List.getElem_cons_succ, Act.put, List.setIfInBounds_toArray, List.set_cons_zero, List.set_cons_succ]
      refine wpAnyH_take (i := 14) (oi := _) (v := ?_) rfl (by kernel_rfl) (by kernel_rfl) (by kernel_rfl) (fun _ _ _ h => h) (Or.inl ⟨by rfl, ?_⟩) (by assumption) ?_
      case refine_2 => (intro w hSw; go_simp <;> with_reducible rfl)
      try simp only [List.getElem_toArray, List.getElem_cons_zero, List.getElem_cons_succ, Act.put, List.setIfInBounds_toArray, List.set_cons_zero, List.set_cons_succ]
      refine wpAnyH_take (i := 15) (oi := _) (v := ?_) rfl (by kernel_rfl) (by kernel_rfl) (by kernel_rfl) (fun _ _ _ h => h) (Or.inl ⟨by rfl, ?_⟩) (by assumption) ?_
      case refine_2 => (intro w hSw; go_simp <;> with_reducible rfl)
      try simp only [List.getElem_toArray, List.getElem_cons_zero, List.getElem_cons_succ, Act.put, List.setIfInBounds_toArray, List.set_cons_zero, List.set_cons_succ]
      refine wpAnyH_take (i := 16) (oi := _) (v := ?_) rfl (by kernel_rfl) (by kernel_rfl) (by kernel_rfl) (fun _ _ _ h => h) (Or.inl ⟨by rfl, ?_⟩) (by assumption) ?_
      case refine_2 => (intro w hSw; go_simp <;> with_reducible rfl)
      try simp only [List.getElem_toArray, List.getElem_cons_zero, List.getElem_cons_succ, Act.put, List.setIfInBounds_toArray, List.set_cons_zero, List.set_cons_succ]
      refine wpAnyH_take (i := 17) (oi := _) (v := .agg c1) rfl (by kernel_rfl) (by kernel_rfl) (by kernel_rfl) (fun _ _ _ h => h) (yieldsIf_load_blk 24 (.tmp 3) w.heap.size 24 c1 _ (fun w h => OHeld.a h) (by rfl) (by rfl) Tryd.underlying24 rfl (HS1.out) (by rfl)) (by assumption) ?_
      try simp only [List.getElem_toArray, List.getElem_cons_zero, List.getElem_cons_succ, Act.put, List.setIfInBounds_toArray, List.set_cons_zero, List.set_cons_succ]
      refine wpAnyH_take (i := 18) (oi := _) (v := .agg c2) rfl (by kernel_rfl) (by kernel_rfl) (by kernel_rfl) (fun _ _ _ h => h) (yieldsIf_load_blk 24 (.tmp 4) (w.heap.size + 1) 24 c2 _ (fun w h => OHeld.b h) (by rfl) (by rfl) Tryd.underlying24 rfl (HS2.out) (by rfl)) (by assumption) ?_
      try simp only [List.getElem_toArray, List.getElem_cons_zero, List.getElem_cons_succ, Act.put, List.setIfInBounds_toArray, List.set_cons_zero, List.set_cons_succ]
      refine wpAnyH_ready (rs := [19]) (by kernel_rfl) (by simp) ?_
      refine AllReadyH.cons (o := _) rfl (fun K hK => ?_) AllReadyH.nil
      simp only [List.getElem_toArray, List.getElem_cons_zero, List.getElem_cons_succ]
      go_simp
      refine (Hab.out _).mono ?_
      rintro e wn ⟨rfl, b⟩
      have Bn := Lib.hid (BB.out.trans (b.mono BB.out.size))
      have hH := hHeld.keep b
      clear b BB
      go_simp
      refine hK.out _ _ hH (fun hHeld2 => ?_)
      clear hK K hHeld hH
      have hHeld := hHeld2
      have BB := Bn
      clear hHeld2 Bn
      try simp only [List.getElem_toArray, List.getElem_cons_zero, List.getElem_cons_succ, Act.put, List.setIfInBounds_toArray, List.set_cons_zero, List.set_cons_succ]
      refine wpAnyH_take (i := 20) (oi := _) (v := ?_) rfl (by kernel_rfl) (by kernel_rfl) (by kernel_rfl) (fun _ _ _ h => h) (Or.inl ⟨by rfl, ?_⟩) (by assumption) ?_
      case refine_2 => (intro w hSw; go_simp <;> with_reducible rfl)
      try simp only [List.getElem_toArray, List.getElem_cons_zero, List.getElem_cons_succ, Act.put, List.setIfInBounds_toArray, List.set_cons_zero, List.set_cons_succ]
      refine wpAnyH_take (i := 21) (oi := _) (v := undef) rfl (by kernel_rfl) (by kernel_rfl) (by kernel_rfl) (fun _ _ _ h => h) (Or.inr ⟨by rfl, rfl⟩) (by assumption) ?_
      try simp only [List.getElem_toArray, List.getElem_cons_zero, List.getElem_cons_succ, Act.put, List.setIfInBounds_toArray, List.set_cons_zero, List.set_cons_succ]
      refine wpAnyH_take (i := 22) (oi := _) (v := undef) rfl (by kernel_rfl) (by kernel_rfl) (by kernel_rfl) (fun _ _ _ h => h) (Or.inr ⟨by rfl, rfl⟩) (by assumption) ?_
      try simp only [List.getElem_toArray, List.getElem_cons_zero, List.getElem_cons_succ, Act.put, List.setIfInBounds_toArray, List.set_cons_zero, List.set_cons_succ]
      refine wpAnyH_take (i := 23) (oi := _) (v := undef) rfl (by kernel_rfl) (by kernel_rfl) (by kernel_rfl) (fun _ _ _ h => h) (Or.inr ⟨by rfl, rfl⟩) (by assumption) ?_
      try simp only [List.getElem_toArray, List.getElem_cons_zero, List.getElem_cons_succ, Act.put, List.setIfInBounds_toArray, List.set_cons_zero, List.set_cons_succ]
      refine wpAnyH_take (i := 24) (oi := _) (v := ?_) rfl (by kernel_rfl) (by kernel_rfl) (by kernel_rfl) (fun _ _ _ h => h) (Or.inl ⟨by rfl, ?_⟩) (by assumption) ?_
      case refine_2 => (intro w hSw; go_simp <;> with_reducible rfl)
      try simp only [List.getElem_toArray, List.getElem_cons_zero, List.getElem_cons_succ, Act.put, List.setIfInBounds_toArray, List.set_cons_zero, List.set_cons_succ]
      refine wpAnyH_take (i := 25) (oi := _) (v := ?_) rfl (by kernel_rfl) (by kernel_rfl) (by kernel_rfl) (fun _ _ _ h => h) (Or.inl ⟨by rfl, ?_⟩) (by assumption) ?_
      case refine_2 => (intro w hSw; go_simp <;> with_reducible rfl)
      try simp only [List.getElem_toArray, List.getElem_cons_zero, List.getElem_cons_succ, Act.put, List.setIfInBounds_toArray, List.set_cons_zero, List.set_cons_succ]
      refine wpAnyH_take (i := 26) (oi := _) (v := undef) rfl (by kernel_rfl) (by kernel_rfl) (by kernel_rfl) (fun _ _ _ h => h) (Or.inr ⟨by rfl, rfl⟩) (by assumption) ?_
      try simp only [List.getElem_toArray, List.getElem_cons_zero, List.getElem_cons_succ, Act.put, List.setIfInBounds_toArray, List.set_cons_zero, List.set_cons_succ]
      refine wpAnyH_take (i := 27) (oi := _) (v := undef) rfl (by kernel_rfl) (by kernel_rfl) (by kernel_rfl) (fun _ _ _ h => h) (Or.inr ⟨by rfl, rfl⟩) (by assumption) ?_
      try simp only [List.getElem_toArray, List.getElem_cons_zero, List.getElem_cons_succ, Act.put, List.setIfInBounds_toArray, List.set_cons_zero, List.set_cons_succ]
      refine wpAnyH_take (i := 28) (oi := _) (v := undef) rfl (by kernel_rfl) (by kernel_rfl) (by kernel_rfl) (fun _ _ _ h => h) (Or.inr ⟨by rfl, rfl⟩) (by assumption) ?_
      try simp only [List.getElem_toArray, List.getElem_cons_zero, List.getElem_cons_succ, Act.put, List.setIfInBounds_toArray, List.set_cons_zero, List.set_cons_succ]
      refine wpAnyH_take (i := 29) (oi := _) (v := undef) rfl (by kernel_rfl) (by kernel_rfl) (by kernel_rfl) (fun _ _ _ h => h) (Or.inr ⟨by rfl, rfl⟩) (by assumption) ?_
      try simp only [List.getElem_toArray, List.getElem_cons_zero, List.getElem_cons_succ, Act.put, List.setIfInBounds_toArray, List.set_cons_zero, List.set_cons_succ]
      refine wpAnyH_take (i := 30) (oi := _) (v := ?_) rfl (by kernel_rfl) (by kernel_rfl) (by kernel_rfl) (fun _ _ _ h => h) (Or.inl ⟨by rfl, ?_⟩) (by assumption) ?_
      case refine_2 => (intro w hSw; go_simp <;> with_reducible rfl)
      try simp only [List.getElem_toArray, List.getElem_cons_zero, List.getElem_cons_succ, Act.put, List.setIfInBounds_toArray, List.set_cons_zero, List.set_cons_succ]
      refine wpAnyH_take (i := 31) (oi := _) (v := ?_) rfl (by kernel_rfl) (by kernel_rfl) (by kernel_rfl) (fun _ _ _ h => h) (Or.inl ⟨by rfl, ?_⟩) (by assumption) ?_
      case refine_2 => (intro w hSw; go_simp <;> with_reducible rfl)
      try simp only [List.getElem_toArray, List.getElem_cons_zero, List.getElem_cons_succ, Act.put, List.setIfInBounds_toArray, List.set_cons_zero, List.set_cons_succ]
      refine wpAnyH_done (by kernel_rfl) ?_ _
      have HH2 := Lib.hid hHeld
      clear hHeld HH
      have HH := HH2
      clear HH2
      go_wp2_with (refine wpList_load_blk 24 (.tmp 3) w.heap.size 24 c1 _ HH.out.a (by rfl) (by rfl) Tryd.underlying24 rfl HS1.out (by rfl) ?_)
      refine (HPA.out _ (E.out.below BB.out)).mono ?_
      rintro e w8 ⟨rfl, b⟩
      have HH2 := Lib.hid (HH.out.keep b)
      have BB2 := Lib.hid (BB.out.trans (b.mono BB.out.size))
      clear b HH BB
      go_wp2_with (refine wpList_load_blk 24 (.tmp 4) (w.heap.size + 1) 24 c2 _ HH2.out.b (by rfl) (by rfl) Tryd.underlying24 rfl HS2.out (by rfl) ?_)
      refine (HPB.out _ (E.out.below BB2.out)).mono ?_
      rintro e w9 ⟨rfl, b⟩
      have HH3 := Lib.hid (HH2.out.keep b)
      have BB3 := Lib.hid (BB2.out.trans (b.mono BB2.out.size))
      clear b HH2 BB2
      by_cases h0 : ea = 0
      · subst h0
        by_cases h1 : eb = 0
        · subst h1
          have hsr := HP.out rfl rfl
          have hst : (sa.toList == sb.toList) = false := by
            rw [← hsr, ByteArray.toList_eq, ByteArray.toList_eq]
            by_cases h : sa = sb
            · rw [decide_eq_true h, h]; exact beq_self_eq_true _
            · rw [decide_eq_false h, beq_eq_false_iff_ne]
              exact fun e => h (by cases sa; cases sb; simp at e; rw [e])
          go_wp2_with (first | (refine wpList_load_blk 24 (.tmp 3) w.heap.size 24 c1 _ HH3.out.a (by rfl) (by rfl) Tryd.underlying24 rfl HS1.out (by rfl) ?_) | (refine wpList_load_blk 24 (.tmp 4) (w.heap.size + 1) 24 c2 _ HH3.out.b (by rfl) (by rfl) Tryd.underlying24 rfl HS2.out (by rfl) ?_))
          go_ret
          exact ⟨rfl, BB3.out⟩
        · have hn1 : (eb == 0) = false := by rw [beq_eq_false_iff_ne]; exact h1
          go_wp2_with fail
          go_ret
          exact ⟨rfl, BB3.out⟩
      · have hn1 : (ea == 0) = false := by rw [beq_eq_false_iff_ne]; exact h0
        go_wp2_with fail
        go_ret
        exact ⟨rfl, BB3.out⟩
end Go.Proofs.YtgdnckglfhabnaaDoor
