/- Laws and walks that the claim's last text leans on, joined: each part says above itself what it proves. -/
import Derived.Test.YtonafonhadocgaaGreatDoorQG
import Derived.Test.YtonafonhadocgaaGreatDoorQI
import Derived.Test.YtonafonhadocgaaGreatDoorQL
import Derived.ProofKit
import Derived.OpenShut
import Derived.ShutString
import Derived.ChangeOld
import Derived.Lib.SmallJoins
import Derived.Stop.LaidErr
import Derived.Lib.LaidU8
import Derived.LaidHandle
import Derived.Handed
import Derived.Test.YtonafonhadocgaaGreatDoorQM
import Derived.Deep.Slices

/- Equality of ends. -/
namespace Go.Proofs.YtonafonhadocgaaGreatDoor
open Go.RowKit Go.Shelf

theorem part_a (u : Bool) (l : List UInt8) (p : Nat) (h : l.length = 16) (w : World) : (part 25 (enC u l p) 0).run Tryz.prog w = .ok (.agg (adC u l)) w := by
  have e : (enC u l p).extract 0 17 = adC u l := by
    apply Array.toList_inj.1
    have h1 := enC_ad u l p h
    rw [Array.length_toList, adC_size _ _ h] at h1
    rw [Array.toList_extract]
    exact h1
  have hg : (isAgg 25).run Tryz.prog w = .ok true w := Tryz.isAgg25 w
  have hs : (sizeOf 25).run Tryz.prog w = .ok 17 w := Tryz.sizeOf25 w
  simp only [part, Sem.run_bind, hg, hs, Result.andThen_ok, if_true, Nat.zero_add, e]
  exact Sem.run_pure ..
theorem part_p (u : Bool) (l : List UInt8) (p : Nat) (h : l.length = 16) (w : World) : (part 26 (enC u l p) 17).run Tryz.prog w = .ok (.int .u16 (p : Int)) w :=
  run_part_plain (P := Tryz.prog) w (by kernel_rfl) (enC_port u l p h)

theorem eq_ends (u v : Bool) (xs ys : List UInt8) (p q : Nat) (h1 : xs.length = 16) (h2 : ys.length = 16) (w : World) :
    (Op.equalIn 10000 28 (.agg (enC u xs p)) (.agg (enC v ys q))).run Tryz.prog w = .ok (decide (u = v ∧ xs = ys ∧ p = q)) w := by
  have hS : Tryz.prog.underlying 28 = some (.struct (Tryz.prog.fieldsOf 28)) := by kernel_rfl
  have hp : Tryz.prog.stoodInHeld 28 = false := by kernel_rfl
  obtain ⟨f1, f2, hf, n1, n2, t1, t2, o1, o2⟩ : ∃ f1 f2, (Tryz.prog.fieldsOf 28).toList = [f1, f2] ∧ f1.name ≠ "_" ∧ f2.name ≠ "_" ∧ f1.type = 25 ∧ f2.type = 26 ∧ f1.offset = 0 ∧ f2.offset = 17 := by
    simp only [Program.fieldsOf, Tryz.underlying28]
    exact ⟨_, _, rfl, by decide, by decide, rfl, rfl, rfl, rfl⟩
  have ea := eq_addr_d 9996 u v xs ys h1 h2 w
  have ei : (Op.equalIn 9999 26 (.int .u16 (p : Int)) (.int .u16 (q : Int))).run Tryz.prog w = .ok ((p : Int) == (q : Int)) w := run_equalIn_int (P := Tryz.prog) w 9998 26 .u16 .u16 (p : Int) (q : Int) Tryz.underlying26
  rw [run_equalIn_agg w 9999 28 _ _ hS hp, hf]
  simp only [Op.eqFields, n1, n2, t1, t2, o1, o2, ne_eq, not_false_eq_true, if_true, Sem.run_bind, part_a u xs p h1, part_a v ys q h2, Result.andThen_ok, ea]
  by_cases e : u = v ∧ xs = ys
  · obtain ⟨rfl, rfl⟩ := e
    by_cases e2 : p = q
    · subst e2; simp [part_p u xs p h1, ei]
    · have e3 : ((p : Int) == (q : Int)) = false := by rw [beq_eq_false_iff_ne]; omega
      simp [part_p u xs p h1, part_p u xs q h1, ei, e2, e3]
  · have e4 : ¬ (u = v ∧ xs = ys ∧ p = q) := fun h => e ⟨h.1, h.2.1⟩
    simp [e, e4]
end Go.Proofs.YtonafonhadocgaaGreatDoor

/- Equality of flows and of keys. -/
namespace Go.Proofs.YtonafonhadocgaaGreatDoor
open Go.RowKit Go.Shelf

theorem part_aE (e : En) (h : e.2.1.length = 16) (w : World) : (part 25 (enC e.1 e.2.1 e.2.2) 0).run Tryz.prog w = .ok (.agg (adC e.1 e.2.1)) w := part_a e.1 e.2.1 e.2.2 h w
theorem eq_ends_d (d : Nat) (a b : En) (h1 : a.2.1.length = 16) (h2 : b.2.1.length = 16) (w : World) :
    (Op.equalIn (d + 4) 28 (.agg (enC a.1 a.2.1 a.2.2)) (.agg (enC b.1 b.2.1 b.2.2))).run Tryz.prog w = .ok (decide (a = b)) w := by
  obtain ⟨u, xs, p⟩ := a
  obtain ⟨v, ys, q⟩ := b
  dsimp only at h1 h2 ⊢
  have hS : Tryz.prog.underlying 28 = some (.struct (Tryz.prog.fieldsOf 28)) := by kernel_rfl
  have hp : Tryz.prog.stoodInHeld 28 = false := by kernel_rfl
  obtain ⟨f1, f2, hf, n1, n2, t1, t2, o1, o2⟩ : ∃ f1 f2, (Tryz.prog.fieldsOf 28).toList = [f1, f2] ∧ f1.name ≠ "_" ∧ f2.name ≠ "_" ∧ f1.type = 25 ∧ f2.type = 26 ∧ f1.offset = 0 ∧ f2.offset = 17 := by
    simp only [Program.fieldsOf, Tryz.underlying28]
    exact ⟨_, _, rfl, by decide, by decide, rfl, rfl, rfl, rfl⟩
  have ea := eq_addr_d d u v xs ys h1 h2 w
  have ei : (Op.equalIn (d + 3) 26 (.int .u16 (p : Int)) (.int .u16 (q : Int))).run Tryz.prog w = .ok ((p : Int) == (q : Int)) w := run_equalIn_int (P := Tryz.prog) w (d + 2) 26 .u16 .u16 (p : Int) (q : Int) Tryz.underlying26
  rw [run_equalIn_agg w (d + 3) 28 _ _ hS hp, hf]
  simp only [Op.eqFields, n1, n2, t1, t2, o1, o2, ne_eq, not_false_eq_true, if_true, Sem.run_bind, part_a u xs p h1, part_a v ys q h2, Result.andThen_ok, ea]
  by_cases e : u = v ∧ xs = ys
  · obtain ⟨rfl, rfl⟩ := e
    by_cases e2 : p = q
    · subst e2; simp [part_p u xs p h1, ei]
    · have e3 : ((p : Int) == (q : Int)) = false := by rw [beq_eq_false_iff_ne]; omega
      simp [part_p u xs p h1, part_p u xs q h1, ei, e2, e3]
  · have e4 : ¬ ((u, xs, p) = (v, ys, q)) := fun h => e (by injection h with h3 h4; injection h4 with h4 _; exact ⟨h3, h4⟩)
    rw [decide_eq_false e, decide_eq_false e4]
    simp

theorem part_1 (a b : En) (ha : a.2.1.length = 16) (w : World) : (part 28 (flC a b) 0).run Tryz.prog w = .ok (.agg (enC a.1 a.2.1 a.2.2)) w := by
  have e : (flC a b).extract 0 18 = enC a.1 a.2.1 a.2.2 := by
    apply Array.toList_inj.1
    have h1 := flC_client a b
    rw [Array.length_toList, enC_size _ _ _ ha] at h1
    rw [Array.toList_extract]
    exact h1
  have hg : (isAgg 28).run Tryz.prog w = .ok true w := Tryz.isAgg28 w
  have hs : (sizeOf 28).run Tryz.prog w = .ok 18 w := Tryz.sizeOf28 w
  simp only [part, Sem.run_bind, hg, hs, Result.andThen_ok, if_true, Nat.zero_add, e]
  exact Sem.run_pure ..
theorem part_2 (a b : En) (ha : a.2.1.length = 16) (hb : b.2.1.length = 16) (w : World) : (part 28 (flC a b) 18).run Tryz.prog w = .ok (.agg (enC b.1 b.2.1 b.2.2)) w := by
  have e : (flC a b).extract 18 36 = enC b.1 b.2.1 b.2.2 := by
    apply Array.toList_inj.1
    have h1 := flC_server a b ha
    rw [Array.length_toList, enC_size _ _ _ hb] at h1
    rw [Array.toList_extract]
    exact h1
  have hg : (isAgg 28).run Tryz.prog w = .ok true w := Tryz.isAgg28 w
  have hs : (sizeOf 28).run Tryz.prog w = .ok 18 w := Tryz.sizeOf28 w
  simp only [part, Sem.run_bind, hg, hs, Result.andThen_ok, if_true, Nat.reduceAdd, e]
  exact Sem.run_pure ..
theorem eq_flow_d (d : Nat) (a b a' b' : En) (ha : a.2.1.length = 16) (hb : b.2.1.length = 16) (ha' : a'.2.1.length = 16) (hb' : b'.2.1.length = 16) (w : World) :
    (Op.equalIn (d + 5) 30 (.agg (flC a b)) (.agg (flC a' b'))).run Tryz.prog w = .ok (decide ((a, b) = (a', b'))) w := by
  have hS : Tryz.prog.underlying 30 = some (.struct (Tryz.prog.fieldsOf 30)) := by kernel_rfl
  have hp : Tryz.prog.stoodInHeld 30 = false := by kernel_rfl
  obtain ⟨f1, f2, hf, n1, n2, t1, t2, o1, o2⟩ : ∃ f1 f2, (Tryz.prog.fieldsOf 30).toList = [f1, f2] ∧ f1.name ≠ "_" ∧ f2.name ≠ "_" ∧ f1.type = 28 ∧ f2.type = 28 ∧ f1.offset = 0 ∧ f2.offset = 18 := by
    simp only [Program.fieldsOf, Tryz.underlying30]
    exact ⟨_, _, rfl, by decide, by decide, rfl, rfl, rfl, rfl⟩
  have e1 := eq_ends_d d a a' ha ha' w
  have e2 := eq_ends_d d b b' hb hb' w
  rw [run_equalIn_agg w (d + 4) 30 _ _ hS hp, hf]
  simp only [Op.eqFields, n1, n2, t1, t2, o1, o2, ne_eq, not_false_eq_true, if_true, Sem.run_bind, part_1 a b ha, part_1 a' b' ha', Result.andThen_ok, e1]
  by_cases h1 : a = a'
  · subst h1
    by_cases h2 : b = b'
    · subst h2; simp [part_2 a b ha hb, e2]
    · simp [part_2 a b ha hb, part_2 a b' ha hb', e2, h2]
  · simp [h1]
theorem eq_flow (f g : En × En) (hf : f.1.2.1.length = 16) (hf' : f.2.2.1.length = 16) (hg : g.1.2.1.length = 16) (hg' : g.2.2.1.length = 16) (w : World) :
    (Op.equalIn 10000 30 (.agg (flC f.1 f.2)) (.agg (flC g.1 g.2))).run Tryz.prog w = .ok (decide (f = g)) w :=
  eq_flow_d 9995 f.1 f.2 g.1 g.2 hf hf' hg hg' w
theorem part_f (k : Ky) (h : KyOk k) (w : World) : (part 30 (kyC k) 0).run Tryz.prog w = .ok (.agg (flC k.1.1 k.1.2)) w := by
  have e : (kyC k).extract 0 36 = flC k.1.1 k.1.2 := by
    apply Array.toList_inj.1
    have h1 := keC_flow k.1.1 k.1.2 k.2
    rw [Array.length_toList, flC_size _ _ h.la h.lb] at h1
    rw [Array.toList_extract]
    exact h1
  have hg : (isAgg 30).run Tryz.prog w = .ok true w := Tryz.isAgg30 w
  have hs : (sizeOf 30).run Tryz.prog w = .ok 36 w := Tryz.sizeOf30 w
  simp only [part, Sem.run_bind, hg, hs, Result.andThen_ok, if_true, Nat.zero_add, e]
  exact Sem.run_pure ..
theorem part_x (k : Ky) (h : KyOk k) (w : World) : (part 34 (kyC k) 36).run Tryz.prog w = .ok (.int .u64 (k.2 : Int)) w :=
  run_part_plain (P := Tryz.prog) w (by kernel_rfl) (keC_xmit k.1.1 k.1.2 k.2 h.la h.lb)
theorem eq_key_d (d : Nat) (k j : Ky) (hk : KyOk k) (hj : KyOk j) (w : World) :
    (Op.equalIn (d + 6) 36 (.agg (kyC k)) (.agg (kyC j))).run Tryz.prog w = .ok (decide (k = j)) w := by
  have hS : Tryz.prog.underlying 36 = some (.struct (Tryz.prog.fieldsOf 36)) := by kernel_rfl
  have hp : Tryz.prog.stoodInHeld 36 = false := by kernel_rfl
  obtain ⟨f1, f2, hf, n1, n2, t1, t2, o1, o2⟩ : ∃ f1 f2, (Tryz.prog.fieldsOf 36).toList = [f1, f2] ∧ f1.name ≠ "_" ∧ f2.name ≠ "_" ∧ f1.type = 30 ∧ f2.type = 34 ∧ f1.offset = 0 ∧ f2.offset = 36 := by
    simp only [Program.fieldsOf, Tryz.underlying36]
    exact ⟨_, _, rfl, by decide, by decide, rfl, rfl, rfl, rfl⟩
  have e1 := eq_flow_d d k.1.1 k.1.2 j.1.1 j.1.2 hk.la hk.lb hj.la hj.lb w
  have ei : (Op.equalIn (d + 5) 34 (.int .u64 (k.2 : Int)) (.int .u64 (j.2 : Int))).run Tryz.prog w = .ok ((k.2 : Int) == (j.2 : Int)) w := run_equalIn_int (P := Tryz.prog) w (d + 4) 34 .u64 .u64 (k.2 : Int) (j.2 : Int) Tryz.underlying34
  rw [run_equalIn_agg w (d + 5) 36 _ _ hS hp, hf]
  simp only [Op.eqFields, n1, n2, t1, t2, o1, o2, ne_eq, not_false_eq_true, if_true, Sem.run_bind, part_f k hk, part_f j hj, Result.andThen_ok, e1]
  obtain ⟨f, x⟩ := k
  obtain ⟨g, y⟩ := j
  by_cases h1 : f = g
  · subst h1
    have p1 := part_x _ hk w
    have p2 := part_x _ hj w
    by_cases h2 : x = y
    · subst h2; simp [p1, ei]
    · have e3 : ((x : Int) == (y : Int)) = false := by rw [beq_eq_false_iff_ne]; omega
      simp [p1, p2, ei, h2, e3]
  · simp [h1]
theorem eq_key (k j : Ky) (hk : KyOk k) (hj : KyOk j) (w : World) :
    (Op.equalIn 10000 36 (.agg (kyC k)) (.agg (kyC j))).run Tryz.prog w = .ok (decide (k = j)) w := eq_key_d 9994 k j hk hj w
end Go.Proofs.YtonafonhadocgaaGreatDoor

/- Arguments opened to what the walks are told of them. -/
namespace Go.Proofs.YtonafonhadocgaaGreatDoor
open Go.ChangeShapes Go.WideShapes Go.ChangeAt Go.RowKit

theorem own : ownKnob Tryz.prog.godebug = none := by kernel_rfl
theorem laidOut : laidOutB Tryz.prog = true := by kernel_rfl

section
variable {H : Type} {enc : TypeId × Value → H} {W : World} {base : Nat} {held : Bool}

theorem rd_of_trod {fuel : Nat} {v : Value} {x : DataW H × List MemPlace} (h : DataW.trod enc Tryz.prog W base (fun _ => true) held fuel 63 [v] = some x) :
    ∃ A n c l, v = .slice A n c ∧ Rd W A n c l := by
  rcases open_ints Tryz.underlying63 Tryz.underlying5 (by kernel_rfl) h with ⟨hcs, _⟩ | ⟨a, n, c, zs, hcs, _, hl, hm, hz, _, hcell, hwz⟩
  · injection hcs with hv _
    exact ⟨none, 0, 0, [], hv, Rd.nil W⟩
  · injection hcs with hv _
    refine ⟨some a, n, c, (zs.take n).map fun z => UInt8.ofNat z.toNat, hv, ?_⟩
    have hzl : zs.length = c := by simpa using hz
    refine ⟨by simp; omega, hl, by simpa [maxLen] using hm, fun hn => ?_⟩
    have hc0 := hcell 0 (by omega)
    obtain ⟨b, off, spot⟩ := a
    have hspot : spot = none := by simpa [Addr.add] using World.cell?_spot hc0
    subst hspot
    refine ⟨b, off, rfl, fun k hk => ?_⟩
    have e := hcell k (by omega)
    have hadd : (⟨b, off, none⟩ : Addr).add k = ⟨b, off + k, none⟩ := by unfold Addr.add; split <;> simp_all
    rw [hadd] at e
    rw [e]
    have hkz : k < zs.length := by omega
    have hw := bounds_u8 (hwz (zs[k]) (List.getElem_mem hkz))
    simp only [List.getD, List.getElem?_eq_getElem hkz, Option.getD_some]
    have h2 : ((zs.take n).map fun z => UInt8.ofNat z.toNat)[k]? = some (UInt8.ofNat (zs[k]).toNat) := by
      rw [List.getElem?_map, List.getElem?_take, if_pos hk, List.getElem?_eq_getElem hkz]
      rfl
    rw [h2]
    congr 2
    simp only [Option.getD_some, UInt8.toNat_ofNat']
    omega

theorem int_of_trod {fuel : Nat} {t : TypeId} {k : IntKind} {v : Value} {x : DataW H × List MemPlace} (ht : Tryz.prog.underlying t = some (.int k)) (h : DataW.trod enc Tryz.prog W base (fun _ => true) held fuel t [v] = some x) :
    ∃ z, v = .int k z ∧ (Lit.int k z).wf = true := by
  obtain ⟨z, hv, _, hw⟩ := DataW.trod_int ht h
  injection hv with hv _
  exact ⟨z, hv, hw⟩
theorem bool_of_trod {fuel : Nat} {t : TypeId} {v : Value} {x : DataW H × List MemPlace} (ht : Tryz.prog.underlying t = some .bool) (h : DataW.trod enc Tryz.prog W base (fun _ => true) held fuel t [v] = some x) :
    ∃ z, v = .bool z := by
  obtain ⟨z, hv, _⟩ := DataW.trod_bool ht h
  injection hv with hv _
  exact ⟨z, hv⟩
end
end Go.Proofs.YtonafonhadocgaaGreatDoor

/- An address as an argument: its cells. What the row's own condition gives of the library's variables. The wrap that keeps the world's shape. -/
namespace Go.Proofs.YtonafonhadocgaaGreatDoor
open Go.ChangeShapes Go.WideShapes Go.ChangeAt Go.RowKit Go.Shelf

section
variable {H : Type} {enc : TypeId × Value → H}

/-- An array of integers that reads: its cells. -/
theorem ints_of_array {P : Program} {w : World} {base : Nat} {sp : Nat → Bool} {held : Bool} {fuel : Nat} {t e : TypeId} {n : Nat} {k : IntKind} {cs : List Value} {x : DataW H × List MemPlace}
    (ht : P.underlying t = some (.array n e)) (he : P.underlying e = some (.int k)) (hce : P.cellsOf e = 1) (_hl : cs.length = n)
    (h : DataW.trod enc P w base sp held fuel t cs = some x) : ∀ i, i < n → ∃ z, cs[i]? = some (.int k z) ∧ (Lit.int k z).wf = true := by
  cases fuel with
  | zero => simp [DataW.trod] at h
  | succ fuel =>
    simp only [DataW.trod, ht, hce, Nat.mul_one] at h
    split at h
    · obtain ⟨xs, hm, hx⟩ := Option.map_eq_some_iff.1 h
      intro i hi
      obtain ⟨b, hb, hf⟩ := Lib.mapM_at hm i i (by simp [hi])
      obtain ⟨z, hc, _, hw⟩ := DataW.trod_int he hf
      refine ⟨z, ?_, hw⟩
      have := congrArg (·[0]?) hc
      simpa [List.getElem?_take, List.getElem?_drop] using this
    · cases h
/-- Cells that are bytes all. -/
theorem bytes_of_cells (cs : List Value) (n : Nat) (hl : cs.length = n) (h : ∀ i, i < n → ∃ z, cs[i]? = some (.int .u8 z) ∧ (Lit.int .u8 z).wf = true) : ∃ l : List UInt8, l.length = n ∧ cs = bv l := by
  induction cs generalizing n with
  | nil => exact ⟨[], hl, rfl⟩
  | cons c r ih =>
    simp only [List.length_cons] at hl
    obtain ⟨z, hz, hw⟩ := h 0 (by omega)
    rw [List.getElem?_cons_zero] at hz
    injection hz with hz
    obtain ⟨l, hl', hr⟩ := ih (n - 1) (by omega) (fun i hi => by
      have := h (i + 1) (by omega)
      rw [List.getElem?_cons_succ] at this
      exact this)
    have hb := bounds_u8 hw
    refine ⟨UInt8.ofNat z.toNat :: l, by simp; omega, ?_⟩
    rw [hz, hr, bv, bv, List.map_cons, UInt8.toNat_ofNat']
    congr 2
    omega

variable {W : World} {base : Nat} {held : Bool}
set_option maxRecDepth 100000 in
theorem addr_of_trod {fuel : Nat} {cs : List Value} {x : DataW H × List MemPlace} (hsz : cs.length = 17) (h : DataW.trod enc Tryz.prog W base (fun _ => true) held fuel 25 cs = some x) :
    ∃ (u : Bool) (l : List UInt8), cs = (adC u l).toList ∧ l.length = 16 := by
  obtain ⟨xs, n, _, _, _, hlen, hg⟩ := DataW.trod_struct Tryz.underlying25 h
  have hxs : xs.length = 2 := hlen
  have C1 : Tryz.prog.cellsOf 4 = 1 := by kernel_rfl
  have C16 : Tryz.prog.cellsOf 23 = 16 := by kernel_rfl
  have C8 : Tryz.prog.cellsOf 5 = 1 := by kernel_rfl
  match xs, hxs with
  | [y0, y1], _ =>
    have h0 := hg 0 _ rfl
    have h1 := hg 1 _ rfl
    simp [C1] at h0
    simp [C16] at h1
    cases cs with
    | nil => cases hsz
    | cons c0 r =>
      have hr : r.length = 16 := by simpa using hsz
      simp only [List.take_succ_cons, List.take_zero] at h0
      obtain ⟨u, hu, _⟩ := DataW.trod_bool Tryz.underlying4 h0
      injection hu with hu
      subst hu
      rw [List.tail_cons, List.take_of_length_le (by omega)] at h1
      obtain ⟨l, hl, rfl⟩ := bytes_of_cells r 16 hr (ints_of_array Tryz.underlying23 Tryz.underlying5 C8 hr h1)
      exact ⟨u, l, rfl, hl⟩
set_option maxRecDepth 100000 in
theorem open_addr {r : Reach} {b0 : Nat} {v : Value} {d : DataW H} {pl : List MemPlace} (hv : Value.okWide Tryz.prog W r b0 25 v) (h : DataW.Trod enc Tryz.prog W base (fun _ => true) held 25 v d pl) :
    ∃ (u : Bool) (l : List UInt8), v = .agg (adC u l) ∧ l.length = 16 := by
  obtain ⟨cs, rfl, hsz⟩ := okWide_struct Tryz.underlying25 hv
  have hC : Tryz.prog.cellsOf 25 = 17 := by kernel_rfl
  obtain ⟨fuel, hf⟩ := h
  obtain ⟨L⟩ := cs
  obtain ⟨u, l, e, hl⟩ := addr_of_trod (hsz.trans hC) (by simpa [Value.cells] using hf)
  exact ⟨u, l, by rw [show L = (adC u l).toList from e], hl⟩
end

/-! ### The library's variables -/
theorem lib_pow : Tryz.prog.globalNamed "internal/strconv.uint64pow10" = some 3 := by kernel_rfl
theorem lib_bru : Tryz.prog.globalNamed "math/bits.deBruijn64tab" = some 5 := by kernel_rfl
theorem lib_syn : Tryz.prog.globalNamed "strconv.ErrSyntax" = some 1 := by kernel_rfl
theorem lib_rng : Tryz.prog.globalNamed "strconv.ErrRange" = some 2 := by kernel_rfl
end Go.Proofs.YtonafonhadocgaaGreatDoor

/- Flows and keys as arguments, and rows of them: their cells. -/
namespace Go.Proofs.YtonafonhadocgaaGreatDoor
open Go.ChangeShapes Go.WideShapes Go.ChangeAt Go.RowKit Go.Shelf

theorem u16_bd {n : Int} (h : (Lit.int .u16 n).wf = true) : 0 ≤ n ∧ n ≤ 65535 := by
  simp [Lit.wf, IntKind.min, IntKind.max, IntKind.signed, IntKind.bits] at h
  omega
theorem u64_bd {n : Int} (h : (Lit.int .u64 n).wf = true) : 0 ≤ n ∧ n ≤ 18446744073709551615 := by
  simp [Lit.wf, IntKind.min, IntKind.max, IntKind.signed, IntKind.bits] at h
  omega
theorem kc64 : Tryz.prog.cellsOf 34 = 1 := by kernel_rfl
theorem kcK : Tryz.prog.cellsOf 36 = 37 := by kernel_rfl
section
variable {H : Type} {enc : TypeId × Value → H} {W : World} {base : Nat} {held : Bool}
set_option maxRecDepth 100000 in
theorem ends_of_trod {fuel : Nat} {cs : List Value} {x : DataW H × List MemPlace} (hsz : cs.length = 18) (h : DataW.trod enc Tryz.prog W base (fun _ => true) held fuel 28 cs = some x) :
    ∃ e : En, cs = enL e ∧ e.2.1.length = 16 ∧ e.2.2 < 65536 := by
  obtain ⟨xs, n, _, _, _, hlen, hg⟩ := DataW.trod_struct Tryz.underlying28 h
  have hxs : xs.length = 2 := hlen
  match xs, hxs with
  | [y0, y1], _ =>
    have h0 : DataW.trod enc Tryz.prog W base (fun _ => true) held n 25 ((cs.drop 0).take (Tryz.prog.cellsOf 25)) = some y0 := hg 0 _ rfl
    have h1 : DataW.trod enc Tryz.prog W base (fun _ => true) held n 26 ((cs.drop 17).take (Tryz.prog.cellsOf 26)) = some y1 := hg 1 _ rfl
    rw [kcA, List.drop_zero] at h0
    rw [kc16] at h1
    obtain ⟨u, l, e1, hl⟩ := addr_of_trod (by rw [List.length_take]; omega) h0
    obtain ⟨z, e2, _, hw⟩ := DataW.trod_int Tryz.underlying26 h1
    have hb := u16_bd hw
    refine ⟨(u, l, z.toNat), ?_, hl, by dsimp only; omega⟩
    rw [List.take_of_length_le (by rw [List.length_drop, hsz]; decide)] at e2
    rw [← List.take_append_drop 17 cs, e1, e2]
    show Value.bool u :: bv l ++ [Value.int .u16 z] = Value.bool u :: (bv l ++ [Value.int .u16 (z.toNat : Int)])
    rw [show ((z.toNat : Nat) : Int) = z by omega]
    rfl
set_option maxRecDepth 100000 in
theorem flow_of_trod {fuel : Nat} {cs : List Value} {x : DataW H × List MemPlace} (hsz : cs.length = 36) (h : DataW.trod enc Tryz.prog W base (fun _ => true) held fuel 30 cs = some x) :
    ∃ f : En × En, cs = (flC f.1 f.2).toList ∧ FlOk f := by
  obtain ⟨xs, n, _, _, _, hlen, hg⟩ := DataW.trod_struct Tryz.underlying30 h
  have hxs : xs.length = 2 := hlen
  match xs, hxs with
  | [y0, y1], _ =>
    have h0 : DataW.trod enc Tryz.prog W base (fun _ => true) held n 28 ((cs.drop 0).take (Tryz.prog.cellsOf 28)) = some y0 := hg 0 _ rfl
    have h1 : DataW.trod enc Tryz.prog W base (fun _ => true) held n 28 ((cs.drop 18).take (Tryz.prog.cellsOf 28)) = some y1 := hg 1 _ rfl
    rw [kcE, List.drop_zero] at h0
    rw [kcE] at h1
    obtain ⟨a, e1, la, pa⟩ := ends_of_trod (by rw [List.length_take]; omega) h0
    rw [List.take_of_length_le (by rw [List.length_drop, hsz]; decide)] at h1
    obtain ⟨b, e2, lb, pb⟩ := ends_of_trod (by rw [List.length_drop, hsz]) h1
    refine ⟨(a, b), ?_, ⟨la, lb, pa, pb⟩⟩
    rw [← List.take_append_drop 18 cs, e1]
    show enL a ++ _ = enL a ++ enL b
    rw [← e2]
set_option maxRecDepth 100000 in
theorem key_of_trod {fuel : Nat} {cs : List Value} {x : DataW H × List MemPlace} (hsz : cs.length = 37) (h : DataW.trod enc Tryz.prog W base (fun _ => true) held fuel 36 cs = some x) :
    ∃ k : Ky, cs = (kyC k).toList ∧ KyOk k := by
  obtain ⟨xs, n, _, _, _, hlen, hg⟩ := DataW.trod_struct Tryz.underlying36 h
  have hxs : xs.length = 2 := hlen
  match xs, hxs with
  | [y0, y1], _ =>
    have h0 : DataW.trod enc Tryz.prog W base (fun _ => true) held n 30 ((cs.drop 0).take (Tryz.prog.cellsOf 30)) = some y0 := hg 0 _ rfl
    have h1 : DataW.trod enc Tryz.prog W base (fun _ => true) held n 34 ((cs.drop 36).take (Tryz.prog.cellsOf 34)) = some y1 := hg 1 _ rfl
    rw [kcF, List.drop_zero] at h0
    rw [kc64] at h1
    obtain ⟨f, e1, hf⟩ := flow_of_trod (by rw [List.length_take]; omega) h0
    obtain ⟨z, e2, _, hw⟩ := DataW.trod_int Tryz.underlying34 h1
    have hb := u64_bd hw
    refine ⟨(f, z.toNat), ?_, ⟨hf.la, hf.lb, hf.pa, hf.pb, by dsimp only; omega⟩⟩
    rw [List.take_of_length_le (by rw [List.length_drop, hsz]; decide)] at e2
    rw [← List.take_append_drop 36 cs, e1]
    show enL f.1 ++ enL f.2 ++ _ = enL f.1 ++ enL f.2 ++ [Value.int .u64 (z.toNat : Int)]
    rw [show ((z.toNat : Nat) : Int) = z by omega, ← e2]
set_option maxRecDepth 100000 in
theorem open_flow {r : Reach} {b0 : Nat} {v : Value} {d : DataW H} {pl : List MemPlace} (hv : Value.okWide Tryz.prog W r b0 30 v) (h : DataW.Trod enc Tryz.prog W base (fun _ => true) held 30 v d pl) :
    ∃ f : En × En, v = .agg (flC f.1 f.2) ∧ FlOk f := by
  obtain ⟨cs, rfl, hsz⟩ := okWide_struct Tryz.underlying30 hv
  obtain ⟨fuel, hf⟩ := h
  obtain ⟨L⟩ := cs
  obtain ⟨f, e, hl⟩ := flow_of_trod (hsz.trans kcF) (by simpa [Value.cells] using hf)
  exact ⟨f, by rw [show L = (flC f.1 f.2).toList from e], hl⟩
set_option maxRecDepth 100000 in
theorem open_key {r : Reach} {b0 : Nat} {v : Value} {d : DataW H} {pl : List MemPlace} (hv : Value.okWide Tryz.prog W r b0 36 v) (h : DataW.Trod enc Tryz.prog W base (fun _ => true) held 36 v d pl) :
    ∃ k : Ky, v = .agg (kyC k) ∧ KyOk k := by
  obtain ⟨cs, rfl, hsz⟩ := okWide_struct Tryz.underlying36 hv
  obtain ⟨fuel, hf⟩ := h
  obtain ⟨L⟩ := cs
  obtain ⟨k, e, hl⟩ := key_of_trod (hsz.trans kcK) (by simpa [Value.cells] using hf)
  exact ⟨k, by rw [show L = (kyC k).toList from e], hl⟩

/-! ### rows -/
/-- What each place holds, as one list. -/
theorem list_of_each {α : Type} (n : Nat) (p : Nat → α → Prop) (h : ∀ i, i < n → ∃ a, p i a) : ∃ l : List α, l.length = n ∧ ∀ i a, l[i]? = some a → p i a := by
  induction n with
  | zero => exact ⟨[], rfl, fun i a ha => by cases ha⟩
  | succ n ih =>
    obtain ⟨l, hl, hp⟩ := ih fun i hi => h i (by omega)
    obtain ⟨a, ha⟩ := h n (by omega)
    refine ⟨l ++ [a], by rw [List.length_append, hl]; rfl, fun i b hb => ?_⟩
    by_cases hi : i < l.length
    · rw [List.getElem?_append_left hi] at hb
      exact hp i b hb
    · have hi2 := (List.getElem?_eq_some_iff.1 hb).1
      rw [List.length_append] at hi2
      simp at hi2
      have e : i = l.length := by omega
      subst e
      rw [List.getElem?_append_right (Nat.le_refl _), Nat.sub_self] at hb
      injection hb with hb
      rw [← hb, hl]
      exact ha
theorem add_plain (b o m : Nat) : (⟨b, o, none⟩ : Addr).add m = ⟨b, o + m, none⟩ := by unfold Addr.add; split <;> simp_all
theorem cells_range {b off n j : Nat} {cs : List Value} (h : W.cells? base ((⟨b, off, none⟩ : Addr).add j) n = some cs) (hn : 0 < n) : b < W.heap.size ∧ W.rangeAt b (off + j) cs := by
  obtain ⟨_, hl, hc⟩ := World.cells?_some h
  have hb := World.cells?_block h hn
  rw [add_plain] at hb
  refine ⟨hb, fun i v hv => ?_⟩
  have hi := (List.getElem?_eq_some_iff.1 hv).1
  have := hc i (by omega)
  rw [add_plain, add_plain] at this
  rw [this, hv]
theorem cells_head {a : Addr} {n : Nat} {cs : List Value} (h : W.cells? base (a.add 0) n = some cs) (hn : 0 < n) : ∃ b off, a = ⟨b, off, none⟩ := by
  obtain ⟨_, hl, hc⟩ := World.cells?_some h
  have h0 := hc 0 hn
  rw [List.getElem?_eq_getElem (by omega)] at h0
  have hz : ∀ x : Addr, x.add 0 = x := fun x => by unfold Addr.add; rw [if_pos rfl]
  rw [hz, hz] at h0
  obtain ⟨b, off, spot⟩ := a
  have : spot = none := World.cell?_spot h0
  subst this
  exact ⟨b, off, rfl⟩
theorem keys_of_trod {fuel : Nat} {v : Value} {x : DataW H × List MemPlace} (h : DataW.trod enc Tryz.prog W base (fun _ => true) held fuel 56 [v] = some x) :
    ∃ A n c ks, v = .slice A n c ∧ RdK W A n c ks ∧ (∀ k ∈ ks, KyOk k) ∧ c ≤ 9223372036854775807 := by
  rcases Go.Deep.open_slice Tryz.underlying56 h with ⟨hcs, _⟩ | ⟨a, n, c, m, q, D, Pl, hcs, _, hl, hm, hmm, _, hi⟩
  · injection hcs with hv _
    exact ⟨none, 0, 0, [], hv, ⟨rfl, Nat.le_refl _, fun h => absurd h (by omega)⟩, fun k hk => (by cases hk), by omega⟩
  · injection hcs with hv _
    have hmc : m = c := by simpa using hmm
    obtain ⟨ks, hkl, hk⟩ := list_of_each n (fun i (k : Ky) => KyOk k ∧ W.cells? base (a.add (i * 37)) 37 = some (kyC k).toList) fun i hin => by
      obtain ⟨cs, h1, h2⟩ := hi i (by omega)
      rw [kcK] at h1
      obtain ⟨_, hcl, _⟩ := World.cells?_some h1
      obtain ⟨k, e, hk⟩ := key_of_trod hcl h2
      exact ⟨k, hk, by rw [h1, e]⟩
    refine ⟨some a, n, c, ks, hv, ⟨hkl, hl, fun hn => ?_⟩, fun k hkm => ?_, by simpa [maxLen] using hm⟩
    · obtain ⟨k0, hk0⟩ : ∃ k0, ks[0]? = some k0 := ⟨ks[0]'(by omega), List.getElem?_eq_getElem _⟩
      have h0 := (hk 0 k0 hk0).2
      rw [Nat.zero_mul] at h0
      obtain ⟨b, off, rfl⟩ := cells_head h0 (by omega)
      exact ⟨b, off, rfl, (cells_range h0 (by omega)).1, fun j k hj => (cells_range (hk j k hj).2 (by omega)).2⟩
    · obtain ⟨i, hi'⟩ := List.getElem?_of_mem hkm
      exact (hk i k hi').1
end
end Go.Proofs.YtonafonhadocgaaGreatDoor
