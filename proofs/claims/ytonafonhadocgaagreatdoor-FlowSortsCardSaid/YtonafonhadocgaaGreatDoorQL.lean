/- Laws and walks that the claim's last text leans on, joined: each part says above itself what it proves. -/
import Derived.Test.YtonafonhadocgaaGreatDoorQA
import Derived.Test.YtonafonhadocgaaGreatDoorShelf
import Derived.Shelf.Strings.Builder1
import Derived.RangeFuncBox
import Derived.RegionTactic
import Derived.ChangeAlike
import Derived.Outline
import Derived.Test.YtonafonhadocgaaGreatDoorQD
import Derived.Test.YtonafonhadocgaaGreatDoorQK
import Derived.LoopNIn
import Derived.LoopIn
import Derived.TacticsInMore
import Derived.OwnWalkIn
import Derived.Maps.Views

/- A strings.Builder that the call itself has made: WriteString, Len, String. -/
namespace Go.Proofs.YtonafonhadocgaaGreatDoor
open Go.RowKit Go.Shelf

abbrev Bld (B b : Nat) (l : List UInt8) (w : World) : Prop := Lib.IsBuilder 96 5 B b (Lib.byteCells l) w

theorem bldSize : (Tryz.prog.info? 96).map (·.size) = some 2 := by kernel_rfl
theorem bldLies : liesAt Tryz.prog Tryz.prog.depth 96 (2 / Tryz.prog.cellsOf 96) 0 96 1 = true := by kernel_rfl
theorem byteInfo : (Tryz.prog.info? 5).map (fun i => (i.zero, i.size, i.bytes)) = some (some (.int .u8 0), 1, 1) := by kernel_rfl

set_option maxRecDepth 100000 in
set_option maxHeartbeats 1000000 in
theorem copyCheck_used (b : Nat) (w : World) (h0 : w.cell? ⟨b, 0, none⟩ = some (.pointer (some ⟨b, 0, none⟩))) :
    Calls Tryz.prog 72 #[.pointer (some ⟨b, 0, none⟩)] w fun e w' => e = .returned (.tuple #[]) ∧ w = w' := by
  obtain ⟨j, hj, _⟩ := Option.map_eq_some_iff.1 bldSize
  go_enter Tryz.func72, Tryz.ntmps72
  go_wp2
  rw [Lib.run_neq_ptr_same w _ Tryz.underlying94 hj]
  go_wp2
  go_end0
  exact ⟨rfl, rfl⟩

set_option maxRecDepth 100000 in
set_option maxHeartbeats 1000000 in
theorem copyCheck_fresh (b : Nat) (w : World) (h0 : w.cell? ⟨b, 0, none⟩ = some (.pointer none)) (hsh : w.shape? b = some (96, 2)) (hfz : w.frozen? ⟨b, 0, none⟩ = false) :
    Calls Tryz.prog 72 #[.pointer (some ⟨b, 0, none⟩)] w fun e w' => e = .returned (.tuple #[]) ∧ w.setCell ⟨b, 0, none⟩ (.pointer (some ⟨b, 0, none⟩)) = w' := by
  obtain ⟨j, hj, hjs⟩ := Option.map_eq_some_iff.1 bldSize
  go_enter Tryz.func72, Tryz.ntmps72
  go_wp2
  rw [Lib.run_to_unsafe w ⟨b, 0, none⟩ Tryz.underlying94 Tryz.underlying150 hj (by rw [hjs]; decide) hsh (Nat.zero_lt_succ 1)]
  simp only [Result.andThen]
  rw [Oper.upon_value]
  go_wp2
  rw [run_callFunc_extern Tryz.func98 (by kernel_rfl) (by kernel_rfl) (by kernel_rfl) (e := Extern.AbiNoEscape.same) (by kernel_rfl)]
  rw [Lib.run_noEscape]
  simp only [Result.andThen]
  rw [Oper.upon_value]
  go_wp2
  rw [Lib.run_from_unsafe w ⟨b, 0, none⟩ Tryz.underlying150 Tryz.underlying94 hj hsh bldLies]
  simp only [Result.andThen]
  rw [Oper.upon_value]
  go_wp2
  go_end0
  exact ⟨rfl, rfl⟩

/-- A builder at block b, whose bytes are l; its row of bytes lies from base on, beyond b. -/
def BldO (base b : Nat) (p : Value) (l : List UInt8) (w : World) : Prop :=
  ∃ v, w.heap[b]? = some (.cells #[p, v] 96 (0, 0)) ∧ w.ownsRow base 5 1 v l.length (Lib.byteCells l)

section
variable {base b : Nat} {p : Value} {l : List UInt8} {w w' : World}
theorem BldO.kept (h : BldO base b p l w) {row : Option Nat} (hg : w.grownBy w' row) (hb : ∀ r, row = some r → r < base ∧ r ≠ b) : BldO base b p l w' := by
  obtain ⟨v, h1, h2⟩ := h
  refine ⟨v, (hg.block b (Array.getElem?_eq_some_iff.1 h1).1 (fun e => (hb b e.symm).2 rfl)).trans h1, h2.kept hg ?_⟩
  cases row with
  | none =>
    cases hv : v.ownBlock with
    | none => exact .inl rfl
    | some g => exact .inr (by simp)
  | some r =>
    right
    intro e
    rcases h2.2 with ⟨rfl, _⟩ | ⟨g, cap, cur, rfl, hb', _⟩
    · cases e
    · simp [Value.ownBlock] at e
      have := (hb r rfl).1
      omega
theorem BldO.fresh (w : World) (base : Nat) : BldO base w.heap.size (.pointer none) [] (w.alloc (.cells #[.pointer none, .slice none 0 0] 96)) :=
  ⟨_, heap_alloc_new w _, World.ownsRow_nil _ base _ 1⟩
theorem BldO.is (h : BldO base b p l w) (hp : p = .pointer none ∨ p = .pointer (some ⟨b, 0, none⟩)) (hb : b < base) : Lib.IsBuilder 96 5 b b (Lib.byteCells l) w := by
  obtain ⟨v, h1, h2⟩ := h
  have hne : v.ownBlock ≠ some b := fun e => by
    rcases h2.2 with ⟨rfl, _⟩ | ⟨g, cap, cur, rfl, hb', _⟩
    · cases e
    · simp [Value.ownBlock] at e
      omega
  have h3 : w.ownsRow b 5 1 v (Lib.byteCells l).length (Lib.byteCells l) := by
    rw [Lib.byteCells_length]
    refine ⟨h2.1, ?_⟩
    rcases h2.2 with hn | ⟨g, cap, cur, hv, hb', rest⟩
    · exact .inl hn
    · exact .inr ⟨g, cap, cur, hv, by omega, rest⟩
  rcases hp with rfl | rfl
  · exact .inl ⟨Nat.le_refl _, v, h1, h3, hne⟩
  · exact .inr ⟨Nat.le_refl _, v, h1, h3, hne⟩
end

set_option maxRecDepth 100000 in
set_option maxHeartbeats 1000000 in
theorem write_string (base b : Nat) (p : Value) (l : List UInt8) (s : ByteArray) (w : World) (hp : p = .pointer none ∨ p = .pointer (some ⟨b, 0, none⟩)) (h : BldO base b p l w) (hb : b < base) (hbase : base ≤ w.heap.size) (hlen : l.length + s.size ≤ 140737488355328) :
    Calls Tryz.prog 115 #[.pointer (some ⟨b, 0, none⟩), .string s] w fun e w' =>
      e = .returned (.tuple #[.int .i64 s.size, .nilIface]) ∧ BldO base b (.pointer (some ⟨b, 0, none⟩)) (l ++ s.data.toList) w' ∧ Below b w w' ∧ ∀ r, r < base → r ≠ b → w'.heap[r]? = w.heap[r]? := by
  obtain ⟨i0, hi, hz0, hz1, hz2⟩ := info_parts byteInfo
  have C : Calls Tryz.prog 72 #[.pointer (some ⟨b, 0, none⟩)] w fun e w' => e = .returned (.tuple #[]) ∧ BldO base b (.pointer (some ⟨b, 0, none⟩)) l w' ∧ w.grownBy w' (some b) := by
    have h0 := h
    obtain ⟨v, h1, h2⟩ := h
    rcases hp with rfl | rfl
    · refine (copyCheck_fresh b w ((Lib.cell_of_heap h1 0).trans rfl) (by simp [World.shape?, h1]) (Lib.frozen_of_heap h1 0)).mono ?_
      rintro e w' ⟨rfl, rfl⟩
      refine ⟨rfl, ⟨v, by simp [World.setCell, Array.getElem?_modify, h1], ?_⟩, grownBy_setCell' w b _⟩
      obtain ⟨v', h1', h2'⟩ := h0
      refine h2.kept (grownBy_setCell' w b _) (.inr fun e => ?_)
      rcases h2.2 with ⟨rfl, _⟩ | ⟨g, cap, cur, rfl, hb', _⟩
      · cases e
      · simp [Value.ownBlock] at e
        omega
    · refine (copyCheck_used b w ((Lib.cell_of_heap h1 0).trans rfl)).mono ?_
      rintro e w' ⟨rfl, rfl⟩
      exact ⟨rfl, h0, World.grownBy.refl w _⟩
  have HC := Lib.hid C
  clear C h
  go_enter Tryz.func115, Tryz.ntmps115
  go_wp2_with fail
  refine HC.out.mono ?_
  rintro e w1 ⟨rfl, ⟨v, hbk, hown⟩, hg1⟩
  have c0 : w1.cell? ⟨b, 0, none⟩ = some (.pointer (some ⟨b, 0, none⟩)) := by rw [Lib.cell_of_heap hbk]; rfl
  have c1 : w1.cell? ⟨b, 1, none⟩ = some v := by rw [Lib.cell_of_heap hbk]; rfl
  go_wp2_with (at_builtin; refine Lib.wpList_append_own_string _ rfl _ _ 63 9 rfl base 5 i0 Tryz.underlying63 Tryz.underlying9 hi hz0 hz1 hz2 _ _ _ rfl hown s rfl ?c3 ?c4 ?c5 ?_)
  case c3 => unfold maxLen; omega
  case c4 => omega
  case c5 => have := hg1.size; omega
  intro v' w2 hown' hgrow _
  have hvb : ∀ r, v.ownBlock = some r → base ≤ r := fun r e => (hown.lt r e).1
  have hlt : b < w1.heap.size := (Array.getElem?_eq_some_iff.1 hbk).1
  have hb2 : w2.heap[b]? = some (.cells #[.pointer (some ⟨b, 0, none⟩), v] 96 (0, 0)) := by
    rw [hgrow.block b hlt (fun e => by have := hvb b e.symm; omega)]
    exact hbk
  have d0 : w2.cell? ⟨b, 0, none⟩ = some (.pointer (some ⟨b, 0, none⟩)) := by rw [Lib.cell_of_heap hb2]; rfl
  have d1 : w2.cell? ⟨b, 1, none⟩ = some v := by rw [Lib.cell_of_heap hb2]; rfl
  have f1 : w2.frozen? ⟨b, 1, none⟩ = false := Lib.frozen_of_heap hb2 1
  obtain ⟨ao, n', cap, rfl⟩ : ∃ ao n' cap, v' = .slice ao n' cap := by
    rcases hown'.2 with ⟨hv, _⟩ | ⟨g, cap, cur, hv, _⟩
    · exact ⟨_, _, _, hv⟩
    · exact ⟨_, _, _, hv⟩
  have HG1 := Lib.hid hg1
  have HGR := Lib.hid hgrow
  have HVB := Lib.hid hvb
  have HOW := Lib.hid hown'
  have HB2 := Lib.hid hb2
  clear hg1 hgrow hvb hown' hb2 hown hbk
  go_wp2
  go_ret2
  refine ⟨rfl, ⟨.slice ao n' cap, ?_, ?_⟩, ?_, ?_⟩
  · have := HB2.out
    simp [World.setCell, Array.getElem?_modify, this]
  · have h := HOW.out
    rw [Lib.strCells_eq] at h
    have e : (l ++ s.data.toList).length = l.length + s.size := by rw [List.length_append]; rfl
    have e2 : Lib.byteCells (l ++ s.data.toList) = Lib.byteCells l ++ Lib.byteCells s.data.toList := by simp [Lib.byteCells]
    rw [e, e2]
    refine h.kept (row := some b) ⟨rfl, rfl, rfl, by simp [World.setCell], fun k _ hk => Below.heap_setCell _ _ _ _ (fun e => hk (by simp [e]))⟩ (.inr fun e => ?_)
    have := (h.lt b e).1
    omega
  · exact (((Below.refl b w).grown HG1.out (by omega) (fun k e => by cases e; exact Nat.le_refl _)).grown HGR.out (by have := HG1.out.size; omega) (fun k e => by have := HVB.out k e; omega)).setCell (p := ⟨b, 1, none⟩) (Nat.le_refl _) _
  · intro r hr hrb
    have z1 := HG1.out.size
    exact (Below.heap_setCell _ _ _ _ (by simpa using hrb)).trans ((HGR.out.block r (by omega) (fun e => by have := HVB.out r e.symm; omega)).trans (HG1.out.block r (by omega) (fun e => hrb (by cases e; rfl))))

theorem bldExtra : Builder.Extra Tryz.prog lays169_ren := { sizeBuilder := by kernel_rfl, liesBuilder := by kernel_rfl, t5 := Tryz.underlying5, a5 := Tryz.isAgg5, z5 := Tryz.sizeOf5, v5 := Tryz.zeroValue5, infoByte := by kernel_rfl, cellsByte := by kernel_rfl, sizeByte := by kernel_rfl, neB5 := by decide }


set_option maxRecDepth 100000 in
set_option maxHeartbeats 1000000 in
theorem string_some (base b : Nat) (p : Value) (l : List UInt8) (w : World) (h : BldO base b p l w) (h0 : l ≠ []) :
    Calls Tryz.prog 49 #[.pointer (some ⟨b, 0, none⟩)] w fun e w' => e = .returned (.string ⟨l.toArray⟩) ∧ Below base w w' := by
  obtain ⟨v, hbk, hown⟩ := h
  have hl0 : l.length ≠ 0 := by simpa using h0
  obtain ⟨g, cap, cur, rfl, hbg, hg, hnc, hcm, hcs, htake⟩ : ∃ g cap cur, v = .slice (some ⟨g, 0, none⟩) l.length cap ∧ base ≤ g ∧ w.heap[g]? = some (.cells cur 5 (0, 0)) ∧ l.length ≤ cap ∧ cap ≤ maxLen ∧ cur.size = cap * 1 ∧ cur.toList.take (l.length * 1) = Lib.byteCells l := by
    rcases hown.2 with ⟨_, hz⟩ | ⟨g, cap, cur, hv, r⟩
    · exact absurd hz hl0
    · exact ⟨g, cap, cur, hv, r⟩
  have c1 : w.drew.cell? ⟨b, 1, none⟩ = some (.slice (some ⟨g, 0, none⟩) l.length cap) := by
    have : w.drew.heap[b]? = some (.cells #[p, .slice (some ⟨g, 0, none⟩) l.length cap] 96 (0, 0)) := hbk
    rw [Lib.cell_of_heap this]; rfl
  have hSD : (Builtin.unsafeSliceData_ #[63] 130 #[.slice (some ⟨g, 0, none⟩) l.length cap]).run Tryz.prog w.drew = .ok (.pointer (some ⟨g, 0, none⟩)) w.drew :=
    Lib.run_unsafeSliceData_row _ _ _ _ _ _ (by omega)
  have hUS : (Builtin.unsafeString_ #[130, 3] 9 #[.pointer (some ⟨g, 0, none⟩), .int .i64 l.length]).run Tryz.prog w.drew = .ok (.string ⟨l.toArray⟩) (w.drew.freeze ⟨g, 0, none⟩ l.length) := by
    refine Lib.run_unsafeString_row w.drew 130 3 9 5 Tryz.underlying130 (by kernel_rfl) g cur.size (by have hg' : w.drew.heap[g]? = some (.cells cur 5 (0, 0)) := hg; simp [World.shape?, hg']) l h0 (by omega) (by unfold maxLen at hcm; omega) ?_
    intro j x hx
    have := hown.cells (g := g) rfl j (.int .u8 x.toNat) (by simp [Lib.byteCells, hx])
    exact this
  clear hbk hown htake hg hcs
  go_enter Tryz.func49, Tryz.ntmps49
  go_wp2
  go_region
  all_goals (go_wp2; go_ret; exact ⟨rfl, Lib.below_freeze (Below.drew (Below.refl base w)) (p := ⟨g, 0, none⟩) hbg _⟩)

theorem string_any (base b : Nat) (p : Value) (l : List UInt8) (w : World) (h : BldO base b p l w) :
    Calls Tryz.prog 49 #[.pointer (some ⟨b, 0, none⟩)] w fun e w' => e = .returned (.string ⟨l.toArray⟩) ∧ Below base w w' := by
  cases l with
  | cons x r => exact string_some base b p _ w h (by simp)
  | nil =>
    obtain ⟨v, hbk, hown⟩ := h
    rcases hown.2 with ⟨rfl, _⟩ | ⟨g, cap, cur, rfl, hbg, hg, _, _, _, _⟩
    · exact Any.Builder_String_nil lays169 bldExtra base b p w hbk
    · by_cases hc0 : cap = 0
      · subst hc0
        exact Any.Builder_String_noroom lays169 bldExtra base b g p cur w (Nat.le_of_lt (Nat.lt_of_le_of_lt hbg (Array.getElem?_eq_some_iff.1 hg).1)) hbk hg
      · exact Any.Builder_String_room lays169 bldExtra base b g cap p w hc0 hbk
end Go.Proofs.YtonafonhadocgaaGreatDoor

/- (*strings.Builder).WriteByte, at a builder that the call itself has made. -/
namespace Go.Proofs.YtonafonhadocgaaGreatDoor
open Go.RowKit Go.Shelf

theorem byteCells_eq (l : List UInt8) : Lib.byteCells l = bv l := by simp [Lib.byteCells, bv]

set_option maxRecDepth 100000 in
set_option maxHeartbeats 1000000 in
theorem write_byte (base b : Nat) (p : Value) (l : List UInt8) (c : UInt8) (w : World) (hp : p = .pointer none ∨ p = .pointer (some ⟨b, 0, none⟩)) (h : BldO base b p l w) (hb : b < base) (hbase : base ≤ w.heap.size) (hlen : l.length ≤ 1099511627774) :
    Calls Tryz.prog 48 #[.pointer (some ⟨b, 0, none⟩), .int .u8 (c.toNat : Int)] w fun e w' =>
      e = .returned .nilIface ∧ BldO base b (.pointer (some ⟨b, 0, none⟩)) (l ++ [c]) w' ∧ Below b w w' ∧ ∀ r, r < base → r ≠ b → w'.heap[r]? = w.heap[r]? := by
  obtain ⟨i0, hi, hz0, hz1, hz2⟩ := info_parts byteInfo
  have C : Calls Tryz.prog 72 #[.pointer (some ⟨b, 0, none⟩)] w fun e w' => e = .returned (.tuple #[]) ∧ BldO base b (.pointer (some ⟨b, 0, none⟩)) l w' ∧ w.grownBy w' (some b) := by
    have h0 := h
    obtain ⟨v, h1, h2⟩ := h
    rcases hp with rfl | rfl
    · refine (copyCheck_fresh b w ((Lib.cell_of_heap h1 0).trans rfl) (by simp [World.shape?, h1]) (Lib.frozen_of_heap h1 0)).mono ?_
      rintro e w' ⟨rfl, rfl⟩
      refine ⟨rfl, ⟨v, by simp [World.setCell, Array.getElem?_modify, h1], ?_⟩, grownBy_setCell' w b _⟩
      obtain ⟨v', h1', h2'⟩ := h0
      refine h2.kept (grownBy_setCell' w b _) (.inr fun e => ?_)
      rcases h2.2 with ⟨rfl, _⟩ | ⟨g, cap, cur, rfl, hb', _⟩
      · cases e
      · simp [Value.ownBlock] at e
        omega
    · refine (copyCheck_used b w ((Lib.cell_of_heap h1 0).trans rfl)).mono ?_
      rintro e w' ⟨rfl, rfl⟩
      exact ⟨rfl, h0, World.grownBy.refl w _⟩
  have HC := Lib.hid C
  clear C h
  go_enter Tryz.func48, Tryz.ntmps48
  go_wp2_with fail
  refine HC.out.mono ?_
  rintro e w1 ⟨rfl, ⟨v, hbk, hown0⟩, hg1⟩
  have hown : OwnV 5 w1 base v (bv l) := by
    unfold OwnV
    rw [bv_length, ← byteCells_eq]
    exact hown0
  have c0 : w1.cell? ⟨b, 0, none⟩ = some (.pointer (some ⟨b, 0, none⟩)) := by rw [Lib.cell_of_heap hbk]; rfl
  have c1 : w1.cell? ⟨b, 1, none⟩ = some v := by rw [Lib.cell_of_heap hbk]; rfl
  have hlt : b < w1.heap.size := (Array.getElem?_eq_some_iff.1 hbk).1
  have c1' : (w1.alloc (.cells #[.int .u8 (c.toNat : Int)] 5)).cell? ⟨b, 1, none⟩ = some v := cell_later ((Below.refl _ _).alloc (Nat.le_refl _) _) c1
  go_wp2_with (at_builtin; refine wpList_append_lit w1 (by rfl) (.tmp 11) (.tmp 13) 63 5 (by rfl) base i0 _ 1 Tryz.underlying63 hi hz0 hz1 hz2 rfl v (bv l) (by rfl) hown (bv [c]) 1 rfl (by rfl) (fun u hu => by obtain ⟨_, _, rfl⟩ := List.mem_map.1 hu; rfl) _ (by rfl) (by rw [bv_length]; omega) (by omega) (by have := hg1.size; omega) ?c9)
  case c9 =>
    intro v' w2 hown' hbel hgrow
    have hvb : ∀ r, v.ownBlock = some r → base ≤ r := fun r e => (hown.blk_lt e).1
    have hb2 : w2.heap[b]? = some (.cells #[.pointer (some ⟨b, 0, none⟩), v] 96 (0, 0)) := by
      rw [hgrow.block b (by simp; omega) (fun e => by have := hvb b e.symm; omega)]
      exact (Below.heap_alloc _ _ _ hlt).trans hbk
    have d0 : w2.cell? ⟨b, 0, none⟩ = some (.pointer (some ⟨b, 0, none⟩)) := by rw [Lib.cell_of_heap hb2]; rfl
    have d1 : w2.cell? ⟨b, 1, none⟩ = some v := by rw [Lib.cell_of_heap hb2]; rfl
    have f1 : w2.frozen? ⟨b, 1, none⟩ = false := Lib.frozen_of_heap hb2 1
    obtain ⟨ao, n', cap, rfl⟩ : ∃ ao n' cap, v' = .slice ao n' cap := by
      rcases hown'.2 with ⟨hv, _⟩ | ⟨g, cap, cur, hv, _⟩
      · exact ⟨_, _, _, hv⟩
      · exact ⟨_, _, _, hv⟩
    have HG1 := Lib.hid hg1
    have HBE := Lib.hid hbel
    have HOW := Lib.hid hown'
    have HB2 := Lib.hid hb2
    clear hg1 hgrow hvb hown' hb2 hown hown0 hbk hbel
    go_wp2
    go_ret
    refine ⟨rfl, ⟨.slice ao n' cap, ?_, ?_⟩, ?_, ?_⟩
    · have := HB2.out
      simp [World.setCell, Array.getElem?_modify, this]
    · have h := HOW.out
      unfold OwnV at h
      have e2 : Lib.byteCells (l ++ [c]) = bv l ++ bv [c] := by rw [byteCells_eq]; simp [bv]
      have e : (l ++ [c]).length = (bv l ++ bv [c]).length := by simp [bv]
      rw [e, e2]
      refine h.kept (row := some b) ⟨rfl, rfl, rfl, by simp [World.setCell], fun k _ hk => Below.heap_setCell _ _ _ _ (fun e => hk (by simp [e]))⟩ (.inr fun e => ?_)
      have := (h.lt b e).1
      omega
    · exact (((((Below.refl b w).grown HG1.out (by omega) (fun k e => by cases e; exact Nat.le_refl _)).alloc (by have := HG1.out.size; omega) _).trans (HBE.out.mono (by omega)))).setCell (p := ⟨b, 1, none⟩) (Nat.le_refl _) _
    · intro r hr hrb
      have z1 := HG1.out.size
      exact (Below.heap_setCell _ _ _ _ (by simpa using hrb)).trans ((HBE.out.block r hr).trans ((Below.heap_alloc _ _ _ (by omega)).trans (HG1.out.block r (by omega) (fun e => hrb (by cases e; rfl)))))
end Go.Proofs.YtonafonhadocgaaGreatDoor

/- text.Hex. -/
namespace Go.Proofs.YtonafonhadocgaaGreatDoor
open Go.RowKit Go.Shelf

theorem hexB_snoc (l : List UInt8) (c : UInt8) : hexB (l ++ [c]) = hexB l ++ [hxd (c.toNat / 16)] ++ [hxd (c.toNat % 16)] := by simp [hexB]

theorem hexs_at : ∀ k : Fin 16, ((⟨#[48, 49, 50, 51, 52, 53, 54, 55, 56, 57, 97, 98, 99, 100, 101, 102]⟩ : ByteArray)[k.val]'(k.isLt)) = hxd k.val := by decide +kernel
theorem hexs_at' (k : Nat) (h : k < 16) (hk : k < (⟨#[48, 49, 50, 51, 52, 53, 54, 55, 56, 57, 97, 98, 99, 100, 101, 102]⟩ : ByteArray).size) : ((⟨#[48, 49, 50, 51, 52, 53, 54, 55, 56, 57, 97, 98, 99, 100, 101, 102]⟩ : ByteArray)[k]'hk) = hxd k := hexs_at ⟨k, h⟩
theorem andLow : ∀ n : Nat, n < 256 → bits BinOp.and IntKind.u8 (n : Int) 15 = ((n % 16 : Nat) : Int) := by decide +kernel

set_option maxRecDepth 100000 in
set_option maxHeartbeats 4000000 in
theorem thex_any (A : Option Addr) (n c : Nat) (l : List UInt8) (w : World) (hr : Rd w A n c l) (hn : n ≤ 100000) :
    Calls Tryz.prog 27 #[.slice A n c] w fun e w' => e = .returned (.string ⟨(hexB l).toArray⟩) ∧ Below w.heap.size w w' := by
  have HR := Lib.hid hr
  have hl : l.length = n := hr.1
  have B0 := Lib.hid ((Below.refl _ w).alloc (Nat.le_refl _) (.cells #[.pointer none, .slice none 0 0] 96))
  have K0 := Lib.hid (BldO.fresh w (w.heap.size + 1))
  clear hr
  go_enter Tryz.func27, Tryz.ntmps27
  go_wp2_with fail
  go_loopw [8] (fun i wr => ∃ k : Nat, k ≤ n ∧ i = .int .i64 k ∧ Hid (∃ p, (p = .pointer none ∨ p = .pointer (some ⟨w.heap.size, 0, none⟩)) ∧ BldO (w.heap.size + 1) w.heap.size p (hexB (l.take k)) wr ∧ Below w.heap.size w wr)) (fun i _ => n - (intOf i).toNat)
  case atStart => exact ⟨0, by omega, rfl, Lib.hid ⟨_, .inl rfl, K0.out, B0.out⟩⟩
  case round =>
    clear K0 B0
    obtain ⟨k, hk, rfl, I⟩ := hrel
    by_cases hlt : k < n
    · obtain ⟨p, hp, hbk, hbw⟩ := I.out
      obtain ⟨b, off, rfl, hb, hc⟩ := HR.out.at_ (by omega)
      have q := hc k hlt
      have q' := cell_later hbw q
      obtain ⟨x, hx⟩ : ∃ x, x = l[k]?.getD 0 := ⟨_, rfl⟩
      have HT := Lib.hid (show l.take (k + 1) = l.take k ++ [x] by rw [List.take_add_one, List.getElem?_eq_getElem (by omega), hx, List.getElem?_eq_getElem (by omega)]; rfl)
      rw [← hx] at q'
      have HP := Lib.hid hp
      have HB := Lib.hid hbk
      have HW := Lib.hid hbw
      have hbw2 : w.heap.size + 1 ≤ wr.heap.size := (by obtain ⟨v, h1, _⟩ := hbk; have := (Array.getElem?_eq_some_iff.1 h1).1; omega)
      clear q hc hp hbk hbw hx I
      have hx256 := x.toNat_lt
      have h16 : x.toNat / 16 < 16 := by omega
      have hm16 : x.toNat % 16 < 16 := by omega
      have hq : 0 ≤ (x.toNat : Int) / 16 ∧ (x.toNat : Int) / 16 < 16 := by omega
      have hand := andLow x.toNat hx256
      have hqm : 0 ≤ ((x.toNat % 16 : Nat) : Int) ∧ ((x.toNat % 16 : Nat) : Int) < 16 := by omega
      have hT0 : (l.take k).length ≤ n := by rw [List.length_take]; omega
      have hLA : (hexB (l.take k)).length ≤ 200000 := by rw [hexB_len]; omega
      have hwb := hbw2
      clear hx256
      go_wp2_with fail
      rw [hexs_at' _ h16]
      refine (write_byte (w.heap.size + 1) w.heap.size p (hexB (l.take k)) (hxd (x.toNat / 16)) wr HP.out HB.out (by omega) hwb (by omega)).mono ?_
      rintro e w2 ⟨rfl, hb2, hbel, _⟩
      have HB2 := Lib.hid hb2
      have HW2 := Lib.hid (HW.out.trans hbel)
      have hwb2 : w.heap.size + 1 ≤ w2.heap.size := Nat.le_trans hwb hbel.size
      clear hb2 hbel hwb HB HW HP q'
      go_wp2_with fail
      rw [hexs_at' _ hm16]
      refine (write_byte (w.heap.size + 1) w.heap.size _ (hexB (l.take k) ++ [hxd (x.toNat / 16)]) (hxd (x.toNat % 16)) w2 (.inr rfl) HB2.out (by omega) hwb2 (by rw [List.length_append]; simp; omega)).mono ?_
      rintro e w3 ⟨rfl, hb3, hbel, _⟩
      have HB3 := Lib.hid hb3
      have HW3 := Lib.hid (HW2.out.trans hbel)
      clear hb3 hbel hwb2 HB2 HW2
      go_wp2_with fail
      go_roundw
      case rel => exact ⟨k + 1, by omega, by go_num, Lib.hid ⟨_, .inr rfl, by rw [HT.out, hexB_snoc]; exact HB3.out, HW3.out⟩⟩
      case measure => simp [intOf]; omega
    · obtain rfl : k = n := by omega
      obtain ⟨p, hp, hbk, hbw⟩ := I.out
      have HB := Lib.hid hbk
      have HW := Lib.hid hbw
      have HT := Lib.hid (show l.take k = l from List.take_of_length_le (by omega))
      clear I hp hbk hbw
      go_wp2_with fail
      refine (string_any (w.heap.size + 1) w.heap.size p (hexB (l.take k)) wr HB.out).mono ?_
      rintro e w4 ⟨rfl, hbel⟩
      have HW4 := Lib.hid (HW.out.trans (hbel.mono (by omega)))
      rw [HT.out]
      clear hbel HB HW
      go_wp2_with fail
      go_ret
      exact ⟨rfl, HW4.out⟩
end Go.Proofs.YtonafonhadocgaaGreatDoor

/- flow.KeyText. -/
namespace Go.Proofs.YtonafonhadocgaaGreatDoor
open Go.RowKit Go.Shelf

/-- A key's cells. -/
def keC (a b : En) (x : Nat) : Array Value := (enL a ++ enL b ++ [Value.int .u64 (x : Int)]).toArray
theorem keC_flow (a b : En) (x : Nat) : ((keC a b x).toList.drop 0).take (flC a b).toList.length = (flC a b).toList := by
  show (enL a ++ enL b ++ [Value.int .u64 (x : Int)]).take (enL a ++ enL b).length = enL a ++ enL b
  rw [List.take_left']
  rfl
theorem keC_xmit (a b : En) (x : Nat) (ha : a.2.1.length = 16) (hb : b.2.1.length = 16) : (keC a b x)[36]? = some (.int .u64 (x : Int)) := by
  rw [keC, List.getElem?_toArray, List.getElem?_append_right (by rw [List.length_append, enL_len a ha, enL_len b hb]; omega), List.length_append, enL_len a ha, enL_len b hb]
  rfl
theorem fl_info (a b : En) (ha : a.2.1.length = 16) (hb : b.2.1.length = 16) : (Tryz.prog.info? 30).map (·.size) = some (flC a b).toList.length := by
  rw [flSize, Array.length_toList, flC_size _ _ ha hb]
def keyV (a b : En) (x : Nat) : Value := if mayB a.1 a.2.1 && mayB b.1 b.2.1 then .tuple #[.string ⟨(keyT a b x).toArray⟩, .int .i64 0] else .tuple #[.string ⟨#[]⟩, .int .i64 2]
theorem key_cat (t u : List UInt8) : (⟨t.toArray⟩ : ByteArray) ++ ⟨#[32]⟩ ++ ⟨u.toArray⟩ = ⟨(t ++ 32 :: u).toArray⟩ := by
  rw [show (⟨#[32]⟩ : ByteArray) = ⟨([32] : List UInt8).toArray⟩ from rfl, ByteArray.mk_append_mk, ByteArray.mk_append_mk]
  simp
/-- The bytes after k rounds. -/
def bst (x k : Nat) : List UInt8 := (bytes8 x).take k ++ List.replicate (8 - k) 0
theorem bst_len (x k : Nat) (h : k ≤ 8) : (bst x k).length = 8 := by
  have : (bytes8 x).length = 8 := rfl
  simp [bst, this]; omega
theorem byte_at (x m : Nat) : IntKind.u8.wrap ((x : Int) / (m : Int)) = ((UInt8.ofNat (x / m % 256)).toNat : Int) := by
  rw [UInt8.toNat_ofNat']
  have : (x : Int) / (m : Int) = ((x / m : Nat) : Int) := rfl
  rw [this]
  simp [IntKind.wrap, IntKind.bits, IntKind.signed]

set_option maxRecDepth 100000 in
set_option maxHeartbeats 8000000 in
theorem ktext_any (a b : En) (x : Nat) (ha : a.2.1.length = 16) (hb : b.2.1.length = 16) (pa : a.2.2 < 65536) (pb : b.2.2 < 65536) (hx : x < 18446744073709551616) (w : World) (env : Env w) :
    Calls Tryz.prog 14 #[.agg (keC a b x)] w fun e w' => e = .returned (keyV a b x) ∧ Below w.heap.size w w' := by
  have K := Lib.hid (Blk.new w 36 (keC a b x))
  have B := Lib.hid ((Below.refl _ w).alloc (Nat.le_refl _) (.cells (keC a b x) 36))
  have E := Lib.hid env
  have HT := Lib.hid (fun W (e : Env W) => text_any a b ha hb pa pb W e)
  have HF := Lib.hid (keC_flow a b x)
  have HI := Lib.hid (fl_info a b ha hb)
  have HX := Lib.hid (keC_xmit a b x ha hb)
  have la := enT_len a ha pa
  have lb := enT_len b hb pb
  have lt : (flowT a b).length ≤ 300 := by unfold flowT; simp; omega
  have HV := Lib.hid (show flowV a b = if mayB a.1 a.2.1 && mayB b.1 b.2.1 then .tuple #[.string ⟨(flowT a b).toArray⟩, .int .i64 0] else .tuple #[.string ⟨#[]⟩, .int .i64 2] from rfl)
  have HW := Lib.hid (show keyV a b x = if mayB a.1 a.2.1 && mayB b.1 b.2.1 then .tuple #[.string ⟨(flowT a b ++ 32 :: hexB (bytes8 x)).toArray⟩, .int .i64 0] else .tuple #[.string ⟨#[]⟩, .int .i64 2] from rfl)
  have h16 : (hexB (bytes8 x)).length = 16 := by rw [hexB_len]; rfl
  clear env la lb
  generalize keC a b x = cs at *
  generalize flC a b = cf at *
  generalize flowV a b = fv at *
  generalize keyV a b x = kv at *
  generalize flowT a b = t at *
  generalize (mayB a.1 a.2.1 && mayB b.1 b.2.1) = m at *
  clear ha hb pa pb
  have hs1 : ¬ 9223372036854775807 < t.length + 1 := by omega
  have hs2 : ¬ 9223372036854775807 < t.length + 1 + (hexB (bytes8 x)).length := by omega
  have hs3 : ¬ 9223372036854775807 < t.length + 1 + 16 := by omega
  clear lt
  go_enter Tryz.func14, Tryz.ntmps14
  go_wp2_with (refine wpList_load_part 30 (.tmp 9) w.heap.size 0 36 cs cf.toList _ K.out HF.out (by rfl) (by rfl) Tryz.underlying30 rfl HI.out (by rfl) ?_)
  refine (HT.out _ (E.out.below B.out)).mono ?_
  rintro e w2 ⟨rfl, b⟩
  have B2 := Lib.hid (B.out.trans (b.mono B.out.size))
  have K2 := Lib.hid (K.out.keep b)
  clear b K B HT HF HI E
  cases m with
  | false =>
    obtain rfl := HV.out
    obtain rfl := HW.out
    go_wp2_with fail
    go_ret2
    exact ⟨rfl, B2.out⟩
  | true =>
    obtain rfl := HV.out
    obtain rfl := HW.out
    clear HV HW
    obtain ⟨i0, hi0, hz0, hz1, hz2⟩ := info_parts info_u8
    go_wp2_with (at_make; refine wpList_make_bytes _ rfl _ _ 63 rfl i0 Tryz.underlying63 hi0 hz0 hz1 hz2 _ _ _ _ 8 rfl rfl rfl rfl (by omega) ?_; intro w3 hown3 hb3 hz3)
    have I0 := Lib.hid (And.intro hown3 hb3)
    clear hown3 hb3 hz3
    go_loopw [20] (fun i wr => ∃ k : Nat, k ≤ 8 ∧ i = .int .i64 k ∧ Hid (Own wr w2.heap.size (.slice (some ⟨w2.heap.size, 0, none⟩) 8 8) (bst x k) ∧ Below w2.heap.size w2 wr)) (fun i _ => 8 - (intOf i).toNat)
    case atStart => exact ⟨0, by omega, rfl, I0⟩
    case round =>
      clear I0
      obtain ⟨k, hk, rfl, I⟩ := hrel
      by_cases hlt : k < 8
      · have q36 : wr.cell? ⟨w.heap.size, 36, none⟩ = some (.int .u64 (x : Int)) := by rw [(K2.out.keep I.out.2).cell]; exact HX.out
        have c1 := I.out.1.cellAt k hlt
        have c2 := I.out.1.frozenAt k
        clear hs1 hs2 hs3 h16
        have hkk : k = 0 ∨ k = 1 ∨ k = 2 ∨ k = 3 ∨ k = 4 ∨ k = 5 ∨ k = 6 ∨ k = 7 := by omega
        clear hk hlt
        rcases hkk with rfl | rfl | rfl | rfl | rfl | rfl | rfl | rfl

        · have hv : ((UInt8.ofNat (x / 72057594037927936 % 256)).toNat : Int) = (x : Int) / 72057594037927936 := by rw [UInt8.toNat_ofNat']; omega
          have HO := Lib.hid (I.out.1.stored 0 (UInt8.ofNat (x / 72057594037927936 % 256)))
          have HB := Lib.hid (I.out.2.setCell (p := ⟨w2.heap.size, 0, none⟩) (Nat.le_refl _) (.int .u8 ((UInt8.ofNat (x / 72057594037927936 % 256)).toNat : Int)))
          rw [show (bst x 0).set 0 (UInt8.ofNat (x / 72057594037927936 % 256)) = bst x (0 + 1) from rfl] at HO
          rw [hv] at HO HB
          clear I hv
          go_wp2
          go_roundw
          case rel => exact ⟨0 + 1, by omega, by go_num, Lib.hid ⟨HO.out, HB.out⟩⟩
          case measure => simp [intOf]

        · have hv : ((UInt8.ofNat (x / 281474976710656 % 256)).toNat : Int) = (x : Int) / 281474976710656 % 256 := by rw [UInt8.toNat_ofNat']; omega
          have HO := Lib.hid (I.out.1.stored 1 (UInt8.ofNat (x / 281474976710656 % 256)))
          have HB := Lib.hid (I.out.2.setCell (p := ⟨w2.heap.size, 1, none⟩) (Nat.le_refl _) (.int .u8 ((UInt8.ofNat (x / 281474976710656 % 256)).toNat : Int)))
          rw [show (bst x 1).set 1 (UInt8.ofNat (x / 281474976710656 % 256)) = bst x (1 + 1) from rfl] at HO
          rw [hv] at HO HB
          clear I hv
          go_wp2
          go_roundw
          case rel => exact ⟨1 + 1, by omega, by go_num, Lib.hid ⟨HO.out, HB.out⟩⟩
          case measure => simp [intOf]

        · have hv : ((UInt8.ofNat (x / 1099511627776 % 256)).toNat : Int) = (x : Int) / 1099511627776 % 256 := by rw [UInt8.toNat_ofNat']; omega
          have HO := Lib.hid (I.out.1.stored 2 (UInt8.ofNat (x / 1099511627776 % 256)))
          have HB := Lib.hid (I.out.2.setCell (p := ⟨w2.heap.size, 2, none⟩) (Nat.le_refl _) (.int .u8 ((UInt8.ofNat (x / 1099511627776 % 256)).toNat : Int)))
          rw [show (bst x 2).set 2 (UInt8.ofNat (x / 1099511627776 % 256)) = bst x (2 + 1) from rfl] at HO
          rw [hv] at HO HB
          clear I hv
          go_wp2
          go_roundw
          case rel => exact ⟨2 + 1, by omega, by go_num, Lib.hid ⟨HO.out, HB.out⟩⟩
          case measure => simp [intOf]

        · have hv : ((UInt8.ofNat (x / 4294967296 % 256)).toNat : Int) = (x : Int) / 4294967296 % 256 := by rw [UInt8.toNat_ofNat']; omega
          have HO := Lib.hid (I.out.1.stored 3 (UInt8.ofNat (x / 4294967296 % 256)))
          have HB := Lib.hid (I.out.2.setCell (p := ⟨w2.heap.size, 3, none⟩) (Nat.le_refl _) (.int .u8 ((UInt8.ofNat (x / 4294967296 % 256)).toNat : Int)))
          rw [show (bst x 3).set 3 (UInt8.ofNat (x / 4294967296 % 256)) = bst x (3 + 1) from rfl] at HO
          rw [hv] at HO HB
          clear I hv
          go_wp2
          go_roundw
          case rel => exact ⟨3 + 1, by omega, by go_num, Lib.hid ⟨HO.out, HB.out⟩⟩
          case measure => simp [intOf]

        · have hv : ((UInt8.ofNat (x / 16777216 % 256)).toNat : Int) = (x : Int) / 16777216 % 256 := by rw [UInt8.toNat_ofNat']; omega
          have HO := Lib.hid (I.out.1.stored 4 (UInt8.ofNat (x / 16777216 % 256)))
          have HB := Lib.hid (I.out.2.setCell (p := ⟨w2.heap.size, 4, none⟩) (Nat.le_refl _) (.int .u8 ((UInt8.ofNat (x / 16777216 % 256)).toNat : Int)))
          rw [show (bst x 4).set 4 (UInt8.ofNat (x / 16777216 % 256)) = bst x (4 + 1) from rfl] at HO
          rw [hv] at HO HB
          clear I hv
          go_wp2
          go_roundw
          case rel => exact ⟨4 + 1, by omega, by go_num, Lib.hid ⟨HO.out, HB.out⟩⟩
          case measure => simp [intOf]

        · have hv : ((UInt8.ofNat (x / 65536 % 256)).toNat : Int) = (x : Int) / 65536 % 256 := by rw [UInt8.toNat_ofNat']; omega
          have HO := Lib.hid (I.out.1.stored 5 (UInt8.ofNat (x / 65536 % 256)))
          have HB := Lib.hid (I.out.2.setCell (p := ⟨w2.heap.size, 5, none⟩) (Nat.le_refl _) (.int .u8 ((UInt8.ofNat (x / 65536 % 256)).toNat : Int)))
          rw [show (bst x 5).set 5 (UInt8.ofNat (x / 65536 % 256)) = bst x (5 + 1) from rfl] at HO
          rw [hv] at HO HB
          clear I hv
          go_wp2
          go_roundw
          case rel => exact ⟨5 + 1, by omega, by go_num, Lib.hid ⟨HO.out, HB.out⟩⟩
          case measure => simp [intOf]

        · have hv : ((UInt8.ofNat (x / 256 % 256)).toNat : Int) = (x : Int) / 256 % 256 := by rw [UInt8.toNat_ofNat']; omega
          have HO := Lib.hid (I.out.1.stored 6 (UInt8.ofNat (x / 256 % 256)))
          have HB := Lib.hid (I.out.2.setCell (p := ⟨w2.heap.size, 6, none⟩) (Nat.le_refl _) (.int .u8 ((UInt8.ofNat (x / 256 % 256)).toNat : Int)))
          rw [show (bst x 6).set 6 (UInt8.ofNat (x / 256 % 256)) = bst x (6 + 1) from rfl] at HO
          rw [hv] at HO HB
          clear I hv
          go_wp2
          go_roundw
          case rel => exact ⟨6 + 1, by omega, by go_num, Lib.hid ⟨HO.out, HB.out⟩⟩
          case measure => simp [intOf]

        · have hv : ((UInt8.ofNat (x / 1 % 256)).toNat : Int) = (x : Int) % 256 := by rw [UInt8.toNat_ofNat']; omega
          have HO := Lib.hid (I.out.1.stored 7 (UInt8.ofNat (x / 1 % 256)))
          have HB := Lib.hid (I.out.2.setCell (p := ⟨w2.heap.size, 7, none⟩) (Nat.le_refl _) (.int .u8 ((UInt8.ofNat (x / 1 % 256)).toNat : Int)))
          rw [show (bst x 7).set 7 (UInt8.ofNat (x / 1 % 256)) = bst x (7 + 1) from rfl] at HO
          rw [hv] at HO HB
          clear I hv
          go_wp2
          go_roundw
          case rel => exact ⟨7 + 1, by omega, by go_num, Lib.hid ⟨HO.out, HB.out⟩⟩
          case measure => simp [intOf]
      · obtain rfl : k = 8 := by omega
        have HR := Lib.hid I.out.1.rd
        have HB := Lib.hid (B2.out.trans (I.out.2.mono B2.out.size))
        rw [show bst x 8 = bytes8 x from rfl] at HR
        clear I
        go_wp2_with fail
        refine (thex_any _ 8 8 (bytes8 x) wr HR.out (by omega)).mono ?_
        rintro e w5 ⟨rfl, b5⟩
        have HB5 := Lib.hid (HB.out.trans (b5.mono HB.out.size))
        clear b5 HB HR
        go_wp2_with fail
        rw [key_cat]
        go_ret2
        exact ⟨rfl, HB5.out⟩
end Go.Proofs.YtonafonhadocgaaGreatDoor

/- slices.All over keys. -/
namespace Go.Proofs.YtonafonhadocgaaGreatDoor
open Go.RowKit Go.Shelf

/-- A key: its ends, its stamp. -/
abbrev Ky := (En × En) × Nat
structure KyOk (k : Ky) : Prop where
  la : k.1.1.2.1.length = 16
  lb : k.1.2.2.1.length = 16
  pa : k.1.1.2.2 < 65536
  pb : k.1.2.2.2 < 65536
  x : k.2 < 18446744073709551616
def kyC (k : Ky) : Array Value := keC k.1.1 k.1.2 k.2
theorem kyC_size {k : Ky} (h : KyOk k) : (kyC k).size = 37 := by simp [kyC, keC, enL_len _ h.la, enL_len _ h.lb]
theorem kySize : (Tryz.prog.info? 36).map (·.size) = some 37 := by kernel_rfl
theorem kyC_one (k : Ky) : (kyC k).toList.all (·.oneCell') = true := by
  show (enL k.1.1 ++ enL k.1.2 ++ [Value.int .u64 (k.2 : Int)]).all (·.oneCell') = true
  rw [List.all_append, List.all_append, enL_one, enL_one]
  rfl
abbrev zK : Ky := ((zE, zE), 0)
/-- A slice value '.slice A n c' reads as the keys ks. -/
def RdK (w : World) (A : Option Addr) (n c : Nat) (ks : List Ky) : Prop :=
  ks.length = n ∧ n ≤ c ∧ (0 < n → ∃ b off, A = some ⟨b, off, none⟩ ∧ b < w.heap.size ∧ ∀ j k, ks[j]? = some k → w.rangeAt b (off + j * 37) (kyC k).toList)
theorem RdK.keep {w w' : World} {A : Option Addr} {n c : Nat} {ks : List Ky} (h : RdK w A n c ks) (hb : ∀ b off, A = some ⟨b, off, none⟩ → w'.heap[b]? = w.heap[b]? ∧ (b < w.heap.size → b < w'.heap.size)) : RdK w' A n c ks := by
  refine ⟨h.1, h.2.1, fun hn => ?_⟩
  obtain ⟨b, off, rfl, hlt, hr⟩ := h.2.2 hn
  obtain ⟨h1, h2⟩ := hb b off rfl
  refine ⟨b, off, rfl, h2 hlt, fun j k hj i v hv => ?_⟩
  have := hr j k hj i v hv
  unfold World.cell? at this ⊢
  rw [h1]
  exact this
/-- The pairs that are handed out. -/
def iks (ks : List Ky) : List (Nat × Ky) := (List.range ks.length).map fun i => (i, ks[i]?.getD zK)
theorem iks_at {ks : List Ky} {i : Nat} {k : Ky} (h : ks[i]? = some k) : (iks ks)[i]? = some (i, k) := by
  have hi := (List.getElem?_eq_some_iff.1 h).1
  unfold iks
  rw [List.getElem?_map, List.getElem?_range hi, Option.map_some, h]
  rfl
theorem iks_len (ks : List Ky) : (iks ks).length = ks.length := by simp [iks]
theorem iks_split {ks : List Ky} {i : Nat} {k : Ky} (h : ks[i]? = some k) : iks ks = (iks ks).take i ++ (i, k) :: (iks ks).drop (i + 1) := by
  have h1 := iks_at h
  have hi := (List.getElem?_eq_some_iff.1 h1).1
  have h2 : (iks ks)[i] = (i, k) := by rw [List.getElem?_eq_getElem hi] at h1; injection h1
  rw [← h2, List.getElem_cons_drop, List.take_append_drop]
theorem iks_next {ks : List Ky} {i : Nat} {k : Ky} (h : ks[i]? = some k) : (iks ks).take (i + 1) = (iks ks).take i ++ [(i, k)] := by
  rw [List.take_add_one, iks_at h]
  rfl

theorem iks_mid {ks : List Ky} {pre rest : List (Nat × Ky)} {x : Nat × Ky} (h : iks ks = pre ++ x :: rest) : ks[pre.length]? = some x.2 ∧ x.1 = pre.length := by
  have hl := congrArg List.length h
  rw [iks_len, List.length_append, List.length_cons] at hl
  have hk : pre.length < ks.length := by omega
  have h1 : (iks ks)[pre.length]? = some x := by rw [h]; simp
  rw [iks_at (List.getElem?_eq_getElem hk)] at h1
  injection h1 with h1
  rw [← h1]
  exact ⟨List.getElem?_eq_getElem hk, rfl⟩
theorem iks_fst (ks : List Ky) : (iks ks).map (·.2.1) = ks.map (·.1) := by
  apply List.ext_getElem?
  intro i
  rw [List.getElem?_map, List.getElem?_map]
  cases h : ks[i]? with
  | none => rw [List.getElem?_eq_none (by rw [iks_len]; exact List.getElem?_eq_none_iff.1 h)]; rfl
  | some k => rw [iks_at h]; rfl
theorem grown_fresh {w w' : World} {o : Obj} (h : (w.alloc o).grownBy w' (some w.heap.size)) : w.grownBy w' none :=
  ⟨h.os, h.tape, h.output, by have := h.size; rw [World.size_alloc] at this; omega, fun k hk _ => (h.block k (by rw [World.size_alloc]; omega) (fun e => by injection e with e; omega)).trans (Below.heap_alloc _ _ _ hk)⟩

set_option maxRecDepth 100000 in
set_option maxHeartbeats 4000000 in
theorem all_seq (bs : Nat) (A : Option Addr) (n c : Nat) (ks : List Ky) (W : World) (hs : Blk W bs 56 #[.slice A n c]) (hlen : ks.length = n) (hok : ∀ k ∈ ks, KyOk k) (hn : n ≤ 1099511627776) :
    SeqXR Tryz.prog 53 #[.pointer (some ⟨bs, 0, none⟩)] (fun x : Nat × Ky => #[.int .i64 (x.1 : Int), .agg (kyC x.2)]) (iks ks) (fun r => r = bs) (fun W' => RdK W' A n c ks) W := by
  intro l J hJ hRR hY h0
  refine callsIn_of_wp Tryz.func53 rfl trivial ?_ rfl
  simp only [Tryz.ntmps53, List.size_toArray, List.length_cons, List.length_nil, Nat.reduceAdd, Nat.reduceSub, Array.replicate_succ, Array.replicate_zero, List.push_toArray, List.append_toArray, List.nil_append, List.cons_append]
  have q0 := hs.cell 0
  simp at q0
  have HS := Lib.hid hs
  have HOK := Lib.hid hok
  have HL := hlen
  clear hs hok hlen
  gi_wp2_with fail
  gi_loopw [7] (fun v wr => ∃ k : Nat, k ≤ n ∧ v = .int .i64 k ∧ Hid (J ((iks ks).take k) wr ∧ Blk wr bs 56 #[.slice A n c])) (fun i _ => n - (intOf i).toNat)
  case atStart => exact ⟨0, by omega, rfl, Lib.hid ⟨h0, HS.out⟩⟩
  case round =>
    clear q0
    obtain ⟨k, hk, rfl, I⟩ := hrel
    by_cases hlt : k < n
    · obtain ⟨x, hx⟩ : ∃ x, ks[k]? = some x := ⟨ks[k]'(by omega), List.getElem?_eq_getElem (by omega)⟩
      have hxo := HOK.out x (List.mem_of_getElem? hx)
      obtain ⟨b, off, hA, hbl, hrow⟩ := (hRR _ _ I.out.1).2.2 (by omega)
      subst hA
      have HRW := Lib.hid (hrow k x hx)
      have HXI := Lib.hid (show (Tryz.prog.info? 36).map (·.size) = some (kyC x).toList.length by rw [kySize, Array.length_toList, kyC_size hxo])
      clear hrow
      have HSZ := Lib.hid (show (Tryz.prog.info? 36).map (·.size) = some (kyC x).size by rw [kySize, kyC_size hxo])
      have HEQ := Lib.hid (show (kyC zK).size = (kyC x).size by rw [kyC_size hxo]; rfl)
      have HSP := Lib.hid (iks_split hx)
      have HNX := Lib.hid (iks_next hx)
      have hbs := I.out.2.lt
      clear hx hxo
      gi_wp2_with (first
        | ((with_reducible refine at_loadIn 36 (.tmp 10) ?_); refine wpListIn_load_rng 36 (.tmp 10) b (off + k * 37) (kyC x).toList _ HRW.out (by rfl) (by rfl) Tryz.underlying36 rfl HXI.out (by rfl) ?_)
        | ((with_reducible refine at_storeIn 36 (.tmp 4) (.tmp 11) ?_); refine wpListIn_store_blk 36 (.tmp 4) (.tmp 11) wr.heap.size 36 (kyC zK) (kyC x) (Blk.new wr 36 (kyC zK)) (by rfl) (by rfl) (by rfl) (by rfl) HSZ.out HEQ.out (kyC_one x) (by rfl) ?_; intro w2 hk2 hg2 hz2; have K4 := Lib.hid hk2.whole; obtain ⟨fn, tmps, assign, body, hy, hR⟩ := hY ((iks ks).take k) (k, x) ((iks ks).drop (k + 1)) w2 HSP.out (hJ _ _ _ none I.out.1 (grown_fresh hg2) (fun r e => by cases e)) (fun r hr => by have hs2 := hz2; rw [World.size_alloc] at hs2; omega); have HK2 := Lib.hid ((grown_fresh hg2).block bs hbs (by simp)); clear hk2 hg2 hz2)
        | ((with_reducible refine at_loadIn 36 (.tmp 4) ?_); refine wpListIn_load_rng 36 (.tmp 4) wr.heap.size 0 (kyC x).toList _ K4.out (by rfl) (by rfl) Tryz.underlying36 rfl HXI.out (by rfl) ?_))
      refine ⟨rfl, hR.mono ?_⟩
      rintro e B ⟨rfl, hJ2, hsz, hk2⟩
      have HJ2 := Lib.hid hJ2
      have HB := Lib.hid (show Blk B bs 56 #[.slice (some ⟨b, off, none⟩) n c] from ((hk2 bs rfl).trans HK2.out).trans I.out.2)
      clear hJ2 hk2 hR hy I HRW HSP K4 hsz
      gi_wp2_with fail
      go_roundw
      case rel => exact ⟨k + 1, by omega, by go_num, Lib.hid ⟨by rw [HNX.out]; exact HJ2.out, HB.out⟩⟩
      case measure => simp [intOf]; omega
    · obtain rfl : k = n := by omega
      have HJ := Lib.hid (show J (iks ks) wr by
        have h := I.out.1
        rwa [List.take_of_length_le (by rw [iks_len]; omega)] at h)
      clear I
      gi_wp2_with fail
      go_end0
      exact ⟨⟨_, rfl⟩, HJ.out⟩

theorem all_make (A : Option Addr) (n c : Nat) (w : World) :
    Calls Tryz.prog 33 #[.slice A n c] w fun e w' => e = .returned (.func (.func 53) #[] #[.pointer (some ⟨w.heap.size, 0, none⟩)]) ∧ w.alloc (.cells #[.slice A n c] 56) = w' := by
  go_enter Tryz.func33, Tryz.ntmps33
  go_wp2
  go_ret
  exact ⟨rfl, rfl⟩
end Go.Proofs.YtonafonhadocgaaGreatDoor

/- Groups of what is the same, in the order of the first ones: plain. -/
namespace Go.Proofs.YtonafonhadocgaaGreatDoor
open Go.RowKit

/-- An induction from behind. -/
theorem snoc_ind {F : Type} {P : List F → Prop} (h0 : P []) (h1 : ∀ l x, P l → P (l ++ [x])) : ∀ l, P l := by
  intro l
  have : ∀ r : List F, P r.reverse := fun r => by
    induction r with
    | nil => exact h0
    | cons x r ih => rw [List.reverse_cons]; exact h1 _ _ ih
  rw [← List.reverse_reverse l]
  exact this _

section
variable {F : Type} [DecidableEq F]
/-- Each once, in the order of the first ones. -/
def dd (l : List F) : List F := l.foldl (fun acc x => if x ∈ acc then acc else acc ++ [x]) []
/-- The places of f. -/
def pos (l : List F) (f : F) : List Nat := (List.range l.length).filter fun k => decide (l[k]? = some f)
def grpL (l : List F) : List (List Nat) := (dd l).map (pos l)
theorem dd_snoc (l : List F) (x : F) : dd (l ++ [x]) = if x ∈ dd l then dd l else dd l ++ [x] := by
  unfold dd
  rw [List.foldl_append]
  rfl
theorem mem_dd (x : F) (l : List F) : x ∈ dd l ↔ x ∈ l := by
  refine snoc_ind (P := fun l => x ∈ dd l ↔ x ∈ l) ?_ ?_ l
  · rfl
  · intro l y ih
    rw [dd_snoc]
    split
    · rename_i hy
      rw [ih, List.mem_append, List.mem_singleton]
      constructor
      · exact .inl
      · rintro (h | rfl)
        · exact h
        · exact ih.1 hy
    · rw [List.mem_append, List.mem_append, ih]
theorem nodup_dd (l : List F) : (dd l).Nodup := by
  refine snoc_ind (P := fun l => (dd l).Nodup) ?_ ?_ l
  · exact List.nodup_nil
  · intro l y ih
    rw [dd_snoc]
    split
    · exact ih
    · rename_i hy
      refine List.nodup_append.2 ⟨ih, by simp, ?_⟩
      intro a ha b hb e
      rw [List.mem_singleton] at hb
      subst hb e
      exact hy ha
theorem dd_len (l : List F) : (dd l).length ≤ l.length := by
  refine snoc_ind (P := fun l => (dd l).length ≤ l.length) (Nat.le_refl _) ?_ l
  intro l y ih
  rw [dd_snoc, List.length_append]
  split
  · simp; omega
  · rw [List.length_append]
    simp
    omega
theorem pos_snoc (l : List F) (x f : F) : pos (l ++ [x]) f = pos l f ++ (if x = f then [l.length] else []) := by
  unfold pos
  rw [List.length_append, List.length_singleton, List.range_succ, List.filter_append]
  congr 1
  · apply List.filter_congr
    intro k hk
    rw [List.mem_range] at hk
    rw [List.getElem?_append_left hk]
  · have h : (l ++ [x])[l.length]? = some x := by simp
    by_cases e : x = f
    · rw [if_pos e, List.filter_cons_of_pos]
      · rfl
      · rw [h, e]
        exact decide_eq_true rfl
    · rw [if_neg e, List.filter_cons_of_neg]
      · rfl
      · rw [h]
        simp [e]
theorem pos_nil {l : List F} {f : F} (h : f ∉ l) : pos l f = [] := by
  unfold pos
  rw [List.filter_eq_nil_iff]
  intro k _ hk
  exact h (List.mem_of_getElem? (of_decide_eq_true hk))
theorem grpL_len (l : List F) : (grpL l).length = (dd l).length := List.length_map _
theorem grpL_new {l : List F} {x : F} (h : x ∉ dd l) : grpL (l ++ [x]) = grpL l ++ [[l.length]] := by
  unfold grpL
  rw [dd_snoc, if_neg h, List.map_append]
  congr 1
  · apply List.map_congr_left
    intro f hf
    rw [pos_snoc, if_neg (fun e => h (by rw [e]; exact hf)), List.append_nil]
  · rw [List.map_singleton, pos_snoc, if_pos rfl, pos_nil (fun hm => h ((mem_dd x l).2 hm))]
    rfl
theorem grpL_old {l : List F} {x : F} {j : Nat} (h : (dd l)[j]? = some x) : grpL (l ++ [x]) = (grpL l).set j (pos l x ++ [l.length]) := by
  unfold grpL
  rw [dd_snoc, if_pos (List.mem_of_getElem? h)]
  have hj := (List.getElem?_eq_some_iff.1 h).1
  apply List.ext_getElem?
  intro i
  rw [List.getElem?_map, List.getElem?_set]
  by_cases e : j = i
  · subst e
    rw [if_pos rfl, List.length_map, if_pos hj, h]
    show some _ = some _
    rw [pos_snoc, if_pos rfl]
  · rw [if_neg e, List.getElem?_map]
    cases hi : (dd l)[i]? with
    | none => rfl
    | some f =>
      have hne : x ≠ f := fun he => by
        rw [he] at h
        have h1 := List.getElem?_eq_some_iff.1 h
        have h2 := List.getElem?_eq_some_iff.1 hi
        have hp := List.pairwise_iff_getElem.1 (nodup_dd l)
        rcases Nat.lt_trichotomy j i with hlt | he2 | hgt
        · exact hp j i h1.1 h2.1 hlt (h1.2.trans h2.2.symm)
        · exact e he2
        · exact hp i j h2.1 h1.1 hgt (h2.2.trans h1.2.symm)
      show some _ = some _
      rw [pos_snoc, if_neg hne, List.append_nil]
theorem grpL_at {l : List F} {x : F} {j : Nat} (h : (dd l)[j]? = some x) : (grpL l)[j]? = some (pos l x) := by
  rw [grpL, List.getElem?_map, h]
  rfl
/-- The number that the map holds for f: its group's place, and one; 0: none. -/
def gnum (l : List F) (f : F) : Nat := if f ∈ dd l then (dd l).idxOf f + 1 else 0
theorem gnum_zero {l : List F} {f : F} : gnum l f = 0 ↔ f ∉ dd l := by
  unfold gnum
  split <;> simp [*]
theorem gnum_some {l : List F} {f : F} (h : gnum l f ≠ 0) : (dd l)[gnum l f - 1]? = some f := by
  unfold gnum at *
  split at h
  · rename_i hf
    rw [if_pos hf, Nat.add_sub_cancel, List.getElem?_eq_getElem (List.idxOf_lt_length_iff.2 hf), List.getElem_idxOf]
  · exact absurd rfl h
theorem gnum_old {l : List F} {x : F} (h : x ∈ dd l) (f : F) : gnum (l ++ [x]) f = gnum l f := by
  unfold gnum
  rw [dd_snoc, if_pos h]
theorem gnum_new {l : List F} {x : F} (h : x ∉ dd l) (f : F) : gnum (l ++ [x]) f = if f = x then (dd l).length + 1 else gnum l f := by
  unfold gnum
  rw [dd_snoc, if_neg h]
  by_cases e : f = x
  · rw [if_pos e, e, if_pos (by simp), List.idxOf_append, if_neg h]
    simp
  · rw [if_neg e]
    by_cases hf : f ∈ dd l
    · rw [if_pos hf, if_pos (by simp [hf]), List.idxOf_append, if_pos hf]
    · rw [if_neg hf, if_neg (by simp [hf, e])]
end
end Go.Proofs.YtonafonhadocgaaGreatDoor

/- Groups: each place in one of them; the first places rise: plain. -/
namespace Go.Proofs.YtonafonhadocgaaGreatDoor
open Go.RowKit

theorem take_snocF {F : Type} {l : List F} {i : Nat} {x : F} (h : l[i]? = some x) : l.take (i + 1) = l.take i ++ [x] := by
  rw [List.take_add_one, h]
  rfl

section
variable {F : Type} [DecidableEq F]
theorem mem_pos {l : List F} {f : F} {k : Nat} : k ∈ pos l f ↔ l[k]? = some f := by
  unfold pos
  rw [List.mem_filter, List.mem_range]
  constructor
  · exact fun h => of_decide_eq_true h.2
  · exact fun h => ⟨(List.getElem?_eq_some_iff.1 h).1, decide_eq_true h⟩
theorem pos_ne {l : List F} {f : F} (h : f ∈ l) : pos l f ≠ [] := by
  obtain ⟨k, hk⟩ := List.getElem?_of_mem h
  intro e
  have := mem_pos.2 hk
  rw [e] at this
  cases this
theorem pos_rise (l : List F) (f : F) : (pos l f).Pairwise (· < ·) := List.Pairwise.filter _ List.pairwise_lt_range
/-- The first place of f. -/
def head0 (l : List F) (f : F) : Nat := (pos l f).headD 0
theorem head_at {l : List F} {f : F} (h : f ∈ l) : l[head0 l f]? = some f ∧ (pos l f)[0]? = some (head0 l f) := by
  have hne := pos_ne h
  unfold head0
  cases hp : pos l f with
  | nil => exact absurd hp hne
  | cons a r =>
    refine ⟨?_, rfl⟩
    exact mem_pos.1 (by rw [hp]; exact List.mem_cons_self)
theorem head_snoc {l : List F} {f : F} (h : f ∈ l) (x : F) : head0 (l ++ [x]) f = head0 l f := by
  have hne := pos_ne h
  unfold head0
  rw [pos_snoc]
  cases hp : pos l f with
  | nil => exact absurd hp hne
  | cons a r => rfl
theorem head_new {l : List F} {x : F} (h : x ∉ l) : head0 (l ++ [x]) x = l.length := by
  unfold head0
  rw [pos_snoc, pos_nil h, if_pos rfl]
  rfl
theorem heads_rise (l : List F) : (dd l).Pairwise fun f g => head0 l f < head0 l g := by
  refine snoc_ind (P := fun l => (dd l).Pairwise fun f g => head0 l f < head0 l g) ?_ ?_ l
  · exact List.Pairwise.nil
  · intro l x ih
    have ih' : (dd l).Pairwise fun f g => head0 (l ++ [x]) f < head0 (l ++ [x]) g :=
      ih.imp_of_mem fun hf hg h => by rwa [head_snoc ((mem_dd _ l).1 hf), head_snoc ((mem_dd _ l).1 hg)]
    rw [dd_snoc]
    split
    · exact ih'
    · rename_i hx
      refine List.pairwise_append.2 ⟨ih', List.pairwise_singleton _ _, fun f hf g hg => ?_⟩
      rw [List.mem_singleton] at hg
      subst hg
      have hfl := (mem_dd f l).1 hf
      rw [head_snoc hfl, head_new (fun h => hx ((mem_dd _ l).2 h))]
      exact (List.getElem?_eq_some_iff.1 (head_at hfl).1).1

/-! ### the reference: group by group -/
/-- Is there none that is the same ahead of place i? -/
def isFirst (l : List F) (i : Nat) : Bool := decide (∀ k, k < i → l[k]? ≠ l[i]?)
theorem first_dd {l : List F} {i : Nat} {x : F} (h : l[i]? = some x) : isFirst l i = true ↔ x ∉ dd (l.take i) := by
  have hi := (List.getElem?_eq_some_iff.1 h).1
  unfold isFirst
  rw [decide_eq_true_iff, mem_dd]
  constructor
  · intro hf hm
    obtain ⟨k, hk⟩ := List.getElem?_of_mem hm
    rw [List.getElem?_take] at hk
    split at hk
    · rename_i hki
      exact hf k hki (hk.trans h.symm)
    · cases hk
  · intro hm k hk e
    refine hm (List.mem_of_getElem? (i := k) ?_)
    rw [List.getElem?_take, if_pos hk, e, h]
/-- The reference's groups before place i. -/
def rgrp (l : List F) (i : Nat) : List (List Nat) := (dd (l.take i)).map (pos l)
theorem rgrp_all (l : List F) : rgrp l l.length = grpL l := by rw [rgrp, List.take_length, grpL]
theorem rgrp_old {l : List F} {i : Nat} {x : F} (h : l[i]? = some x) (hf : isFirst l i = false) : rgrp l (i + 1) = rgrp l i := by
  have hx : x ∈ dd (l.take i) := Classical.byContradiction fun hn => by
    rw [(first_dd h).2 hn] at hf
    cases hf
  rw [rgrp, rgrp, take_snocF h, dd_snoc, if_pos hx]
theorem rgrp_new {l : List F} {i : Nat} {x : F} (h : l[i]? = some x) (hf : isFirst l i = true) : rgrp l (i + 1) = rgrp l i ++ [pos l x] := by
  have hx := (first_dd h).1 hf
  rw [rgrp, rgrp, take_snocF h, dd_snoc, if_neg hx, List.map_append]
  rfl
/-- The places of x from i on, up to k: what the reference's inner loop has collected. -/
def rpos (l : List F) (x : F) (i k : Nat) : List Nat := (List.range k).filter fun j => decide (i ≤ j) && decide (l[j]? = some x)
theorem rpos_start (l : List F) (x : F) (i : Nat) : rpos l x i i = [] := by
  unfold rpos
  rw [List.filter_eq_nil_iff]
  intro j hj
  rw [List.mem_range] at hj
  simp
  omega
theorem rpos_snoc {l : List F} {x : F} {i k : Nat} (h : i ≤ k) : rpos l x i (k + 1) = rpos l x i k ++ if l[k]? = some x then [k] else [] := by
  unfold rpos
  rw [List.range_succ, List.filter_append]
  congr 1
  by_cases e : l[k]? = some x
  · rw [if_pos e, List.filter_cons_of_pos (by simp [h, e])]
    rfl
  · rw [if_neg e, List.filter_cons_of_neg (by simp [e])]
    rfl
theorem rpos_all {l : List F} {i : Nat} {x : F} (h : l[i]? = some x) (hf : isFirst l i = true) : rpos l x i l.length = pos l x := by
  unfold rpos pos
  apply List.filter_congr
  intro j _
  by_cases e : l[j]? = some x
  · have hij : i ≤ j := by
      rcases Nat.lt_or_ge j i with hlt | hge
      · exact absurd (e.trans h.symm) (of_decide_eq_true hf j hlt)
      · exact hge
    simp [e, hij]
  · simp [e]
end
end Go.Proofs.YtonafonhadocgaaGreatDoor

/- The state of flow.Groups: a row of rows of numbers, a map from flows to their places. Plain laws. -/
namespace Go.Proofs.YtonafonhadocgaaGreatDoor
open Go.RowKit Go.Shelf

/-- Places as cells. -/
def ints (l : List Nat) : List Value := l.map fun i : Nat => Value.int .i64 (i : Int)
theorem ints_len (l : List Nat) : (ints l).length = l.length := by simp [ints]
abbrev nilS : Value := .slice none 0 0

theorem info_int : (Tryz.prog.info? 3).map (fun i => (i.zero, i.size, i.bytes)) = some (some (.int .i64 0), 1, 8) := by kernel_rfl
theorem info_ints : (Tryz.prog.info? 57).map (fun i => (i.zero, i.size, i.bytes)) = some (some nilS, 1, 24) := by kernel_rfl
theorem pos_len {F : Type} [DecidableEq F] (l : List F) (f : F) : (pos l f).length ≤ l.length := by
  have h := List.length_filter_le (fun k => decide (l[k]? = some f)) (List.range l.length)
  rw [List.length_range] at h
  exact h

structure GSt (bo bm M base cnt : Nat) (v : Value) (vs : List Value) (gs : List (List Nat)) (D : DataW Unit) (W : World) : Prop where
  out : Blk W bo 54 #[v]
  of_ : Blk W bm 76 #[.map (some M)]
  own : OwnV 57 W base v vs
  len : vs.length = gs.length
  rows : ∀ (j : Nat) (g : List Nat), gs[j]? = some g → ∃ u, vs[j]? = some u ∧ OwnV 3 W base u (ints g)
  apart : ∀ (i j : Nat) (u u' : Value), i ≠ j → vs[i]? = some u → vs[j]? = some u' → ∀ b, u.ownBlock = some b → u'.ownBlock ≠ some b
  map : W.ownsMap Tryz.prog 30 (plainElem Tryz.prog 3) M cnt D

theorem OwnV.blk {T : TypeId} {w : World} {base b : Nat} {v : Value} {xs : List Value} (h : OwnV T w base v xs) (hb : v.ownBlock = some b) : ∃ cur, w.heap[b]? = some (.cells cur T (0, 0)) := by
  rcases h.2 with ⟨rfl, _⟩ | ⟨g, cap, cur, rfl, _, hg, _⟩
  · cases hb
  · injection hb with hb
    subst hb
    exact ⟨cur, hg⟩
/-- Rows of different elements lie in different blocks. -/
theorem OwnV.differ {T T' : TypeId} {w : World} {base base' b : Nat} {v v' : Value} {xs xs' : List Value} (hT : T ≠ T') (h : OwnV T w base v xs) (h' : OwnV T' w base' v' xs') (hb : v.ownBlock = some b) : v'.ownBlock ≠ some b := fun hb' => by
  obtain ⟨c, hc⟩ := h.blk hb
  obtain ⟨c', hc'⟩ := h'.blk hb'
  rw [hc] at hc'
  injection hc' with e
  injection e with _ e _
  exact hT e

section
variable {bo bm M base cnt : Nat} {v : Value} {vs : List Value} {gs : List (List Nat)} {D : DataW Unit} {W W' : World}
theorem GSt.kept (h : GSt bo bm M base cnt v vs gs D W) {row : Option Nat} (hg : W.grownBy W' row) (h1 : some bo ≠ row) (h2 : some bm ≠ row) (h3 : some M ≠ row) (h4 : ∀ r, row = some r → r < base) : GSt bo bm M base cnt v vs gs D W' := by
  have no : ∀ {T : TypeId} {u : Value} {xs : List Value}, OwnV T W base u xs → ∀ g, u.ownBlock = some g → some g ≠ row := fun ho g hb e => by
    have := (ho.blk_lt hb).1
    have := h4 g e.symm
    omega
  refine ⟨h.out.grown hg h1, h.of_.grown hg h2, h.own.grown hg (no h.own), h.len, fun j g hj => ?_, h.apart, h.map.kept hg h3⟩
  obtain ⟨u, hu, ho⟩ := h.rows j g hj
  exact ⟨u, hu, ho.grown hg (no ho)⟩
theorem GSt.upto (h : GSt bo bm M base cnt v vs gs D W) {cnt' : Nat} (hc : cnt ≤ cnt') : GSt bo bm M base cnt' v vs gs D W := ⟨h.out, h.of_, h.own, h.len, h.rows, h.apart, h.map.mono hc⟩
theorem GSt.drew (h : GSt bo bm M base cnt v vs gs D W) : GSt bo bm M base cnt v vs gs D W.drew := ⟨h.out, h.of_, h.own, h.len, h.rows, h.apart, h.map⟩
/-- One row more, which is nil: the new head in its variable. -/
theorem GSt.more (h : GSt bo bm M base cnt v vs gs D W) (hbo : bo < base) (hbm : bm < base) (hM : M < base) {v' : Value} {W2 W3 : World} (ho : OwnV 57 W2 base v' (vs ++ [nilS])) (hg : W.grownBy W2 v.ownBlock) (hs : Blk W3 bo 54 #[v']) (hg3 : W2.grownBy W3 (some bo))
    (hne : bm ≠ bo) (hne2 : M ≠ bo) : GSt bo bm M base cnt v' (vs ++ [nilS]) (gs ++ [[]]) D W3 := by
  have low : ∀ k, k < base → some k ≠ v.ownBlock := fun k hk e => by have := (h.own.blk_lt e.symm).1; omega
  have hi : ∀ {T : TypeId} {w : World} {u : Value} {xs : List Value}, OwnV T w base u xs → ∀ g, u.ownBlock = some g → some g ≠ some bo := fun ho g hb e => by
    have := (ho.blk_lt hb).1
    injection e with e
    omega
  have hl : (vs ++ [nilS]).length = (gs ++ [[]]).length := by rw [List.length_append, List.length_append, h.len]; rfl
  refine ⟨hs, (h.of_.grown hg (low bm hbm)).grown hg3 (fun e => by injection e with e; exact hne e), ho.grown hg3 (hi ho), hl, fun j g hj => ?_, fun i j u u' hij hi2 hj2 b hb => ?_, (h.map.kept hg (low M hM)).kept hg3 (fun e => by injection e with e; exact hne2 e)⟩
  · by_cases hjl : j < gs.length
    · rw [List.getElem?_append_left hjl] at hj
      obtain ⟨u, hu, ho2⟩ := h.rows j g hj
      have ho3 : OwnV 3 W2 base u (ints g) := ho2.grown hg (fun b hb e => h.own.differ (by decide) ho2 e.symm hb)
      exact ⟨u, by rw [List.getElem?_append_left (by rw [h.len]; exact hjl)]; exact hu, ho3.grown hg3 (hi ho3)⟩
    · have hj' : j = gs.length := by
        have := (List.getElem?_eq_some_iff.1 hj).1
        rw [List.length_append] at this
        simp at this
        omega
      subst hj'
      rw [List.getElem?_append_right (Nat.le_refl _), Nat.sub_self] at hj
      injection hj with hj
      subst hj
      exact ⟨nilS, by rw [← h.len, List.getElem?_append_right (Nat.le_refl _), Nat.sub_self]; rfl, OwnV.nil _ _⟩
  · by_cases hil : i < vs.length
    · rw [List.getElem?_append_left hil] at hi2
      by_cases hjl : j < vs.length
      · rw [List.getElem?_append_left hjl] at hj2
        exact h.apart i j u u' hij hi2 hj2 b hb
      · rw [List.getElem?_append_right (by omega)] at hj2
        have : u' = nilS := by
          cases hk : j - vs.length with
          | zero => rw [hk] at hj2; injection hj2 with e; exact e.symm
          | succ k => rw [hk] at hj2; cases hj2
        rw [this]
        intro e
        cases e
    · rw [List.getElem?_append_right (by omega)] at hi2
      have : u = nilS := by
        cases hk : i - vs.length with
        | zero => rw [hk] at hi2; injection hi2 with e; exact e.symm
        | succ k => rw [hk] at hi2; cases hi2
      rw [this] at hb
      cases hb
/-- The map holds one more. -/
theorem GSt.put (h : GSt bo bm M base cnt v vs gs D W) (hbo : bo ≠ M) (hbm : bm ≠ M) (hM : M < base) {D' : DataW Unit} {cnt' : Nat} (hg : W.grownBy W' (some M)) (hm : W'.ownsMap Tryz.prog 30 (plainElem Tryz.prog 3) M cnt' D') : GSt bo bm M base cnt' v vs gs D' W' := by
  have no : ∀ {T : TypeId} {u : Value} {xs : List Value}, OwnV T W base u xs → ∀ g, u.ownBlock = some g → some g ≠ some M := fun ho g hb e => by
    have := (ho.blk_lt hb).1
    injection e with e
    omega
  refine ⟨h.out.grown hg (fun e => by injection e with e; exact hbo e), h.of_.grown hg (fun e => by injection e with e; exact hbm e), h.own.grown hg (no h.own), h.len, fun j g hj => ?_, h.apart, hm⟩
  obtain ⟨u, hu, ho⟩ := h.rows j g hj
  exact ⟨u, hu, ho.grown hg (no ho)⟩
/-- A row of one-cell elements that are stored into. -/
theorem OwnV.stored {T : TypeId} {w : World} {g n c : Nat} {xs : List Value} (h : OwnV T w base (.slice (some ⟨g, 0, none⟩) n c) xs) (j : Nat) (_hj : j < xs.length) (u : Value) : OwnV T (w.setCell ⟨g, j, none⟩ u) base (.slice (some ⟨g, 0, none⟩) n c) (xs.set j u) := by
  rcases h.2 with ⟨hv, _⟩ | ⟨g', cap, cur, hv, hb, hg, hnc, hcm, hcs, ht⟩
  · cases hv
  · injection hv with e1 e2 e3
    injection e1 with e1
    injection e1 with e1
    subst e1 e2 e3
    refine ⟨by simp, .inr ⟨g, c, cur.setIfInBounds j u, by rw [List.length_set], hb, ?_, by rw [List.length_set]; exact hnc, hcm, by simp [hcs], ?_⟩⟩
    · simp [World.setCell, Array.getElem?_modify, hg]
    · rw [Nat.mul_one] at ht
      rw [List.length_set, Nat.mul_one, Array.toList_setIfInBounds, List.take_set, ht]
/-- A number more in row j. -/
theorem GSt.add (h : GSt bo bm M base cnt v vs gs D W) (hbo : bo < base) (hbm : bm < base) (hM : M < base) {g n c j i : Nat} {u u' : Value} {gr : List Nat} {W2 : World} (hv : v = .slice (some ⟨g, 0, none⟩) n c) (hj : vs[j]? = some u) (hgj : gs[j]? = some gr)
    (ho : OwnV 3 W2 base u' (ints (gr ++ [i]))) (hg : W.grownBy W2 u.ownBlock) (hat : u'.ownBlock = u.ownBlock ∨ ∃ k, u'.ownBlock = some k ∧ W.heap.size ≤ k) : GSt bo bm M base cnt v (vs.set j u') (gs.set j (gr ++ [i])) D (W2.setCell ⟨g, j, none⟩ u') := by
  obtain ⟨u0, hu0, hou⟩ := h.rows j gr hgj
  rw [hj] at hu0
  injection hu0 with hu0
  subst hu0
  have hjl := (List.getElem?_eq_some_iff.1 hj).1
  have hgv : v.ownBlock = some g := by rw [hv]; rfl
  have hgb := (h.own.blk_lt hgv).1
  have low : ∀ k, k < base → some k ≠ u.ownBlock := fun k hk e => by have := (hou.blk_lt e.symm).1; omega
  have hown2 : OwnV 57 W2 base v vs := h.own.grown hg (fun b hb e => h.own.differ (by decide) hou hb e.symm)
  have hfar : W2.grownBy (W2.setCell ⟨g, j, none⟩ u') (some g) := grownBy_setCell W2 g j u'
  refine ⟨(h.out.grown hg (low bo hbo)).far (by simp; omega) _, (h.of_.grown hg (low bm hbm)).far (by simp; omega) _, ?_, by rw [List.length_set, List.length_set, h.len], fun k g' hk => ?_, fun a b x x' hab hx hx' q hq => ?_, (h.map.kept hg (low M hM)).kept hfar (fun e => by injection e with e; omega)⟩
  · rw [hv] at hown2 ⊢
    exact hown2.stored j hjl u'
  · rw [List.getElem?_set] at hk
    by_cases e : j = k
    · subst e
      rw [if_pos rfl, if_pos (by rw [← h.len]; exact hjl)] at hk
      injection hk with hk
      subst hk
      refine ⟨u', by rw [List.getElem?_set, if_pos rfl, if_pos hjl], ?_⟩
      exact ho.grown hfar (fun q hq e => by
        injection e with e
        subst e
        exact hown2.differ (by decide) ho hgv hq)
    · rw [if_neg e] at hk
      obtain ⟨x, hx, hox⟩ := h.rows k g' hk
      refine ⟨x, by rw [List.getElem?_set, if_neg e]; exact hx, ?_⟩
      have hox2 : OwnV 3 W2 base x (ints g') := hox.grown hg (fun q hq e2 => h.apart j k u x e hj hx q e2.symm hq)
      exact hox2.grown hfar (fun q hq e => by
        injection e with e
        subst e
        exact hown2.differ (by decide) hox2 hgv hq)
  · have hnew : ∀ k x q, j ≠ k → vs[k]? = some x → u'.ownBlock = some q → x.ownBlock ≠ some q := fun k x q hjk hx hq e => by
      rcases hat with h1 | ⟨p, h1, h2⟩
      · exact h.apart j k u x hjk hj hx q (h1.symm.trans hq) e
      · rw [h1] at hq
        injection hq with hq
        subst hq
        have hkl := (List.getElem?_eq_some_iff.1 hx).1
        obtain ⟨g', hg'⟩ : ∃ g', gs[k]? = some g' := ⟨gs[k]'(by rw [← h.len]; exact hkl), List.getElem?_eq_getElem _⟩
        obtain ⟨x2, hx2, hox⟩ := h.rows k g' hg'
        rw [hx] at hx2
        injection hx2 with hx2
        subst hx2
        have := (hox.blk_lt e).2
        omega
    rw [List.getElem?_set] at hx hx'
    by_cases e1 : j = a
    · subst e1
      rw [if_pos rfl, if_pos hjl] at hx
      injection hx with hx
      subst hx
      rw [if_neg hab] at hx'
      exact hnew b x' q hab hx' hq
    · rw [if_neg e1] at hx
      by_cases e2 : j = b
      · subst e2
        rw [if_pos rfl, if_pos hjl] at hx'
        injection hx' with hx'
        subst hx'
        intro e
        exact hnew a x q (fun e => e1 e) hx e hq
      · rw [if_neg e2] at hx'
        exact h.apart a b x x' hab hx hx' q hq
end
end Go.Proofs.YtonafonhadocgaaGreatDoor
