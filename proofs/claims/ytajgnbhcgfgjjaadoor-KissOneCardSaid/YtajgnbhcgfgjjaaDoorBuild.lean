/- A strings.Builder that the call itself has made: WriteString, Len, String. -/
import Derived.Test.YtajgnbhcgfgjjaaDoorBase
import Derived.Test.YtajgnbhcgfgjjaaDoorShelf
import Derived.Shelf.Strings.Builder1
import Derived.RangeFuncBox
import Derived.RegionTactic
import Derived.ChangeAlike
import Derived.Outline
namespace Go.Proofs.YtajgnbhcgfgjjaaDoor
open Go.RowKit Go.Shelf

abbrev Bld (B b : Nat) (l : List UInt8) (w : World) : Prop := Lib.IsBuilder 53 5 B b (Lib.byteCells l) w

theorem bldSize : (Tryd.prog.info? 53).map (·.size) = some 2 := by kernel_rfl
theorem bldLies : liesAt Tryd.prog Tryd.prog.depth 53 (2 / Tryd.prog.cellsOf 53) 0 53 1 = true := by kernel_rfl
theorem byteInfo : (Tryd.prog.info? 5).map (fun i => (i.zero, i.size, i.bytes)) = some (some (.int .u8 0), 1, 1) := by kernel_rfl

set_option maxRecDepth 100000 in
set_option maxHeartbeats 1000000 in
theorem copyCheck_used (b : Nat) (w : World) (h0 : w.cell? ⟨b, 0, none⟩ = some (.pointer (some ⟨b, 0, none⟩))) :
    Calls Tryd.prog 31 #[.pointer (some ⟨b, 0, none⟩)] w fun e w' => e = .returned (.tuple #[]) ∧ w = w' := by
  obtain ⟨j, hj, _⟩ := Option.map_eq_some_iff.1 bldSize
  go_enter Tryd.func31, Tryd.ntmps31
  go_wp2
  rw [Lib.run_neq_ptr_same w _ Tryd.underlying50 hj]
  go_wp2
  go_end0
  exact ⟨rfl, rfl⟩

set_option maxRecDepth 100000 in
set_option maxHeartbeats 1000000 in
theorem copyCheck_fresh (b : Nat) (w : World) (h0 : w.cell? ⟨b, 0, none⟩ = some (.pointer none)) (hsh : w.shape? b = some (53, 2)) (hfz : w.frozen? ⟨b, 0, none⟩ = false) :
    Calls Tryd.prog 31 #[.pointer (some ⟨b, 0, none⟩)] w fun e w' => e = .returned (.tuple #[]) ∧ w.setCell ⟨b, 0, none⟩ (.pointer (some ⟨b, 0, none⟩)) = w' := by
  obtain ⟨j, hj, hjs⟩ := Option.map_eq_some_iff.1 bldSize
  go_enter Tryd.func31, Tryd.ntmps31
  go_wp2
  rw [Lib.run_to_unsafe w ⟨b, 0, none⟩ Tryd.underlying50 Tryd.underlying68 hj (by rw [hjs]; decide) hsh (Nat.zero_lt_succ 1)]
  simp only [Result.andThen]
  rw [Oper.upon_value]
  go_wp2
  rw [run_callFunc_extern Tryd.func33 (by kernel_rfl) (by kernel_rfl) (by kernel_rfl) (e := Extern.AbiNoEscape.same) (by kernel_rfl)]
  rw [Lib.run_noEscape]
  simp only [Result.andThen]
  rw [Oper.upon_value]
  go_wp2
  rw [Lib.run_from_unsafe w ⟨b, 0, none⟩ Tryd.underlying68 Tryd.underlying50 hj hsh bldLies]
  simp only [Result.andThen]
  rw [Oper.upon_value]
  go_wp2
  go_end0
  exact ⟨rfl, rfl⟩

/-- A builder at block b, whose bytes are l; its row of bytes lies from base on, beyond b. -/
def BldO (base b : Nat) (p : Value) (l : List UInt8) (w : World) : Prop :=
  ∃ v, w.heap[b]? = some (.cells #[p, v] 53 (0, 0)) ∧ w.ownsRow base 5 1 v l.length (Lib.byteCells l)

section
variable {base b : Nat} {p : Value} {l : List UInt8} {w w' : World}
theorem BldO.kept (h : BldO base b p l w) {row : Option Nat} (hg : w.grownBy w' row) (hb : ∀ r, row = some r → r < base ∧ r ≠ b) : BldO base b p l w' := by
  obtain ⟨v, h1, h2⟩ := h
  refine ⟨v, (hg.block b (Array.getElem?_eq_some_iff.1 h1).1 (fun e => (hb b e.symm).2 rfl)).trans h1, h2.kept hg ?_⟩
  cases row with
  | none =>
    cases hv : v.ownBlock with
    | none => exact .inl rfl
    | some g => exact .inr (by simp)
  | some r =>
    right
    intro e
    rcases h2.2 with ⟨rfl, _⟩ | ⟨g, cap, cur, rfl, hb', _⟩
    · cases e
    · simp [Value.ownBlock] at e
      have := (hb r rfl).1
      omega
theorem BldO.fresh (w : World) (base : Nat) : BldO base w.heap.size (.pointer none) [] (w.alloc (.cells #[.pointer none, .slice none 0 0] 53)) :=
  ⟨_, heap_alloc_new w _, World.ownsRow_nil _ base _ 1⟩
theorem BldO.is (h : BldO base b p l w) (hp : p = .pointer none ∨ p = .pointer (some ⟨b, 0, none⟩)) (hb : b < base) : Lib.IsBuilder 53 5 b b (Lib.byteCells l) w := by
  obtain ⟨v, h1, h2⟩ := h
  have hne : v.ownBlock ≠ some b := fun e => by
    rcases h2.2 with ⟨rfl, _⟩ | ⟨g, cap, cur, rfl, hb', _⟩
    · cases e
    · simp [Value.ownBlock] at e
      omega
  have h3 : w.ownsRow b 5 1 v (Lib.byteCells l).length (Lib.byteCells l) := by
    rw [Lib.byteCells_length]
    refine ⟨h2.1, ?_⟩
    rcases h2.2 with hn | ⟨g, cap, cur, hv, hb', rest⟩
    · exact .inl hn
    · exact .inr ⟨g, cap, cur, hv, by omega, rest⟩
  rcases hp with rfl | rfl
  · exact .inl ⟨Nat.le_refl _, v, h1, h3, hne⟩
  · exact .inr ⟨Nat.le_refl _, v, h1, h3, hne⟩
end

set_option maxRecDepth 100000 in
set_option maxHeartbeats 1000000 in
theorem write_string (base b : Nat) (p : Value) (l : List UInt8) (s : ByteArray) (w : World) (hp : p = .pointer none ∨ p = .pointer (some ⟨b, 0, none⟩)) (h : BldO base b p l w) (hb : b < base) (hbase : base ≤ w.heap.size) (hlen : l.length + s.size ≤ 140737488355328) :
    Calls Tryd.prog 26 #[.pointer (some ⟨b, 0, none⟩), .string s] w fun e w' =>
      e = .returned (.tuple #[.int .i64 s.size, .nilIface]) ∧ BldO base b (.pointer (some ⟨b, 0, none⟩)) (l ++ s.data.toList) w' ∧ Below b w w' ∧ ∀ r, r < base → r ≠ b → w'.heap[r]? = w.heap[r]? := by
  obtain ⟨i0, hi, hz0, hz1, hz2⟩ := info_parts byteInfo
  have C : Calls Tryd.prog 31 #[.pointer (some ⟨b, 0, none⟩)] w fun e w' => e = .returned (.tuple #[]) ∧ BldO base b (.pointer (some ⟨b, 0, none⟩)) l w' ∧ w.grownBy w' (some b) := by
    have h0 := h
    obtain ⟨v, h1, h2⟩ := h
    rcases hp with rfl | rfl
    · refine (copyCheck_fresh b w ((Lib.cell_of_heap h1 0).trans rfl) (by simp [World.shape?, h1]) (Lib.frozen_of_heap h1 0)).mono ?_
      rintro e w' ⟨rfl, rfl⟩
      refine ⟨rfl, ⟨v, by simp [World.setCell, Array.getElem?_modify, h1], ?_⟩, grownBy_setCell' w b _⟩
      obtain ⟨v', h1', h2'⟩ := h0
      refine h2.kept (grownBy_setCell' w b _) (.inr fun e => ?_)
      rcases h2.2 with ⟨rfl, _⟩ | ⟨g, cap, cur, rfl, hb', _⟩
      · cases e
      · simp [Value.ownBlock] at e
        omega
    · refine (copyCheck_used b w ((Lib.cell_of_heap h1 0).trans rfl)).mono ?_
      rintro e w' ⟨rfl, rfl⟩
      exact ⟨rfl, h0, World.grownBy.refl w _⟩
  have HC := Lib.hid C
  clear C h
  go_enter Tryd.func26, Tryd.ntmps26
  go_wp2_with fail
  refine HC.out.mono ?_
  rintro e w1 ⟨rfl, ⟨v, hbk, hown⟩, hg1⟩
  have c0 : w1.cell? ⟨b, 0, none⟩ = some (.pointer (some ⟨b, 0, none⟩)) := by rw [Lib.cell_of_heap hbk]; rfl
  have c1 : w1.cell? ⟨b, 1, none⟩ = some v := by rw [Lib.cell_of_heap hbk]; rfl
  go_wp2_with (at_builtin; refine Lib.wpList_append_own_string _ rfl _ _ 51 9 rfl base 5 i0 Tryd.underlying51 Tryd.underlying9 hi hz0 hz1 hz2 _ _ _ rfl hown s rfl ?c3 ?c4 ?c5 ?_)
  case c3 => unfold maxLen; omega
  case c4 => omega
  case c5 => have := hg1.size; omega
  intro v' w2 hown' hgrow _
  have hvb : ∀ r, v.ownBlock = some r → base ≤ r := fun r e => (hown.lt r e).1
  have hlt : b < w1.heap.size := (Array.getElem?_eq_some_iff.1 hbk).1
  have hb2 : w2.heap[b]? = some (.cells #[.pointer (some ⟨b, 0, none⟩), v] 53 (0, 0)) := by
    rw [hgrow.block b hlt (fun e => by have := hvb b e.symm; omega)]
    exact hbk
  have d0 : w2.cell? ⟨b, 0, none⟩ = some (.pointer (some ⟨b, 0, none⟩)) := by rw [Lib.cell_of_heap hb2]; rfl
  have d1 : w2.cell? ⟨b, 1, none⟩ = some v := by rw [Lib.cell_of_heap hb2]; rfl
  have f1 : w2.frozen? ⟨b, 1, none⟩ = false := Lib.frozen_of_heap hb2 1
  obtain ⟨ao, n', cap, rfl⟩ : ∃ ao n' cap, v' = .slice ao n' cap := by
    rcases hown'.2 with ⟨hv, _⟩ | ⟨g, cap, cur, hv, _⟩
    · exact ⟨_, _, _, hv⟩
    · exact ⟨_, _, _, hv⟩
  have HG1 := Lib.hid hg1
  have HGR := Lib.hid hgrow
  have HVB := Lib.hid hvb
  have HOW := Lib.hid hown'
  have HB2 := Lib.hid hb2
  clear hg1 hgrow hvb hown' hb2 hown hbk
  go_wp2
  go_ret2
  refine ⟨rfl, ⟨.slice ao n' cap, ?_, ?_⟩, ?_, ?_⟩
  · have := HB2.out
    simp [World.setCell, Array.getElem?_modify, this]
  · have h := HOW.out
    rw [Lib.strCells_eq] at h
    have e : (l ++ s.data.toList).length = l.length + s.size := by rw [List.length_append]; rfl
    have e2 : Lib.byteCells (l ++ s.data.toList) = Lib.byteCells l ++ Lib.byteCells s.data.toList := by simp [Lib.byteCells]
    rw [e, e2]
    refine h.kept (row := some b) ⟨rfl, rfl, rfl, by simp [World.setCell], fun k _ hk => Below.heap_setCell _ _ _ _ (fun e => hk (by simp [e]))⟩ (.inr fun e => ?_)
    have := (h.lt b e).1
    omega
  · exact (((Below.refl b w).grown HG1.out (by omega) (fun k e => by cases e; exact Nat.le_refl _)).grown HGR.out (by have := HG1.out.size; omega) (fun k e => by have := HVB.out k e; omega)).setCell (p := ⟨b, 1, none⟩) (Nat.le_refl _) _
  · intro r hr hrb
    have z1 := HG1.out.size
    exact (Below.heap_setCell _ _ _ _ (by simpa using hrb)).trans ((HGR.out.block r (by omega) (fun e => by have := HVB.out r e.symm; omega)).trans (HG1.out.block r (by omega) (fun e => hrb (by cases e; rfl))))

theorem bldExtra : Builder.Extra Tryd.prog lays169_ren := { sizeBuilder := by kernel_rfl, liesBuilder := by kernel_rfl, t5 := Tryd.underlying5, a5 := Tryd.isAgg5, z5 := Tryd.sizeOf5, v5 := Tryd.zeroValue5, infoByte := by kernel_rfl, cellsByte := by kernel_rfl, sizeByte := by kernel_rfl, neB5 := by decide }

theorem len_any (base b : Nat) (p : Value) (l : List UInt8) (w : World) (hp : p = .pointer none ∨ p = .pointer (some ⟨b, 0, none⟩)) (h : BldO base b p l w) (hb : b < base) :
    Calls Tryd.prog 25 #[.pointer (some ⟨b, 0, none⟩)] w fun e w' => e = .returned (.int .i64 l.length) ∧ w = w' := by
  refine (Any.Builder_Len lays170 b b (Lib.byteCells l) w (h.is hp hb)).mono ?_
  rintro e w' ⟨rfl, rfl⟩
  exact ⟨by rw [Lib.byteCells_length], rfl⟩

set_option maxRecDepth 100000 in
set_option maxHeartbeats 1000000 in
theorem string_some (base b : Nat) (p : Value) (l : List UInt8) (w : World) (h : BldO base b p l w) (h0 : l ≠ []) :
    Calls Tryd.prog 27 #[.pointer (some ⟨b, 0, none⟩)] w fun e w' => e = .returned (.string ⟨l.toArray⟩) ∧ Below base w w' := by
  obtain ⟨v, hbk, hown⟩ := h
  have hl0 : l.length ≠ 0 := by simpa using h0
  obtain ⟨g, cap, cur, rfl, hbg, hg, hnc, hcm, hcs, htake⟩ : ∃ g cap cur, v = .slice (some ⟨g, 0, none⟩) l.length cap ∧ base ≤ g ∧ w.heap[g]? = some (.cells cur 5 (0, 0)) ∧ l.length ≤ cap ∧ cap ≤ maxLen ∧ cur.size = cap * 1 ∧ cur.toList.take (l.length * 1) = Lib.byteCells l := by
    rcases hown.2 with ⟨_, hz⟩ | ⟨g, cap, cur, hv, r⟩
    · exact absurd hz hl0
    · exact ⟨g, cap, cur, hv, r⟩
  have c1 : w.drew.cell? ⟨b, 1, none⟩ = some (.slice (some ⟨g, 0, none⟩) l.length cap) := by
    have : w.drew.heap[b]? = some (.cells #[p, .slice (some ⟨g, 0, none⟩) l.length cap] 53 (0, 0)) := hbk
    rw [Lib.cell_of_heap this]; rfl
  have hSD : (Builtin.unsafeSliceData_ #[51] 66 #[.slice (some ⟨g, 0, none⟩) l.length cap]).run Tryd.prog w.drew = .ok (.pointer (some ⟨g, 0, none⟩)) w.drew :=
    Lib.run_unsafeSliceData_row _ _ _ _ _ _ (by omega)
  have hUS : (Builtin.unsafeString_ #[66, 3] 9 #[.pointer (some ⟨g, 0, none⟩), .int .i64 l.length]).run Tryd.prog w.drew = .ok (.string ⟨l.toArray⟩) (w.drew.freeze ⟨g, 0, none⟩ l.length) := by
    refine Lib.run_unsafeString_row w.drew 66 3 9 5 Tryd.underlying66 (by kernel_rfl) g cur.size (by have hg' : w.drew.heap[g]? = some (.cells cur 5 (0, 0)) := hg; simp [World.shape?, hg']) l h0 (by omega) (by unfold maxLen at hcm; omega) ?_
    intro j x hx
    have := hown.cells (g := g) rfl j (.int .u8 x.toNat) (by simp [Lib.byteCells, hx])
    exact this
  clear hbk hown htake hg hcs
  go_enter Tryd.func27, Tryd.ntmps27
  go_wp2
  go_region
  all_goals (go_wp2; go_ret; exact ⟨rfl, Lib.below_freeze (Below.drew (Below.refl base w)) (p := ⟨g, 0, none⟩) hbg _⟩)

theorem string_any (base b : Nat) (p : Value) (l : List UInt8) (w : World) (h : BldO base b p l w) :
    Calls Tryd.prog 27 #[.pointer (some ⟨b, 0, none⟩)] w fun e w' => e = .returned (.string ⟨l.toArray⟩) ∧ Below base w w' := by
  cases l with
  | cons x r => exact string_some base b p _ w h (by simp)
  | nil =>
    obtain ⟨v, hbk, hown⟩ := h
    rcases hown.2 with ⟨rfl, _⟩ | ⟨g, cap, cur, rfl, hbg, hg, _, _, _, _⟩
    · exact Any.Builder_String_nil lays169 bldExtra base b p w hbk
    · by_cases hc0 : cap = 0
      · subst hc0
        exact Any.Builder_String_noroom lays169 bldExtra base b g p cur w (Nat.le_of_lt (Nat.lt_of_le_of_lt hbg (Array.getElem?_eq_some_iff.1 hg).1)) hbk hg
      · exact Any.Builder_String_room lays169 bldExtra base b g cap p w hc0 hbk
end Go.Proofs.YtajgnbhcgfgjjaaDoor
