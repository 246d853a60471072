/- The pieces of a text between commas, and the library's iterator over them. -/
import Derived.Test.YtajgnbhcgfgjjaaDoorRange
import Derived.Test.YtajgnbhcgfgjjaaDoorShelf
import Derived.Shelf.Strings.Search3
import Derived.Lib.IndexLaws
import Derived.Shelf.Abstract
import Derived.Shelf.RegionOpen
import Derived.OwnWalkIn
import Derived.TacticsInMore
import Derived.LoopNIn
import Derived.LoopIn
import Derived.Outline
namespace Go.Proofs.YtajgnbhcgfgjjaaDoor
open Go.RowKit Go.Shelf

/-- The pieces between commas: never none. -/
def splitC : List UInt8 → List (List UInt8)
  | [] => [[]]
  | c :: r => if c = 44 then [] :: splitC r else (match splitC r with
    | [] => [[c]]
    | h :: t => (c :: h) :: t)
theorem splitC_ne (l : List UInt8) : splitC l ≠ [] := by
  cases l with
  | nil => simp [splitC]
  | cons c r =>
    unfold splitC
    split
    · simp
    · split <;> simp
theorem splitC_none (l : List UInt8) (h : ∀ k : Nat, l[k]? ≠ some 44) : splitC l = [l] := by
  induction l with
  | nil => rfl
  | cons c r ih =>
    have h0 : c ≠ 44 := fun e => h 0 (by simp [e])
    have hr := ih (fun k => by simpa using h (k + 1))
    unfold splitC
    rw [if_neg h0, hr]
theorem splitC_some (l : List UInt8) (i : Nat) (h : l[i]? = some 44) (hn : ∀ k : Nat, k < i → l[k]? ≠ some 44) : splitC l = l.take i :: splitC (l.drop (i + 1)) := by
  induction l generalizing i with
  | nil => simp at h
  | cons c r ih =>
    cases i with
    | zero =>
      simp at h
      subst h
      simp [splitC]
    | succ i =>
      have h0 : c ≠ 44 := fun e => hn 0 (by omega) (by simp [e])
      have hr := ih i (by simpa using h) (fun k hk => by simpa using hn (k + 1) (by omega))
      rw [splitC, if_neg h0, hr]
      simp

def splitB (s : ByteArray) : List ByteArray := (splitC s.data.toList).map fun l => ⟨l.toArray⟩

theorem extract_zero (s : ByteArray) (a : Nat) : (s.extract 0 a).data.toList = s.data.toList.take a := by
  simp

theorem splitB_none (s : ByteArray) (h : Lib.indexByte s.data.toList 44 = -1) : splitB s = [s] := by
  unfold splitB
  rw [splitC_none _ (fun k => Lib.indexByte_none h k)]
  rfl
theorem splitB_some (s : ByteArray) (i : Nat) (h : Lib.indexByte s.data.toList 44 = i) : i < s.size ∧ splitB s = s.extract 0 i :: splitB (s.extract (i + 1) s.size) := by
  obtain ⟨h1, h2⟩ := Lib.indexByte_some h
  have hi : i < s.data.toList.length := (List.getElem?_eq_some_iff.1 h1).1
  refine ⟨by simpa using hi, ?_⟩
  unfold splitB
  rw [splitC_some _ i h1 (fun k hk => h2 k hk), List.map_cons, Lib.extract_to_end]
  congr 1
  apply ByteArray.ext
  apply Array.ext'
  rw [extract_zero]

theorem index_comma (s : ByteArray) (w : World) :
    Calls Tryd.prog 36 #[.string s, .string ⟨#[44]⟩] w fun e w' => e = .returned (.int .i64 (Lib.indexByte s.data.toList 44)) ∧ w = w' :=
  (Any.strings_Index_one lays143 s 44 w).mono fun _ _ ⟨he, hw⟩ => ⟨he, hw.symm⟩

/-- How long the rest is that a box holds. -/
def leftIn (w : World) (b : Nat) : Nat := match w.cell? ⟨b, 0, none⟩ with
  | some (.string s) => s.size
  | _ => 0

set_option maxRecDepth 100000 in
set_option maxHeartbeats 2000000 in
theorem split_seq (bs bsep bsv : Nat) (s : ByteArray) (W : World) (hs : Blk W bs 9 #[.string s]) (hsep : Blk W bsep 9 #[.string ⟨#[44]⟩]) (hsv : Blk W bsv 3 #[.int .i64 0]) (h12 : bs ≠ bsep) (h13 : bs ≠ bsv) (hsz : s.size ≤ 9223372036854775807) :
    SeqX Tryd.prog 34 #[.pointer (some ⟨bsep, 0, none⟩), .pointer (some ⟨bs, 0, none⟩), .pointer (some ⟨bsv, 0, none⟩)] (fun x : ByteArray => #[.string x]) (splitB s) (fun r => r = bs ∨ r = bsep ∨ r = bsv) W := by
  intro l J hJ hY h0
  refine callsIn_of_wp Tryd.func34 rfl trivial ?_ rfl
  simp only [Tryd.ntmps34, List.size_toArray, List.length_cons, List.length_nil, Nat.reduceAdd, Nat.reduceSub, Array.replicate_succ, Array.replicate_zero, List.push_toArray, List.append_toArray, List.nil_append, List.cons_append]
  have q1 := hsep.cell 0
  simp at q1
  gi_wp2_with fail
  gi_loopw [7] (fun v wr => ∃ (pre : List ByteArray) (r : ByteArray), splitB s = pre ++ splitB r ∧ r.size ≤ 9223372036854775807 ∧ Blk wr bs 9 #[.string r] ∧ Blk wr bsep 9 #[.string ⟨#[44]⟩] ∧ Blk wr bsv 3 #[.int .i64 0] ∧ J pre wr) (fun _ wr => leftIn wr bs)
  case atStart => exact ⟨[], s, rfl, hsz, hs, hsep, hsv, h0⟩
  case round =>
    obtain ⟨pre, r, hx, hrz, kb, ks, kv, hj⟩ := hrel
    have HX := Lib.hid hx
    have HJ := Lib.hid hj
    have KB := Lib.hid kb
    have KS := Lib.hid ks
    have KV := Lib.hid kv
    have q0 := kb.cell 0
    have q1 := ks.cell 0
    have q2 := kv.cell 0
    have f0 := kb.frozen 0
    simp at q0 q1 q2
    have hge := Lib.indexByte_ge r.data.toList 44
    have HXA := Lib.hid (show ∀ k, (k = bs ∨ k = bsep ∨ k = bsv) → k < wr.heap.size from fun k hk => hk.elim (fun e => e ▸ kb.lt) (fun hk => hk.elim (fun e => e ▸ ks.lt) (fun e => e ▸ kv.lt)))
    clear hx hj kb ks kv hs hsep hsv h0
    by_cases hneg : Lib.indexByte r.data.toList 44 = -1
    · have hsp := splitB_none r hneg
      obtain ⟨fn, tmps, assign, body, hy, hR⟩ := hY pre r [] wr (by rw [HX.out, hsp]) HJ.out HXA.out
      have HSP := Lib.hid hsp
      clear hsp hge
      gi_wp2_with fail
      refine ⟨trivial, rfl, (callsIn_wide.2 (index_comma r _)).mono ?_⟩
      rintro e w' ⟨rfl, rfl⟩
      rw [hneg]
      clear hneg
      gi_wp2_with fail
      refine ⟨rfl, hR.mono ?_⟩
      rintro e B ⟨rfl, hJ2, _, hk⟩
      have HJ2 := Lib.hid hJ2
      clear hJ2 hk hR hy
      gi_wp2_with fail
      go_end0
      exact ⟨⟨_, rfl⟩, by rw [HX.out, HSP.out]; exact HJ2.out⟩
    · obtain ⟨i, hi⟩ : ∃ i : Nat, Lib.indexByte r.data.toList 44 = i := ⟨(Lib.indexByte r.data.toList 44).toNat, by omega⟩
      obtain ⟨hir, hsp⟩ := splitB_some r i hi
      obtain ⟨fn, tmps, assign, body, hy, hR⟩ := hY pre (r.extract 0 i) (splitB (r.extract (i + 1) r.size)) wr (by rw [HX.out, hsp]) HJ.out HXA.out
      have HSP := Lib.hid hsp
      have hi2 : (i : Int) < (r.size : Int) := by omega
      clear hsp hge hneg
      gi_wp2_with fail
      refine ⟨trivial, rfl, (callsIn_wide.2 (index_comma r _)).mono ?_⟩
      rintro e w' ⟨rfl, rfl⟩
      rw [hi]
      clear hi
      gi_wp2_with fail
      refine ⟨rfl, hR.mono ?_⟩
      rintro e B ⟨rfl, hJ2, _, hk⟩
      have KB2 := Lib.hid (show Blk B bs 9 #[.string r] from (hk bs (.inl rfl)).trans KB.out)
      have KS2 := Lib.hid (show Blk B bsep 9 #[.string ⟨#[44]⟩] from (hk bsep (.inr (.inl rfl))).trans KS.out)
      have KV2 := Lib.hid (show Blk B bsv 3 #[.int .i64 0] from (hk bsv (.inr (.inr rfl))).trans KV.out)
      have g0 := KB2.out.cell 0
      have g1 := KS2.out.cell 0
      have fz := KB2.out.frozen 0
      simp at g0 g1
      have HJ2 := Lib.hid hJ2
      clear hJ2 hk hR hy q0 q1 q2 f0
      have LB := Lib.hid (show leftIn wr bs = r.size by unfold leftIn; rw [KB.out.cell 0]; rfl)
      gi_wp2_with fail
      have kb3 := KB2.out.set_ 0 (.string (r.extract (i + 1) r.size))
      have hz : (r.extract (i + 1) r.size).size = r.size - (i + 1) := by simp
      refine ⟨⟨pre ++ [r.extract 0 i], r.extract (i + 1) r.size, by rw [HX.out, HSP.out]; simp, by omega, kb3, KS2.out.far (by exact Ne.symm h12) _, KV2.out.far (by exact Ne.symm h13) _,
        hJ _ _ _ (some bs) HJ2.out (grownBy_setCell' B bs _) (fun k e => .inl (by cases e; rfl))⟩, ?_⟩
      rw [LB.out]
      unfold leftIn
      rw [kb3.cell 0]
      simp only [Array.setIfInBounds]
      show (r.extract (i + 1) r.size).size < r.size
      omega
end Go.Proofs.YtajgnbhcgfgjjaaDoor
