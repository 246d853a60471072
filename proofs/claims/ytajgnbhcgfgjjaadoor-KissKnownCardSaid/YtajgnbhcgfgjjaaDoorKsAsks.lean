/- What a header asks for. -/
import Derived.Test.YtajgnbhcgfgjjaaDoorKsCode
namespace Go.Proofs.YtajgnbhcgfgjjaaDoor
open Go.RowKit Go.Shelf

def stopB (t : ByteArray) : Bool := decide (t = ⟨#[68, 69, 78, 89]⟩) || decide (t = ⟨#[82, 83, 84, 82]⟩)
def slowB (t : ByteArray) : Bool := decide (t = ⟨#[82, 65, 84, 69]⟩)
theorem ne_lit (l : List UInt8) {s : ByteArray} (h : ¬ s = (⟨l.toArray⟩ : ByteArray)) : (s.toList == l) = false := by
  have e := bytes_ne h
  rw [ByteArray.toList_eq (⟨l.toArray⟩ : ByteArray)] at e
  exact e

set_option maxRecDepth 100000 in
set_option maxHeartbeats 4000000 in
theorem stops_any (l v m s p q rd rp : Int) (a b c d : UInt8) (rf og rc xm : Int) (w : World) :
    Calls Tryd.prog 18 #[.agg (hdC l v m s p q rd rp a.toNat b.toNat c.toNat d.toNat rf og rc xm)] w fun e w' => e = .returned (.bool (stopB (codeS m s a b c d))) ∧ Below w.heap.size w w' := by
  have HC := Lib.hid (code_any l v m s p q rd rp a b c d rf og rc xm)
  unfold hdC at HC ⊢
  go_enter Tryd.func18, Tryd.ntmps18
  go_wp2_with fail
  refine (HC.out _).mono ?_
  rintro e w1 ⟨rfl, hb⟩
  have HB := Lib.hid (((Below.refl _ w).alloc (Nat.le_refl _) _).trans (hb.mono (by simp)))
  clear hb HC
  obtain ⟨t, ht⟩ : ∃ t, t = codeS m s a b c d := ⟨_, rfl⟩
  rw [← ht]
  have HT := Lib.hid ht
  clear ht
  generalize codeB m s a b c d = u
  by_cases h1 : t = ⟨#[68, 69, 78, 89]⟩
  · rw [h1]
    have HD := Lib.hid (show stopB t = true by rw [h1]; decide)
    clear h1
    go_wp2
    go_ret
    exact ⟨by rw [← HT.out, HD.out]; rfl, HB.out⟩
  have n1 := ne_lit [68, 69, 78, 89] h1
  by_cases h2 : t = ⟨#[82, 83, 84, 82]⟩
  · rw [h2]
    have HD := Lib.hid (show stopB t = true by rw [h2]; decide)
    clear n1 h1 h2
    go_wp2
    go_ret
    exact ⟨by rw [← HT.out, HD.out]; rfl, HB.out⟩
  have n2 := ne_lit [82, 83, 84, 82] h2
  have HD := Lib.hid (show stopB t = false by simp only [stopB, decide_eq_false h1, decide_eq_false h2]; rfl)
  clear h1 h2
  go_wp2
  go_ret
  exact ⟨by rw [← HT.out, HD.out]; rfl, HB.out⟩

set_option maxRecDepth 100000 in
set_option maxHeartbeats 4000000 in
theorem slows_any (l v m s p q rd rp : Int) (a b c d : UInt8) (rf og rc xm : Int) (w : World) :
    Calls Tryd.prog 19 #[.agg (hdC l v m s p q rd rp a.toNat b.toNat c.toNat d.toNat rf og rc xm)] w fun e w' => e = .returned (.bool (slowB (codeS m s a b c d))) ∧ Below w.heap.size w w' := by
  have HC := Lib.hid (code_any l v m s p q rd rp a b c d rf og rc xm)
  unfold hdC at HC ⊢
  go_enter Tryd.func19, Tryd.ntmps19
  go_wp2_with fail
  refine (HC.out _).mono ?_
  rintro e w1 ⟨rfl, hb⟩
  have HB := Lib.hid (((Below.refl _ w).alloc (Nat.le_refl _) _).trans (hb.mono (by simp)))
  clear hb HC
  obtain ⟨t, ht⟩ : ∃ t, t = codeS m s a b c d := ⟨_, rfl⟩
  rw [← ht]
  have HT := Lib.hid ht
  clear ht
  generalize codeB m s a b c d = u
  by_cases h1 : t = ⟨#[82, 65, 84, 69]⟩
  · rw [h1]
    have HD := Lib.hid (show slowB t = true by rw [h1]; decide)
    clear h1
    go_wp2
    go_ret
    exact ⟨by rw [← HT.out, HD.out]; rfl, HB.out⟩
  have n1 := ne_lit [82, 65, 84, 69] h1
  have HD := Lib.hid (show slowB t = false from decide_eq_false h1)
  clear h1
  go_wp2
  go_ret
  exact ⟨by rw [← HT.out, HD.out, ← n1]; rfl, HB.out⟩
end Go.Proofs.YtajgnbhcgfgjjaaDoor
