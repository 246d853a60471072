/- KissOne, for every input. -/
import Derived.Test.YtajgnbhcgfgjjaaDoorKsOneWalk
import Derived.Test.YtajgnbhcgfgjjaaDoorKsOnePlain
namespace Go.Proofs.YtajgnbhcgfgjjaaDoor
open Go.RowKit Go.Shelf

theorem kissOne_walk (recv way since turn delay disp : Int) (w : World)
    (h0 : 0 ≤ recv ∧ recv ≤ 18446744073709551615) (h1 : 0 ≤ way ∧ way ≤ 18446744073709551615) (h2 : 0 ≤ since ∧ since ≤ 18446744073709551615) (h3 : 0 ≤ turn ∧ turn ≤ 18446744073709551615)
    (h4 : 0 ≤ delay ∧ delay ≤ 4294967295) (h5 : 0 ≤ disp ∧ disp ≤ 4294967295) :
    Calls Tryd.prog 5 #[.int .u64 recv, .int .u64 way, .int .u64 since, .int .u64 turn, .int .u32 delay, .int .u32 disp] w fun e w' => e = .returned (.bool true) ∧ Below w.heap.size w w' := by
  obtain ⟨X, hX⟩ : ∃ X, X = IntKind.u64.wrap (recv + way / 2) := ⟨_, rfl⟩
  obtain ⟨F, hF⟩ : ∃ F, F = IntKind.u64.wrap (X - since / 2) := ⟨_, rfl⟩
  obtain ⟨B, hB⟩ : ∃ B, B = (recv == 0 || X == 0 || recv == IntKind.u64.wrap (-turn) || X == IntKind.u64.wrap (-turn) || F == 0 || F == IntKind.u64.wrap (-turn)) := ⟨_, rfl⟩
  have T : B = false → Times recv way since turn X F := fun hf => by
    rw [hf, u64_wrap] at hB
    have hB' := hB.symm
    simp only [Bool.or_eq_false_iff, beq_eq_false_iff_ne] at hB'
    obtain ⟨⟨⟨⟨⟨n1, n2⟩, n3⟩, n4⟩, n5⟩, n6⟩ := hB'
    exact ⟨h0.1, h0.2, h1.1, h1.2, h2.1, h2.2, by rw [hX, u64_wrap], by rw [hF, u64_wrap], n1, n2, n3, n4, n5, n6⟩
  refine kissOne_core recv way since turn delay disp X F _ B w h0.1 h0.2 h1.1 h1.2 h2.1 h2.2 h3.1 h3.2 h4.1 h4.2 h5.1 h5.2 (Lib.hid hX) (Lib.hid hF) (Lib.hid (far_is delay disp).symm) (Lib.hid hB)
    (Lib.hid fun hb W => ?_) (Lib.hid fun hb R' X' F' hR hX' hF' W => ?_) (Lib.hid fun hb W => ?_) (Lib.hid fun hb W => ?_) (Lib.hid fun hb W => ?_) (Lib.hid fun hb W => ?_) (Lib.hid fun hb P hP hp W => ?_) (Lib.hid fun hb G hG hg W => ?_)
  · have h := fails_any 0 4 4 1 0 0 delay disp 0 0 0 0 F 0 recv X W h4.1 (by omega) h5.1 (by omega)
    rw [(T hb).same] at h
    exact h
  · have h := fails_any 0 4 4 1 0 0 delay disp 0 0 0 0 F' 0 R' X' W h4.1 (by omega) h5.1 (by omega)
    rw [(T hb).moved delay disp R' X' F' (by rw [hR, u64_wrap]) (by rw [hX', u64_wrap]) (by rw [hF', u64_wrap])] at h
    exact h
  · have h := fails_any 0 5 4 1 0 0 delay disp 0 0 0 0 F 0 recv X W h4.1 (by omega) h5.1 (by omega)
    rw [(T hb).at0, far_or0] at h
    exact h
  · have h := fails_any 0 4 3 1 0 0 delay disp 0 0 0 0 F 0 recv X W h4.1 (by omega) h5.1 (by omega)
    rw [(T hb).at1, far_or1] at h
    exact h
  · have h := fails_any 3 4 4 1 0 0 delay disp 0 0 0 0 F 0 recv X W h4.1 (by omega) h5.1 (by omega)
    rw [(T hb).at2, far_or2] at h
    exact h
  · have h := fails_any 0 4 4 16 0 0 delay disp 0 0 0 0 F 0 recv X W h4.1 (by omega) h5.1 (by omega)
    rw [(T hb).at3, far_or3] at h
    exact h
  · have h := fails_any 0 4 4 1 0 0 delay disp 0 0 0 0 0 0 recv P W h4.1 (by omega) h5.1 (by omega)
    rw [(T hb).at6 delay disp P (by rw [hP, u64_wrap]) (by simpa using hp), far_or6] at h
    exact h
  · have h := fails_any 0 4 4 1 0 0 delay disp 0 0 0 0 G 0 recv X W h4.1 (by omega) h5.1 (by omega)
    rw [(T hb).at7 delay disp G (by rw [hG, u64_wrap]) (by simpa using hg), far_or7] at h
    exact h
end Go.Proofs.YtajgnbhcgfgjjaaDoor
