/- KissFails, for every header. -/
import Derived.Test.YtajgnbhcgfgjjaaDoorKsFailsWalk
namespace Go.Proofs.YtajgnbhcgfgjjaaDoor
open Go.RowKit Go.Shelf

/-- What a header fails, as a list. -/
def failL (l v m s rd rp rf rc xm : Int) : List Bool := [f0B v, m != 4, l == 3, f3B s, rootB rd rp, f5B rc xm, aheadB xm rc, f7B rf xm]

theorem rfails_any (l v m s p q rd rp a b c d rf og rc xm : Int) (hv : 0 ≤ v) (hs : 0 ≤ s) (h1 : 0 ≤ rd) (h2 : rd < 4294967296) (h3 : 0 ≤ rp) (h4 : rp < 4294967296) (k : Nat) (hk : k < 8) (w : World) :
    Calls Tryd.prog 9 #[.agg (hdC l v m s p q rd rp a b c d rf og rc xm), .int .i64 k] w fun e w' => e = .returned (.bool ((failL l v m s rd rp rf rc xm).getD k false)) ∧ Below w.heap.size w w' := by
  obtain rfl | rfl | rfl | rfl | rfl | rfl | rfl | rfl : k = 0 ∨ k = 1 ∨ k = 2 ∨ k = 3 ∨ k = 4 ∨ k = 5 ∨ k = 6 ∨ k = 7 := by omega
  · have e : f0B v = (v == 0 || decide (v > 4)) := by
      unfold f0B
      congr 1
      rw [Bool.eq_iff_iff, decide_eq_true_iff, beq_iff_eq]
      omega
    show Calls _ _ _ _ fun e w' => e = .returned (.bool (f0B v)) ∧ _
    rw [e]
    exact rfails_version l v m s p q rd rp a b c d rf og rc xm w
  · exact rfails_mode l v m s p q rd rp a b c d rf og rc xm w
  · exact rfails_leap l v m s p q rd rp a b c d rf og rc xm w
  · exact rfails_stratum l v m s p q rd rp a b c d rf og rc xm w
  · exact rfails_root l v m s p q rd rp a b c d rf og rc xm w h1 h2 h3 h4
  · exact rfails_zero l v m s p q rd rp a b c d rf og rc xm w
  · exact rfails_order l v m s p q rd rp a b c d rf og rc xm w
  · exact rfails_stale l v m s p q rd rp a b c d rf og rc xm w

theorem kissFails_walk (l v m s p q rd rp : Int) (a b c d : UInt8) (rf og rc xm : Int) (w : World)
    (h : (0 ≤ l ∧ l ≤ 255) ∧ (0 ≤ v ∧ v ≤ 255) ∧ (0 ≤ m ∧ m ≤ 255) ∧ (0 ≤ s ∧ s ≤ 255) ∧ (0 ≤ rd ∧ rd ≤ 4294967295) ∧ (0 ≤ rp ∧ rp ≤ 4294967295) ∧ (0 ≤ rf ∧ rf ≤ 18446744073709551615) ∧ (0 ≤ rc ∧ rc ≤ 18446744073709551615) ∧ (0 ≤ xm ∧ xm ≤ 18446744073709551615)) :
    Calls Tryd.prog 3 #[.agg (hdC l v m s p q rd rp a.toNat b.toNat c.toNat d.toNat rf og rc xm)] w fun e w' => e = .returned (.bool true) ∧ Below w.heap.size w w' := by
  obtain ⟨_, ⟨hv, _⟩, _, ⟨hs, _⟩, ⟨h1, h2⟩, ⟨h3, h4⟩, _⟩ := h
  exact fails_law l v m s p q rd rp a.toNat b.toNat c.toNat d.toNat rf og rc xm w (bitsN (failL l v m s rd rp rf rc xm) 1) (fun k => (failL l v m s rd rp rf rc xm).getD k false)
    (Lib.hid (fun w => fails_any l v m s p q rd rp a.toNat b.toNat c.toNat d.toNat rf og rc xm w h1 (by omega) h3 (by omega)))
    (Lib.hid (fun k hk w => rfails_any l v m s p q rd rp a.toNat b.toNat c.toNat d.toNat rf og rc xm hv hs h1 (by omega) h3 (by omega) k hk w))
    (Lib.hid (fun k hk => bit_of _ k hk _ _ _ _ _ _ _ _ rfl))
end Go.Proofs.YtajgnbhcgfgjjaaDoor
