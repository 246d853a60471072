/- addr.run: the longest run of noughts. -/
import Derived.Test.YtgdnckglfhabnaaDoorAdLess
namespace Go.Proofs.YtgdnckglfhabnaaDoor
open Go.RowKit Go.Shelf

/-- How many noughts a row begins with. -/
def zrun : List Nat → Nat
  | [] => 0
  | x :: r => if x = 0 then zrun r + 1 else 0

set_option maxRecDepth 100000 in
set_option maxHeartbeats 4000000 in
theorem run1_any (g i : Nat) (gs : List Nat) (hl : gs.length = 8) (hi : i ≤ 8) (w : World) (hg : Blk w g 53 (uv gs).toArray) :
    Calls Tryd.prog 46 #[.int .i64 i, .pointer (some ⟨g, 0, none⟩)] w fun e w' => e = .returned (.int .i64 (zrun (gs.drop i))) ∧ w' = w := by
  have HG := Lib.hid hg
  clear hg
  go_enter Tryd.func46, Tryd.ntmps46
  go_wp2_with fail
  go_loopw [4] (fun v wr => ∃ k : Nat, i + k ≤ 8 ∧ v = .int .i64 k ∧ Hid (zrun (gs.drop i) = k + zrun (gs.drop (i + k))) ∧ wr = w) (fun v _ => 8 - (intOf v).toNat)
  case atStart => exact ⟨0, by omega, rfl, Lib.hid (by simp), rfl⟩
  case round =>
    obtain ⟨k, hk, rfl, H, rfl⟩ := hrel
    by_cases hlt : i + k < 8
    · have q : wr.cell? ⟨g, i + k, none⟩ = some (.int .u16 ((gs[i + k]'(by omega) : Nat) : Int)) := by
        rw [HG.out.cell (i + k), List.getElem?_toArray]
        simp [uv, hl, hlt]
      have HD := Lib.hid (show zrun (gs.drop (i + k)) = if gs[i + k]'(by omega) = 0 then zrun (gs.drop (i + (k + 1))) + 1 else 0 by
        rw [List.drop_eq_getElem_cons (by omega : i + k < gs.length), zrun]
        rfl)
      generalize gs[i + k]'(by omega) = x at *
      by_cases hx : x = 0
      · subst hx
        have HN := Lib.hid (show zrun (gs.drop i) = (k + 1) + zrun (gs.drop (i + (k + 1))) by rw [H.out, HD.out, if_pos rfl]; omega)
        clear H HD
        go_wp2_with fail
        go_roundw
        case rel => exact ⟨k + 1, by omega, by go_num, HN, trivial⟩
        case measure => simp [intOf]; omega
      · have hxb : ((x : Int) == 0) = false := by rw [beq_eq_false_iff_ne]; omega
        have HN := Lib.hid (show zrun (gs.drop i) = k by rw [H.out, HD.out, if_neg hx]; rfl)
        clear H HD
        go_wp2_with fail
        go_ret
        exact ⟨by rw [HN.out]; rfl, rfl⟩
    · have hik : i + k = 8 := by omega
      have HN := Lib.hid (show zrun (gs.drop i) = k by rw [H.out, hik, List.drop_eq_nil_of_le (by omega)]; rfl)
      clear H
      go_wp2_with fail
      go_ret
      exact ⟨by rw [HN.out]; rfl, rfl⟩

/-- Where the longest run of noughts begins, and its length, among the first k beginnings. -/
def runF (gs : List Nat) : Nat → Nat × Nat
  | 0 => (0, 0)
  | k + 1 => if (runF gs k).2 < zrun (gs.drop k) then (k, zrun (gs.drop k)) else runF gs k
theorem zrun_le : ∀ l : List Nat, zrun l ≤ l.length
  | [] => Nat.le_refl _
  | x :: r => by
    have := zrun_le r
    rw [zrun, List.length_cons]
    split <;> omega

set_option maxRecDepth 100000 in
set_option maxHeartbeats 4000000 in
theorem run_any (gs : List Nat) (hl : gs.length = 8) (w : World) :
    Calls Tryd.prog 22 #[.agg (uv gs).toArray] w fun e w' => e = .returned (.tuple #[.int .i64 (runF gs 8).1, .int .i64 (runF gs 8).2]) ∧ Below w.heap.size w w' := by
  have HB := Lib.hid ((Below.refl _ w).alloc (Nat.le_refl _) (.cells (uv gs).toArray 53))
  have HC := Lib.hid (fun (i : Nat) (hi : i ≤ 8) => run1_any w.heap.size i gs hl hi (w.alloc (.cells (uv gs).toArray 53)) (Blk.new w 53 _))
  go_enter Tryd.func22, Tryd.ntmps22
  go_wp2_with fail
  generalize w.alloc (.cells (uv gs).toArray 53) = w1 at *
  go_loopw [2, 3, 8] (fun a n i wr => ∃ k : Nat, k ≤ 8 ∧ i = .int .i64 k ∧ Hid (a = .int .i64 (runF gs k).1 ∧ n = .int .i64 (runF gs k).2) ∧ wr = w1) (fun _ _ i _ => 8 - (intOf i).toNat)
  case atStart => exact ⟨0, by omega, rfl, Lib.hid ⟨rfl, rfl⟩, rfl⟩
  case round =>
    obtain ⟨k, hk, rfl, H, rfl⟩ := hrel
    obtain ⟨rfl, rfl⟩ := H.out
    clear H
    by_cases hlt : k < 8
    · have HN := Lib.hid (show runF gs (k + 1) = if (runF gs k).2 < zrun (gs.drop k) then (k, zrun (gs.drop k)) else runF gs k from rfl)
      have HK := Lib.hid (HC.out k hk)
      generalize runF gs k = r at *
      generalize zrun (gs.drop k) = z at *
      by_cases hz : r.2 < z
      · have hzi : (r.2 : Int) < z := by omega
        have HN' := Lib.hid (show runF gs (k + 1) = (k, z) by rw [HN.out, if_pos hz])
        clear HN
        go_wp2_with fail
        refine HK.out.mono ?_
        rintro e w2 ⟨rfl, rfl⟩
        go_wp2_with fail
        go_roundw
        case rel => exact ⟨k + 1, by omega, by go_num, Lib.hid (by rw [HN'.out]; exact ⟨rfl, rfl⟩), trivial⟩
        case measure => simp [intOf]; omega
      · have hzi : ¬ (r.2 : Int) < z := by omega
        have HN' := Lib.hid (show runF gs (k + 1) = r by rw [HN.out, if_neg hz])
        clear HN
        go_wp2_with fail
        refine HK.out.mono ?_
        rintro e w2 ⟨rfl, rfl⟩
        go_wp2_with fail
        go_roundw
        case rel => exact ⟨k + 1, by omega, by go_num, Lib.hid (by rw [HN'.out]; exact ⟨rfl, rfl⟩), trivial⟩
        case measure => simp [intOf]; omega
    · obtain rfl : k = 8 := by omega
      go_wp2_with fail
      go_ret2
      exact ⟨rfl, HB.out⟩
end Go.Proofs.YtgdnckglfhabnaaDoor
