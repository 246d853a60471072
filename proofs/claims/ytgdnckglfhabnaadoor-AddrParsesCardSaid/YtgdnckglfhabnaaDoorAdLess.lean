/- bytes.Compare and addr.Less. -/
import Derived.Test.YtgdnckglfhabnaaDoorAdJoin
import Derived.Lib.BytesEntry
namespace Go.Proofs.YtgdnckglfhabnaaDoor
open Go.RowKit Go.Shelf

def lessB (u : Bool) (xs : List UInt8) (v : Bool) (ys : List UInt8) : Bool := if u = v then decide (Lib.compareBytes xs ys < 0) else v

theorem adC_tail (u : Bool) (xs : List UInt8) (k : Nat) : (adC u xs)[k + 1]? = (bv xs)[k]? := by
  rw [adC, List.getElem?_toArray]; rfl

theorem bytes_back (l : List UInt8) : Lib.bytesOf (l.map fun u : UInt8 => (u.toNat : Int)) = l := by
  induction l with
  | nil => rfl
  | cons a l ih => simp only [Lib.bytesOf, List.map_cons, List.map_map] at *; rw [ih]; simp

theorem run_rowBytes (b off n c : Nat) (l : List UInt8) (hl : l.length = n) (w : World) (h : ∀ k, k < n → w.cell? ⟨b, off + k, none⟩ = (bv l)[k]?) :
    (Extern.Bytes.bytesOf (.slice (some ⟨b, off, none⟩) n c)).run Tryd.prog w = .ok ⟨l.toArray⟩ w := by
  have := Lib.run_loadBytesX (P := Tryd.prog) w (l.map fun u : UInt8 => (u.toNat : Int)) ⟨b, off, none⟩ .empty (fun j x hj => by
    have hjl : j < l.length := by simpa using (List.getElem?_eq_some_iff.1 hj).1
    rw [Addr.add_lit, h j (by omega)]
    rw [List.getElem?_map] at hj
    rw [bv, List.getElem?_map]
    cases hj' : l[j]? with
    | none => rw [hj'] at hj; cases hj
    | some y => rw [hj'] at hj; cases hj; rfl)
  rw [List.length_map, hl, bytes_back] at this
  rw [show Extern.Bytes.bytesOf (.slice (some ⟨b, off, none⟩) n c) = Extern.Bytes.loadBytes ⟨b, off, none⟩ n .empty from rfl, this]
  simp

set_option maxRecDepth 100000 in
theorem compare_any (b1 o1 c1 b2 o2 c2 n : Nat) (xs ys : List UInt8) (hx : xs.length = n) (hy : ys.length = n) (w : World)
    (h1 : ∀ k, k < n → w.cell? ⟨b1, o1 + k, none⟩ = (bv xs)[k]?) (h2 : ∀ k, k < n → w.cell? ⟨b2, o2 + k, none⟩ = (bv ys)[k]?) :
    Calls Tryd.prog 25 #[.slice (some ⟨b1, o1, none⟩) n c1, .slice (some ⟨b2, o2, none⟩) n c2] w fun e w' => e = .returned (.int .i64 (Lib.compareBytes xs ys)) ∧ w' = w := by
  have hc : (Extern.BytealgCompare.compare #[.slice (some ⟨b1, o1, none⟩) n c1, .slice (some ⟨b2, o2, none⟩) n c2]).run Tryd.prog w = .ok (.int .i64 (Lib.compareBytes xs ys)) w := by
    change Sem.run Tryd.prog (do pure (goInt (Extern.BytealgCompare.cmp (← Extern.Bytes.bytesOf (.slice (some ⟨b1, o1, none⟩) n c1)) (← Extern.Bytes.bytesOf (.slice (some ⟨b2, o2, none⟩) n c2))))) w = _
    simp only [Sem.run_bind, run_rowBytes b1 o1 n c1 xs hx w h1, run_rowBytes b2 o2 n c2 ys hy w h2, Result.andThen]
    rw [Lib.cmp_eq]
    rfl
  clear h1 h2
  go_enter Tryd.func25, Tryd.ntmps25
  go_wp2
  rw [run_callFunc_extern Tryd.func48 (by kernel_rfl) (by kernel_rfl) (by kernel_rfl) (e := Extern.BytealgCompare.compare) (by kernel_rfl), hc]
  simp only [Result.andThen]
  rw [Oper.upon_value]
  go_wp2
  go_ret
  exact ⟨rfl, rfl⟩

set_option maxRecDepth 100000 in
set_option maxHeartbeats 4000000 in
theorem less_any (u v : Bool) (xs ys : List UInt8) (hx : xs.length = 16) (hy : ys.length = 16) (w : World) :
    Calls Tryd.prog 10 #[.agg (adC u xs), .agg (adC v ys)] w fun e w' => e = .returned (.bool (lessB u xs v ys)) ∧ Below w.heap.size w w' := by
  have k1 := (Blk.new w 24 (adC u xs)).alloc (.cells (adC v ys) 24)
  have k2 := Blk.new (w.alloc (.cells (adC u xs) 24)) 24 (adC v ys)
  have HB := Lib.hid (((Below.refl _ w).alloc (Nat.le_refl _) (.cells (adC u xs) 24)).alloc (by simp) (.cells (adC v ys) 24))
  obtain ⟨g2, hg2⟩ : ∃ g2, g2 = (w.alloc (.cells (adC u xs) 24)).heap.size := ⟨_, rfl⟩
  have q1 : ((w.alloc (.cells (adC u xs) 24)).alloc (.cells (adC v ys) 24)).cell? ⟨w.heap.size, 0, none⟩ = some (.bool u) := by rw [k1.cell 0]; rfl
  have q2 : ((w.alloc (.cells (adC u xs) 24)).alloc (.cells (adC v ys) 24)).cell? ⟨(w.alloc (.cells (adC u xs) 24)).heap.size, 0, none⟩ = some (.bool v) := by rw [k2.cell 0]; rfl
  have hc := fun n : Nat => compare_any w.heap.size 1 16 (w.alloc (.cells (adC u xs) 24)).heap.size 1 16 16 xs ys hx hy (((w.alloc (.cells (adC u xs) 24)).alloc (.cells (adC v ys) 24)).drewN n)
    (fun k hk => by show World.cell? _ _ = _; rw [← adC_tail u xs k, Nat.add_comm 1 k]; exact k1.cell (k + 1)) (fun k hk => by show World.cell? _ _ = _; rw [← adC_tail v ys k, Nat.add_comm 1 k]; exact k2.cell (k + 1))
  rw [← hg2] at q2
  rw [← hg2] at hc
  have HG := Lib.hid hg2
  have HC := Lib.hid hc
  clear k1 k2 hc hg2
  by_cases huv : u = v
  · subst huv
    have HL := Lib.hid (show lessB u xs u ys = decide (Lib.compareBytes xs ys < 0) by rw [lessB, if_pos rfl])
    rw [HL.out]
    clear HL
    go_enter Tryd.func10, Tryd.ntmps10
    go_upto_region 1 with fail
    first
    | rw [← HG.out]
    | rw [show w.heap.size + 1 = g2 by rw [HG.out]; simp]
    go_upto_region 3 with fail
    go_quiet (exact (HC.out _).mono fun e w1 ⟨h1, h2⟩ => ⟨h1, _, h2⟩)
    go_wp2_with fail
    go_ret
    exact ⟨rfl, below_drewN HB.out _⟩
  · have HL := Lib.hid (show lessB u xs v ys = v by rw [lessB, if_neg huv])
    have hne : (!u == v) = true := by simpa using huv
    rw [HL.out]
    clear HL huv
    go_enter Tryd.func10, Tryd.ntmps10
    go_upto_region 1 with fail
    first
    | rw [← HG.out]
    | rw [show w.heap.size + 1 = g2 by rw [HG.out]; simp]
    go_wp2_with fail
    go_ret
    exact ⟨rfl, HB.out⟩
end Go.Proofs.YtgdnckglfhabnaaDoor
