/- The reference's rank of chapter 28. -/
import Derived.Test.YtonafonhadocgaaGreatDoorQV
import Derived.Test.YtonafonhadocgaaGreatDoorQM
import Derived.Deep.LoopGhost
namespace Go.Proofs.YtonafonhadocgaaGreatDoor
open Go.RowKit Go.Shelf

/-- Ends as numbers, of the bytes the first k; the port as far as it is laid. -/
def rkL (e : En) (k p : Nat) : List Nat := (if e.1 then 1 else 0) :: ((e.2.1.take k).map (·.toNat) ++ (List.replicate (16 - k) 0 ++ [p, 0]))
def nc (l : List Nat) : Array Value := (l.map fun n : Nat => Value.int .i64 (n : Int)).toArray
theorem rkL_len (e : En) (k p : Nat) (h : e.2.1.length = 16) (hk : k ≤ 16) : (rkL e k p).length = 19 := by
  simp [rkL, h]
  omega
theorem rkL_all (e : En) (h : e.2.1.length = 16) : rkL e 16 e.2.2 = rankL e := by
  unfold rkL rankL
  rw [List.take_of_length_le (by omega)]
  rfl
theorem rkL_set (e : En) (k p : Nat) (h : e.2.1.length = 16) (hk : k < 16) (b : UInt8) (hb : e.2.1[k]? = some b) : (rkL e k p).set (1 + k) b.toNat = rkL e (k + 1) p := by
  unfold rkL
  rw [Nat.add_comm, List.set_cons_succ]
  congr 1
  have hl : ((e.2.1.take k).map (·.toNat)).length = k := by rw [List.length_map, List.length_take]; omega
  have h16 : 16 - k = (16 - (k + 1)) + 1 := by omega
  rw [List.set_append_right _ _ (by omega), hl, Nat.sub_self, h16, List.replicate_succ, List.cons_append, List.set_cons_zero, List.take_add_one, hb, List.map_append, List.append_assoc]
  rfl
theorem nc_set (l : List Nat) (k n : Nat) : (nc l).setIfInBounds k (.int .i64 (n : Int)) = nc (l.set k n) := by
  apply Array.toList_inj.1
  rw [Array.toList_setIfInBounds]
  show (l.map _).set k _ = (l.set k n).map _
  rw [List.map_set]
theorem nc_get (l : List Nat) (k : Nat) (n : Nat) (h : l[k]? = some n) : (nc l)[k]? = some (.int .i64 (n : Int)) := by
  rw [nc, List.getElem?_toArray, List.getElem?_map, h]
  rfl
theorem nc_size (l : List Nat) : (nc l).size = l.length := by simp [nc]
theorem nc_one (l : List Nat) : (nc l).toList.all (·.oneCell') = true := by
  rw [List.all_eq_true]
  intro v hv
  obtain ⟨n, _, rfl⟩ := List.mem_map.1 (show v ∈ l.map fun n : Nat => Value.int .i64 (n : Int) from hv)
  rfl
theorem rkSize : (Tryz.prog.info? 73).map (·.size) = some 19 := by kernel_rfl
theorem results_rk {fn : Func} {p : Tmp} (h : fn.results = #[.cell p 73]) (tmps : Array Value) (w : World) (g : Nat) (cs : Array Value)
    (hp : tmps.getD p undef = .pointer (some ⟨g, 0, none⟩)) (hg : Blk w g 73 cs) (hi : cs.size = 19) :
    (results fn tmps).run Tryz.prog w = .ok (.agg cs) w := by
  have hp' : tmps[p]?.getD undef = .pointer (some ⟨g, 0, none⟩) := by simpa using hp
  have hl := run_loadVar_row (P := Tryz.prog) w g 73 73 cs (0, 0) _ hg Tryz.underlying73 rfl (by rw [hi]; exact rkSize)
  simp [results, h, hp', asAddr, hl]

set_option maxRecDepth 100000 in
set_option maxHeartbeats 8000000 in
theorem rank_any (e : En) (he : e.2.1.length = 16) (hp : e.2.2 < 65536) (w : World) :
    Calls Tryz.prog 32 #[.agg (enL e).toArray] w fun r w' => r = .returned (.agg (nc (rankL e))) ∧ Below w.heap.size w w' := by
  have hz1 : (w.alloc (.cells (enL e).toArray 28)).heap.size = w.heap.size + 1 := by simp
  have hz2 : ((w.alloc (.cells (enL e).toArray 28)).alloc (.cells #[Value.int .i64 0, Value.int .i64 0, Value.int .i64 0, Value.int .i64 0, Value.int .i64 0, Value.int .i64 0, Value.int .i64 0, Value.int .i64 0, Value.int .i64 0, Value.int .i64 0, Value.int .i64 0, Value.int .i64 0, Value.int .i64 0, Value.int .i64 0, Value.int .i64 0, Value.int .i64 0, Value.int .i64 0, Value.int .i64 0, Value.int .i64 0] 73)).heap.size = w.heap.size + 2 := by simp
  have k1 := ((Blk.new w 28 (enL e).toArray).alloc (.cells #[Value.int .i64 0, Value.int .i64 0, Value.int .i64 0, Value.int .i64 0, Value.int .i64 0, Value.int .i64 0, Value.int .i64 0, Value.int .i64 0, Value.int .i64 0, Value.int .i64 0, Value.int .i64 0, Value.int .i64 0, Value.int .i64 0, Value.int .i64 0, Value.int .i64 0, Value.int .i64 0, Value.int .i64 0, Value.int .i64 0, Value.int .i64 0] 73)).alloc (.cells #[Value.int .i64 0, Value.int .i64 0, Value.int .i64 0, Value.int .i64 0, Value.int .i64 0, Value.int .i64 0, Value.int .i64 0, Value.int .i64 0, Value.int .i64 0, Value.int .i64 0, Value.int .i64 0, Value.int .i64 0, Value.int .i64 0, Value.int .i64 0, Value.int .i64 0, Value.int .i64 0, Value.int .i64 0, Value.int .i64 0, Value.int .i64 0] 73)
  have k2 := (Blk.new (w.alloc (.cells (enL e).toArray 28)) 73 #[Value.int .i64 0, Value.int .i64 0, Value.int .i64 0, Value.int .i64 0, Value.int .i64 0, Value.int .i64 0, Value.int .i64 0, Value.int .i64 0, Value.int .i64 0, Value.int .i64 0, Value.int .i64 0, Value.int .i64 0, Value.int .i64 0, Value.int .i64 0, Value.int .i64 0, Value.int .i64 0, Value.int .i64 0, Value.int .i64 0, Value.int .i64 0]).alloc (.cells #[Value.int .i64 0, Value.int .i64 0, Value.int .i64 0, Value.int .i64 0, Value.int .i64 0, Value.int .i64 0, Value.int .i64 0, Value.int .i64 0, Value.int .i64 0, Value.int .i64 0, Value.int .i64 0, Value.int .i64 0, Value.int .i64 0, Value.int .i64 0, Value.int .i64 0, Value.int .i64 0, Value.int .i64 0, Value.int .i64 0, Value.int .i64 0] 73)
  have k3 := Blk.new ((w.alloc (.cells (enL e).toArray 28)).alloc (.cells #[Value.int .i64 0, Value.int .i64 0, Value.int .i64 0, Value.int .i64 0, Value.int .i64 0, Value.int .i64 0, Value.int .i64 0, Value.int .i64 0, Value.int .i64 0, Value.int .i64 0, Value.int .i64 0, Value.int .i64 0, Value.int .i64 0, Value.int .i64 0, Value.int .i64 0, Value.int .i64 0, Value.int .i64 0, Value.int .i64 0, Value.int .i64 0] 73)) 73 #[Value.int .i64 0, Value.int .i64 0, Value.int .i64 0, Value.int .i64 0, Value.int .i64 0, Value.int .i64 0, Value.int .i64 0, Value.int .i64 0, Value.int .i64 0, Value.int .i64 0, Value.int .i64 0, Value.int .i64 0, Value.int .i64 0, Value.int .i64 0, Value.int .i64 0, Value.int .i64 0, Value.int .i64 0, Value.int .i64 0, Value.int .i64 0]
  rw [hz1] at k2
  rw [hz2] at k3
  have hb := (((Below.refl _ w).alloc (Nat.le_refl _) (.cells (enL e).toArray 28)).alloc (by simp) (.cells #[Value.int .i64 0, Value.int .i64 0, Value.int .i64 0, Value.int .i64 0, Value.int .i64 0, Value.int .i64 0, Value.int .i64 0, Value.int .i64 0, Value.int .i64 0, Value.int .i64 0, Value.int .i64 0, Value.int .i64 0, Value.int .i64 0, Value.int .i64 0, Value.int .i64 0, Value.int .i64 0, Value.int .i64 0, Value.int .i64 0, Value.int .i64 0] 73)).alloc (by simp; omega) (.cells #[Value.int .i64 0, Value.int .i64 0, Value.int .i64 0, Value.int .i64 0, Value.int .i64 0, Value.int .i64 0, Value.int .i64 0, Value.int .i64 0, Value.int .i64 0, Value.int .i64 0, Value.int .i64 0, Value.int .i64 0, Value.int .i64 0, Value.int .i64 0, Value.int .i64 0, Value.int .i64 0, Value.int .i64 0, Value.int .i64 0, Value.int .i64 0] 73)
  have HE0 := Lib.hid (show (enL e).toArray[0]? = some (.bool e.1) from rfl)
  have HEP := Lib.hid (enL_port e he)
  have HEB := Lib.hid (show ∀ i (h : i < 16), (enL e).toArray[1 + i]? = some (.int .u8 ((e.2.1[i]'(by omega)).toNat : Int)) from fun i h => by
    rw [List.getElem?_toArray, Nat.add_comm, enL, List.getElem?_cons_succ, List.getElem?_append_left (by rw [bv_length, he]; exact h), bv, List.getElem?_map, List.getElem?_eq_getElem (by omega)]
    rfl)
  have K1 := Lib.hid k1
  have K2 := Lib.hid k2
  have K3 := Lib.hid k3
  have B0 := Lib.hid hb
  clear k1 k2 k3 hb hz1 hz2
  have HRS := Lib.hid (fun k (hk : k < 16) b (hb : e.2.1[k]? = some b) => rkL_set e k 0 he hk b hb)
  have HRF := Lib.hid (show (rkL e 16 0).set 17 e.2.2 = rankL e by
    rw [← rkL_all e he]
    unfold rkL
    rw [List.set_cons_succ]
    congr 1
    have hl : ((e.2.1.take 16).map (·.toNat)).length = 16 := by rw [List.length_map, List.length_take]; omega
    rw [List.set_append_right _ _ (by omega), hl]
    rfl)
  have HRZ := Lib.hid (show rkL e 0 0 = (if e.1 then 1 else 0) :: (List.replicate 18 0) from by unfold rkL; rfl)
  have HRN := Lib.hid (show (nc (rankL e)).size = 19 by rw [nc_size, ← rkL_all e he, rkL_len e 16 _ he (by omega)])
  have HRO := Lib.hid (nc_one (rankL e))
  have HRI := Lib.hid (show (Tryz.prog.info? 73).map (·.size) = some (nc (rankL e)).size by rw [nc_size, ← rkL_all e he, rkL_len e 16 _ he (by omega)]; exact rkSize)
  have HPB := hp
  obtain ⟨v, l, p⟩ := e
  dsimp only at he HPB HRF
  generalize rankL (v, l, p) = rl at *
  have q0 : (((w.alloc (.cells (enL (v, l, p)).toArray 28)).alloc (.cells #[Value.int .i64 0, Value.int .i64 0, Value.int .i64 0, Value.int .i64 0, Value.int .i64 0, Value.int .i64 0, Value.int .i64 0, Value.int .i64 0, Value.int .i64 0, Value.int .i64 0, Value.int .i64 0, Value.int .i64 0, Value.int .i64 0, Value.int .i64 0, Value.int .i64 0, Value.int .i64 0, Value.int .i64 0, Value.int .i64 0, Value.int .i64 0] 73)).alloc (.cells #[Value.int .i64 0, Value.int .i64 0, Value.int .i64 0, Value.int .i64 0, Value.int .i64 0, Value.int .i64 0, Value.int .i64 0, Value.int .i64 0, Value.int .i64 0, Value.int .i64 0, Value.int .i64 0, Value.int .i64 0, Value.int .i64 0, Value.int .i64 0, Value.int .i64 0, Value.int .i64 0, Value.int .i64 0, Value.int .i64 0, Value.int .i64 0] 73)).cell? ⟨w.heap.size, 0, none⟩ = some (.bool v) := (K1.out.cell 0).trans HE0.out
  have z0 : (((w.alloc (.cells (enL (v, l, p)).toArray 28)).alloc (.cells #[Value.int .i64 0, Value.int .i64 0, Value.int .i64 0, Value.int .i64 0, Value.int .i64 0, Value.int .i64 0, Value.int .i64 0, Value.int .i64 0, Value.int .i64 0, Value.int .i64 0, Value.int .i64 0, Value.int .i64 0, Value.int .i64 0, Value.int .i64 0, Value.int .i64 0, Value.int .i64 0, Value.int .i64 0, Value.int .i64 0, Value.int .i64 0] 73)).alloc (.cells #[Value.int .i64 0, Value.int .i64 0, Value.int .i64 0, Value.int .i64 0, Value.int .i64 0, Value.int .i64 0, Value.int .i64 0, Value.int .i64 0, Value.int .i64 0, Value.int .i64 0, Value.int .i64 0, Value.int .i64 0, Value.int .i64 0, Value.int .i64 0, Value.int .i64 0, Value.int .i64 0, Value.int .i64 0, Value.int .i64 0, Value.int .i64 0] 73)).cell? ⟨w.heap.size + 2, 0, none⟩ = some (.int .i64 0) := K3.out.cell 0
  have f0 := K3.out.frozen 0
  generalize enL (v, l, p) = ce at *
  show Calls Tryz.prog 32 #[.agg ce.toArray] w _
  go_enter Tryz.func32, Tryz.ntmps32
  go_upto_region 2 with fail
  generalize (((w.alloc (.cells ce.toArray 28)).alloc (.cells #[Value.int .i64 0, Value.int .i64 0, Value.int .i64 0, Value.int .i64 0, Value.int .i64 0, Value.int .i64 0, Value.int .i64 0, Value.int .i64 0, Value.int .i64 0, Value.int .i64 0, Value.int .i64 0, Value.int .i64 0, Value.int .i64 0, Value.int .i64 0, Value.int .i64 0, Value.int .i64 0, Value.int .i64 0, Value.int .i64 0, Value.int .i64 0] 73)).alloc (.cells #[Value.int .i64 0, Value.int .i64 0, Value.int .i64 0, Value.int .i64 0, Value.int .i64 0, Value.int .i64 0, Value.int .i64 0, Value.int .i64 0, Value.int .i64 0, Value.int .i64 0, Value.int .i64 0, Value.int .i64 0, Value.int .i64 0, Value.int .i64 0, Value.int .i64 0, Value.int .i64 0, Value.int .i64 0, Value.int .i64 0, Value.int .i64 0] 73)) = W0 at *
  cases v
  case false =>
    have J := Lib.hid (show Below w.heap.size w W0 ∧ Blk W0 w.heap.size 28 ce.toArray ∧ Blk W0 (w.heap.size + 1) 73 #[Value.int .i64 0, Value.int .i64 0, Value.int .i64 0, Value.int .i64 0, Value.int .i64 0, Value.int .i64 0, Value.int .i64 0, Value.int .i64 0, Value.int .i64 0, Value.int .i64 0, Value.int .i64 0, Value.int .i64 0, Value.int .i64 0, Value.int .i64 0, Value.int .i64 0, Value.int .i64 0, Value.int .i64 0, Value.int .i64 0, Value.int .i64 0] ∧ Blk W0 (w.heap.size + 2) 73 (nc (rkL (false, l, p) 0 0)) from ⟨B0.out, K1.out, K2.out, by rw [HRZ.out]; exact K3.out⟩)
    clear K1 K2 K3 B0 HRZ
    go_upto_region 4 with fail
    clear q0 z0 f0
    go_wp2_with fail
    go_loopg [4] 16 (fun gg i wr => ∃ k : Nat, k + gg = 16 ∧ i = .int .i64 (k : Int) ∧ Hid (Below w.heap.size w wr ∧ Blk wr w.heap.size 28 ce.toArray ∧ Blk wr (w.heap.size + 1) 73 #[Value.int .i64 0, Value.int .i64 0, Value.int .i64 0, Value.int .i64 0, Value.int .i64 0, Value.int .i64 0, Value.int .i64 0, Value.int .i64 0, Value.int .i64 0, Value.int .i64 0, Value.int .i64 0, Value.int .i64 0, Value.int .i64 0, Value.int .i64 0, Value.int .i64 0, Value.int .i64 0, Value.int .i64 0, Value.int .i64 0, Value.int .i64 0] ∧ Blk wr (w.heap.size + 2) 73 (nc (rkL (false, l, p) k 0))))
    case atStart => exact ⟨0, by omega, rfl, J⟩
    case round =>
      clear J
      obtain ⟨k, hkg, rfl, I⟩ := hrel
      cases gk with
      | zero =>
        obtain rfl : k = 16 := by omega
        have qp := (I.out.2.1.cell 17).trans HEP.out
        have hlen := rkL_len (false, l, p) 16 0 he (by omega)
        obtain ⟨x17, hx17⟩ : ∃ x, (rkL (false, l, p) 16 0)[17]? = some x := ⟨_, List.getElem?_eq_getElem (by omega)⟩
        have z17 := (I.out.2.2.2.cell 17).trans (nc_get _ _ _ hx17)
        have f17 := I.out.2.2.2.frozen 17
        have HK := Lib.hid (show Blk (wr.setCell ⟨w.heap.size + 2, 17, none⟩ (.int .i64 (p : Int))) (w.heap.size + 2) 73 (nc rl) by
          have h := I.out.2.2.2.set_ 17 (.int .i64 (p : Int))
          rw [nc_set, HRF.out] at h
          exact h)
        have HR := Lib.hid (I.out.2.2.1.far (p := ⟨w.heap.size + 2, 17, none⟩) (by show w.heap.size + 1 ≠ w.heap.size + 2; omega) (.int .i64 (p : Int)))
        have HB := Lib.hid (I.out.1.setCell (p := ⟨w.heap.size + 2, 17, none⟩) (by show w.heap.size ≤ w.heap.size + 2; omega) (.int .i64 (p : Int)))
        clear hlen hx17 I
        go_wp2_with (first | (refine wpList_load_blk 73 (.tmp 3) (w.heap.size + 2) 73 (nc rl) _ HK.out (by rfl) (by rfl) Tryz.underlying73 rfl HRI.out (by rfl) ?_) | ((with_reducible refine at_store 73 (.tmp 2) (.tmp 26) ?_); refine wpList_store_blk 73 (.tmp 2) (.tmp 26) (w.heap.size + 1) 73 #[Value.int .i64 0, Value.int .i64 0, Value.int .i64 0, Value.int .i64 0, Value.int .i64 0, Value.int .i64 0, Value.int .i64 0, Value.int .i64 0, Value.int .i64 0, Value.int .i64 0, Value.int .i64 0, Value.int .i64 0, Value.int .i64 0, Value.int .i64 0, Value.int .i64 0, Value.int .i64 0, Value.int .i64 0, Value.int .i64 0, Value.int .i64 0] (nc rl) HR.out (by rfl) (by rfl) (by rfl) (by rfl) HRI.out (by rw [HRN.out]; rfl) HRO.out (by rfl) ?_; intro w9 hk hg hs; have V9 := Lib.hid hk; have G9 := Lib.hid (And.intro hg hs); clear hk hg hs))
        exact bodyPost_ret (v := .agg (nc rl)) (results_rk Tryz.results32 _ _ (w.heap.size + 1) (nc rl) rfl V9.out HRN.out) rfl ⟨rfl, HB.out.grown G9.out.1 HB.out.size (fun k e => by injection e with e; omega)⟩
      | succ g2 =>
        have hk : k < 16 := by omega
        have qb := (I.out.2.1.cell (1 + k)).trans (HEB.out k hk)
        have hlen := rkL_len (false, l, p) k 0 he (by omega)
        obtain ⟨xk, hxk⟩ : ∃ x, (rkL (false, l, p) k 0)[1 + k]? = some x := ⟨_, List.getElem?_eq_getElem (by omega)⟩
        have zk := (I.out.2.2.2.cell (1 + k)).trans (nc_get _ _ _ hxk)
        have fk := I.out.2.2.2.frozen (1 + k)
        have HS := Lib.hid (HRS.out k hk (l[k]'(by omega)) (List.getElem?_eq_getElem _))
        have hb := (l[k]'(by omega)).toNat_lt
        have I2 := Lib.hid (show Below w.heap.size w (wr.setCell ⟨w.heap.size + 2, 1 + k, none⟩ (.int .i64 ((l[k]'(by omega)).toNat : Int))) ∧ Blk (wr.setCell ⟨w.heap.size + 2, 1 + k, none⟩ (.int .i64 ((l[k]'(by omega)).toNat : Int))) w.heap.size 28 ce.toArray ∧ Blk (wr.setCell ⟨w.heap.size + 2, 1 + k, none⟩ (.int .i64 ((l[k]'(by omega)).toNat : Int))) (w.heap.size + 1) 73 #[Value.int .i64 0, Value.int .i64 0, Value.int .i64 0, Value.int .i64 0, Value.int .i64 0, Value.int .i64 0, Value.int .i64 0, Value.int .i64 0, Value.int .i64 0, Value.int .i64 0, Value.int .i64 0, Value.int .i64 0, Value.int .i64 0, Value.int .i64 0, Value.int .i64 0, Value.int .i64 0, Value.int .i64 0, Value.int .i64 0, Value.int .i64 0] ∧ Blk (wr.setCell ⟨w.heap.size + 2, 1 + k, none⟩ (.int .i64 ((l[k]'(by omega)).toNat : Int))) (w.heap.size + 2) 73 (nc (rkL (false, l, p) (k + 1) 0)) from
          ⟨I.out.1.setCell (p := ⟨w.heap.size + 2, 1 + k, none⟩) (by show w.heap.size ≤ w.heap.size + 2; omega) _, I.out.2.1.far (p := ⟨w.heap.size + 2, 1 + k, none⟩) (by show w.heap.size ≠ w.heap.size + 2; omega) _, I.out.2.2.1.far (p := ⟨w.heap.size + 2, 1 + k, none⟩) (by show w.heap.size + 1 ≠ w.heap.size + 2; omega) _, by
            have h := I.out.2.2.2.set_ (1 + k) (.int .i64 ((l[k]'(by omega)).toNat : Int))
            rw [nc_set, HS.out] at h
            exact h⟩)
        clear hlen hxk I HS
        go_wp2_with fail
        go_roundg g2
        case measure => omega
        case rel => exact ⟨k + 1, by omega, by go_num, I2⟩
  case true =>
    have J := Lib.hid (show Below w.heap.size w (W0.setCell ⟨w.heap.size + 2, 0, none⟩ (.int .i64 1)) ∧ Blk (W0.setCell ⟨w.heap.size + 2, 0, none⟩ (.int .i64 1)) w.heap.size 28 ce.toArray ∧ Blk (W0.setCell ⟨w.heap.size + 2, 0, none⟩ (.int .i64 1)) (w.heap.size + 1) 73 #[Value.int .i64 0, Value.int .i64 0, Value.int .i64 0, Value.int .i64 0, Value.int .i64 0, Value.int .i64 0, Value.int .i64 0, Value.int .i64 0, Value.int .i64 0, Value.int .i64 0, Value.int .i64 0, Value.int .i64 0, Value.int .i64 0, Value.int .i64 0, Value.int .i64 0, Value.int .i64 0, Value.int .i64 0, Value.int .i64 0, Value.int .i64 0] ∧ Blk (W0.setCell ⟨w.heap.size + 2, 0, none⟩ (.int .i64 1)) (w.heap.size + 2) 73 (nc (rkL (true, l, p) 0 0)) from
      ⟨B0.out.setCell (p := ⟨w.heap.size + 2, 0, none⟩) (by show w.heap.size ≤ w.heap.size + 2; omega) _, K1.out.far (p := ⟨w.heap.size + 2, 0, none⟩) (by show w.heap.size ≠ w.heap.size + 2; omega) _, K2.out.far (p := ⟨w.heap.size + 2, 0, none⟩) (by show w.heap.size + 1 ≠ w.heap.size + 2; omega) _, by rw [HRZ.out]; exact K3.out.set_ 0 _⟩)
    clear K1 K2 K3 B0 HRZ
    go_upto_region 4 with fail
    clear q0 z0 f0
    go_wp2_with fail
    go_loopg [4] 16 (fun gg i wr => ∃ k : Nat, k + gg = 16 ∧ i = .int .i64 (k : Int) ∧ Hid (Below w.heap.size w wr ∧ Blk wr w.heap.size 28 ce.toArray ∧ Blk wr (w.heap.size + 1) 73 #[Value.int .i64 0, Value.int .i64 0, Value.int .i64 0, Value.int .i64 0, Value.int .i64 0, Value.int .i64 0, Value.int .i64 0, Value.int .i64 0, Value.int .i64 0, Value.int .i64 0, Value.int .i64 0, Value.int .i64 0, Value.int .i64 0, Value.int .i64 0, Value.int .i64 0, Value.int .i64 0, Value.int .i64 0, Value.int .i64 0, Value.int .i64 0] ∧ Blk wr (w.heap.size + 2) 73 (nc (rkL (true, l, p) k 0))))
    case atStart => exact ⟨0, by omega, rfl, J⟩
    case round =>
      clear J
      obtain ⟨k, hkg, rfl, I⟩ := hrel
      cases gk with
      | zero =>
        obtain rfl : k = 16 := by omega
        have qp := (I.out.2.1.cell 17).trans HEP.out
        have hlen := rkL_len (true, l, p) 16 0 he (by omega)
        obtain ⟨x17, hx17⟩ : ∃ x, (rkL (true, l, p) 16 0)[17]? = some x := ⟨_, List.getElem?_eq_getElem (by omega)⟩
        have z17 := (I.out.2.2.2.cell 17).trans (nc_get _ _ _ hx17)
        have f17 := I.out.2.2.2.frozen 17
        have HK := Lib.hid (show Blk (wr.setCell ⟨w.heap.size + 2, 17, none⟩ (.int .i64 (p : Int))) (w.heap.size + 2) 73 (nc rl) by
          have h := I.out.2.2.2.set_ 17 (.int .i64 (p : Int))
          rw [nc_set, HRF.out] at h
          exact h)
        have HR := Lib.hid (I.out.2.2.1.far (p := ⟨w.heap.size + 2, 17, none⟩) (by show w.heap.size + 1 ≠ w.heap.size + 2; omega) (.int .i64 (p : Int)))
        have HB := Lib.hid (I.out.1.setCell (p := ⟨w.heap.size + 2, 17, none⟩) (by show w.heap.size ≤ w.heap.size + 2; omega) (.int .i64 (p : Int)))
        clear hlen hx17 I
        go_wp2_with (first | (refine wpList_load_blk 73 (.tmp 3) (w.heap.size + 2) 73 (nc rl) _ HK.out (by rfl) (by rfl) Tryz.underlying73 rfl HRI.out (by rfl) ?_) | ((with_reducible refine at_store 73 (.tmp 2) (.tmp 26) ?_); refine wpList_store_blk 73 (.tmp 2) (.tmp 26) (w.heap.size + 1) 73 #[Value.int .i64 0, Value.int .i64 0, Value.int .i64 0, Value.int .i64 0, Value.int .i64 0, Value.int .i64 0, Value.int .i64 0, Value.int .i64 0, Value.int .i64 0, Value.int .i64 0, Value.int .i64 0, Value.int .i64 0, Value.int .i64 0, Value.int .i64 0, Value.int .i64 0, Value.int .i64 0, Value.int .i64 0, Value.int .i64 0, Value.int .i64 0] (nc rl) HR.out (by rfl) (by rfl) (by rfl) (by rfl) HRI.out (by rw [HRN.out]; rfl) HRO.out (by rfl) ?_; intro w9 hk hg hs; have V9 := Lib.hid hk; have G9 := Lib.hid (And.intro hg hs); clear hk hg hs))
        exact bodyPost_ret (v := .agg (nc rl)) (results_rk Tryz.results32 _ _ (w.heap.size + 1) (nc rl) rfl V9.out HRN.out) rfl ⟨rfl, HB.out.grown G9.out.1 HB.out.size (fun k e => by injection e with e; omega)⟩
      | succ g2 =>
        have hk : k < 16 := by omega
        have qb := (I.out.2.1.cell (1 + k)).trans (HEB.out k hk)
        have hlen := rkL_len (true, l, p) k 0 he (by omega)
        obtain ⟨xk, hxk⟩ : ∃ x, (rkL (true, l, p) k 0)[1 + k]? = some x := ⟨_, List.getElem?_eq_getElem (by omega)⟩
        have zk := (I.out.2.2.2.cell (1 + k)).trans (nc_get _ _ _ hxk)
        have fk := I.out.2.2.2.frozen (1 + k)
        have HS := Lib.hid (HRS.out k hk (l[k]'(by omega)) (List.getElem?_eq_getElem _))
        have hb := (l[k]'(by omega)).toNat_lt
        have I2 := Lib.hid (show Below w.heap.size w (wr.setCell ⟨w.heap.size + 2, 1 + k, none⟩ (.int .i64 ((l[k]'(by omega)).toNat : Int))) ∧ Blk (wr.setCell ⟨w.heap.size + 2, 1 + k, none⟩ (.int .i64 ((l[k]'(by omega)).toNat : Int))) w.heap.size 28 ce.toArray ∧ Blk (wr.setCell ⟨w.heap.size + 2, 1 + k, none⟩ (.int .i64 ((l[k]'(by omega)).toNat : Int))) (w.heap.size + 1) 73 #[Value.int .i64 0, Value.int .i64 0, Value.int .i64 0, Value.int .i64 0, Value.int .i64 0, Value.int .i64 0, Value.int .i64 0, Value.int .i64 0, Value.int .i64 0, Value.int .i64 0, Value.int .i64 0, Value.int .i64 0, Value.int .i64 0, Value.int .i64 0, Value.int .i64 0, Value.int .i64 0, Value.int .i64 0, Value.int .i64 0, Value.int .i64 0] ∧ Blk (wr.setCell ⟨w.heap.size + 2, 1 + k, none⟩ (.int .i64 ((l[k]'(by omega)).toNat : Int))) (w.heap.size + 2) 73 (nc (rkL (true, l, p) (k + 1) 0)) from
          ⟨I.out.1.setCell (p := ⟨w.heap.size + 2, 1 + k, none⟩) (by show w.heap.size ≤ w.heap.size + 2; omega) _, I.out.2.1.far (p := ⟨w.heap.size + 2, 1 + k, none⟩) (by show w.heap.size ≠ w.heap.size + 2; omega) _, I.out.2.2.1.far (p := ⟨w.heap.size + 2, 1 + k, none⟩) (by show w.heap.size + 1 ≠ w.heap.size + 2; omega) _, by
            have h := I.out.2.2.2.set_ (1 + k) (.int .i64 ((l[k]'(by omega)).toNat : Int))
            rw [nc_set, HS.out] at h
            exact h⟩)
        clear hlen hxk I HS
        go_wp2_with fail
        go_roundg g2
        case measure => omega
        case rel => exact ⟨k + 1, by omega, by go_num, I2⟩
end Go.Proofs.YtonafonhadocgaaGreatDoor
