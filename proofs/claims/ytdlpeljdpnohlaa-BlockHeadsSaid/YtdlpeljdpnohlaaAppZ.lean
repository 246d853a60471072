/- append(b, make([]byte, m)...): zeros behind a row of the call's own. -/
import Derived.Test.YtdlpeljdpnohlaaApp
namespace Go.Proofs.Ytdlpeljdpnohlaa
open Go.RowKit

theorem zeroCells_bytes (m : Nat) : Builtin.zeroCells #[Value.int .u8 0] m = (bv (List.replicate m 0)).toArray := by
  rw [bv_replicate]
  apply Array.ext
  · simp [Builtin.zeroCells]
  · intro j h1 h2
    simp [Builtin.zeroCells, Nat.mod_one]

section
variable {P : Program} (w : World)

theorem run_append_zeros (base : Nat) (t ti ty : TypeId) (i : TypeInfo) (ht : P.underlying t = some (.slice 5)) (hti : P.underlying ti = some (.int .i64)) (hi : P.info? 5 = some i) (hz : i.zero = some (.int .u8 0))
    (hsize : i.size = 1) (hby : i.bytes = 1)
    (A : Option Addr) (n cap : Nat) (l : List UInt8) (hown : Own w base (.slice A n cap) l) (hn0 : 0 < n)
    (m : Nat) (h63 : n + m ≤ 140737488355328) (hbase : base ≤ w.heap.size) :
    ∃ v' w', (Builtin.append_ #[t, ti] ty #[.slice A n cap, .int .i64 (m : Int)]).run P w = .ok v' w' ∧ Own w' base v' (l ++ List.replicate m 0) ∧ w.grownBy w' (Value.slice A n cap).ownBlock ∧
      (v'.ownBlock = (Value.slice A n cap).ownBlock ∨ v'.ownBlock = some w.heap.size) := by
  have hl := hown.len_
  have hw : IntKind.i64.wrap (m : Int) = (m : Int) := IntWalk.i64_in _ (by omega)
  have hm0 : ¬ ((m : Int) < 0) := by omega
  have hm48 : ¬ (281474976710656 < (m : Int)) := by omega
  have hzero : (zeroValue 5).run P w = .ok (.int .u8 0) w := by simp [zeroValue, typeInfo, hi, hz]
  have hlen : (bv (l ++ List.replicate m 0)).length = (n + m) * 1 := by simp [bv_length, hl]
  have hown2 := hown
  unfold Own at hown2
  rcases hown2.2 with ⟨hv, hn⟩ | ⟨g, cap', cur, hv, hbg, hg, hnc, hcm, hcs, htake⟩
  · omega
  · injection hv with e1 e2 e3
    subst e1; subst e3
    have hcs' : cur.size = cap := by simpa using hcs
    by_cases hroom : n + m ≤ cap
    · have hst := run_storeCells_at P g n 5 (bv (List.replicate m 0)) 0 cur w hg (by simp [bv_length]; omega) (bv_one _)
      simp only [Nat.add_zero] at hst
      have hr : (Builtin.append_ #[t, ti] ty #[.slice (some ⟨g, 0, none⟩) n cap, .int .i64 (m : Int)]).run P w = .ok (.slice (some ⟨g, 0, none⟩) (n + m) cap) (w.setRow g (cur.toList.take n ++ bv (List.replicate m 0) ++ cur.toList.drop (n + (bv (List.replicate m 0)).length)).toArray) := by
        rcases Nat.eq_zero_or_pos m with h0 | h0
        · subst h0
          have hw0 : IntKind.i64.wrap 0 = 0 := by decide
          simp only [List.replicate_zero, bv, List.map_nil] at hst ⊢
          simp at hst
          rw [e2] at hst
          simp [Builtin.append_, run_underlying ht, run_underlying hti, sizeOf, typeInfo, hi, hsize, hby, asInt, asIntOf, hw0, hnc, Addr.add_lit, hst, e2]
        · have hm2 : ¬ m = 0 := by omega
          simp [Builtin.append_, run_underlying ht, run_underlying hti, sizeOf, typeInfo, hi, hsize, hby, asInt, asIntOf, hw, hm0, hm2, hm48, hroom, Addr.add_lit, hzero, Value.cells, zeroCells_bytes, hst]
      have hlen2 : (l ++ List.replicate m 0).length = n + m := by simp [hl]
      refine ⟨_, _, hr, ?_, ⟨rfl, rfl, rfl, by simp, fun k _ hk => setRow_other w g k _ (fun e => hk (by simp [Value.ownBlock, e]))⟩, Or.inl rfl⟩
      unfold Own
      rw [hlen2]
      refine ⟨hlen, .inr ⟨g, cap, _, rfl, hbg, setRow_heap w g cur _ 5 _ hg, hroom, hcm, ?_, ?_⟩⟩
      · simp [bv_length]; omega
      · have e4 : cur.toList.take n = bv l := by rw [← htake, e2, Nat.mul_one]
        rw [e4, ← bv_append, ← hlen]
        exact List.take_left
    · have hgrow : cap < n + m := by omega
      have hm2 : ¬ m = 0 := by omega
      have h63' : ¬ (9223372036854775807 < ((n : Int) + (m : Int))) := by omega
      have hmax : max (m : Int) 0 = (m : Int) := by omega
      have hfit := growslice_fits (need := n + m) (old := cap) (bytes := 1) hgrow (by omega)
      have h48' : ¬ (281474976710656 < Builtin.nextslicecap (n + m) cap) := by omega
      have hfo := run_firstCells_some (P := P) w.drew 1 n ⟨g, 0, none⟩ n cap (bv l) (by simp [bv_length, hl]) (by
        intro j u hu
        exact World.ownsRow.cells hown2 (g := g) rfl j u hu)
      have hzd : (zeroValue 5).run P w.drew = .ok (.int .u8 0) w.drew := by simp [zeroValue, typeInfo, hi, hz]
      have hr : (Builtin.append_ #[t, ti] ty #[.slice (some ⟨g, 0, none⟩) n cap, .int .i64 (m : Int)]).run P w = .ok (.slice (some ⟨w.heap.size, 0, none⟩) (n + m) (grownCap w (n + m) cap 5)) (w.drew.alloc (.cells ((bv l).toArray ++ (bv (List.replicate m 0)).toArray ++ Builtin.zeroCells #[.int .u8 0] (grownCap w (n + m) cap 5 - (n + m))) 5)) := by
        simp [Builtin.append_, run_underlying ht, run_underlying hti, sizeOf, typeInfo, hi, hsize, hby, asInt, asIntOf, hw, hm0, hm2, hm48, hroom, hmax, h63', h48', Question.forced, hfo, hzd, Value.cells, zeroCells_bytes, newRow, grownCap]
      have hge := grownCap_ge w (n + m) cap 5
      have hcm2 : grownCap w (n + m) cap 5 ≤ maxLen := grownCap_le_maxLen w (n + m) cap 5 (by simp only [maxLen]; omega)
      have hlen2 : (l ++ List.replicate m 0).length = n + m := by simp [hl]
      refine ⟨_, _, hr, ?_, ⟨rfl, rfl, rfl, by simp, fun k hk _ => Below.heap_alloc w.drew _ k hk⟩, Or.inr rfl⟩
      unfold Own
      rw [hlen2]
      refine ⟨hlen, .inr ⟨w.heap.size, _, _, rfl, hbase, heap_alloc_new w.drew _, hge, hcm2, ?_, ?_⟩⟩
      · simp [bv_length, hl, Builtin.zeroCells]; omega
      · simp only [Array.toList_append]
        rw [← bv_append, ← hlen]
        exact List.take_left

theorem step_append_zeros {ops : Array Oper} {o : Oper} {a : Act} {K : Act → World → Prop} {Q : Exit → Act → World → Prop} {E : Prop} (hgd : o.guard = none) (s x : Operand) (t ti : TypeId)
    (ho : o.op = .call { callee := .builtin .append, args := #[s, x], argTypes := #[t, ti] })
    (base : Nat) (i : TypeInfo) (ht : P.underlying t = some (.slice 5)) (hti : P.underlying ti = some (.int .i64)) (hi : P.info? 5 = some i) (hz : i.zero = some (.int .u8 0))
    (hsize : i.size = 1) (hby : i.bytes = 1)
    (A : Option Addr) (n cap : Nat) (l : List UInt8) (hs : a.eval s = .slice A n cap) (hown : Own w base (.slice A n cap) l) (hn0 : 0 < n)
    (m : Nat) (M : Int) (hM : M = (m : Int)) (hx : a.eval x = .int .i64 M) (h63 : n + m ≤ 140737488355328) (hbase : base ≤ w.heap.size) (N : Nat) (hN : n + m = N)
    (h : ∀ A' c' w', Own w' base (.slice A' N c') (l ++ List.replicate m 0) → Below base w w' → w.grownBy w' (Value.slice A n cap).ownBlock → ((Value.slice A' N c').ownBlock = (Value.slice A n cap).ownBlock ∨ (Value.slice A' N c').ownBlock = some w.heap.size) → K (a.put o.dst (.slice A' N c')) w') :
    if Region.wanted o (yielded ops a.tmps) = true then Oper.wp P o a w K Q else E := by
  have hw : Region.wanted o (yielded ops a.tmps) = true := by simp [Region.wanted, hgd]
  rw [if_pos hw]
  subst hM
  obtain ⟨v', w', hrun, h2, h3, h4⟩ := run_append_zeros (P := P) w base t ti o.type i ht hti hi hz hsize hby A n cap l hown hn0 m h63 hbase
  unfold Oper.wp execOp
  simp only [ho, resolve, invoke, builtin, Sem.run_bind, Sem.run_pure, Result.andThen_ok, List.map_toArray, List.map_cons, List.map_nil, hs, hx, hrun]
  obtain ⟨A', c', hv, _, _⟩ := h2.form
  have hl : (l ++ List.replicate m 0).length = N := by rw [List.length_append, hown.len_, List.length_replicate]; exact hN
  rw [hl] at hv
  subst hv
  exact h A' c' w' h2 ((Below.refl _ _).grown h3 hbase (fun k hk => (hown.lt k hk).1)) h3 h4
end
end Go.Proofs.Ytdlpeljdpnohlaa
