/- The walk of horologelaw28.FlowReads. -/
import Derived.Test.YtonafonhadocgaaGreatDoorQM
import Derived.Test.YtonafonhadocgaaGreatDoorQT
import Derived.Test.YtonafonhadocgaaGreatDoorQU
namespace Go.Proofs.YtonafonhadocgaaGreatDoor
open Go.RowKit Go.Shelf

theorem both_flow (l : List UInt8) : ∃ (cf : Array Value) (e : Int) (ok : Bool), flowPV l = .tuple #[.agg cf, .int .i64 e] ∧ rflV l = .tuple #[.agg cf, .bool ok] ∧ ((e = 0 ∧ ok = true) ∨ (e = 9 ∧ ok = false)) ∧ cf.size = 36 ∧ cf.toList.all (·.oneCell') = true ∧
    ∀ W, (Op.equalIn 10000 30 (.agg cf) (.agg cf)).run Tryz.prog W = .ok true W := by
  unfold flowPV rflV
  cases h : flowP l with
  | none => exact ⟨flC zE zE, 9, false, rfl, rfl, .inr ⟨rfl, rfl⟩, rfl, flC_one _ _, fun W => (eq_flow (zE, zE) (zE, zE) rfl rfl rfl rfl W).trans (congrArg (fun v => Result.ok v W) (decide_eq_true rfl))⟩
  | some y =>
    obtain ⟨a, b⟩ := y
    obtain ⟨_, h1, h2⟩ := flowP_sound h
    exact ⟨flC a b, 0, true, rfl, rfl, .inl ⟨rfl, rfl⟩, flC_size _ _ h1.len h2.len, flC_one _ _, fun W => (eq_flow (a, b) (a, b) h1.len h2.len h1.len h2.len W).trans (congrArg (fun v => Result.ok v W) (decide_eq_true rfl))⟩
theorem both_key (l : List UInt8) : ∃ (ck : Array Value) (e : Int) (ok : Bool), keyPV l = .tuple #[.agg ck, .int .i64 e] ∧ rkeyV l = .tuple #[.agg ck, .bool ok] ∧ ((e = 0 ∧ ok = true) ∨ (e = 9 ∧ ok = false)) ∧ ck.size = 37 ∧ ck.toList.all (·.oneCell') = true ∧
    ∀ W, (Op.equalIn 10000 36 (.agg ck) (.agg ck)).run Tryz.prog W = .ok true W := by
  unfold keyPV rkeyV
  cases h : keyP l with
  | none => exact ⟨keC zE zE 0, 9, false, rfl, rfl, .inr ⟨rfl, rfl⟩, rfl, keC_one _ _ _, fun W => (eq_key zK zK ⟨rfl, rfl, by decide, by decide, by decide⟩ ⟨rfl, rfl, by decide, by decide, by decide⟩ W).trans (congrArg (fun v => Result.ok v W) (decide_eq_true rfl))⟩
  | some y =>
    obtain ⟨a, b, x⟩ := y
    obtain ⟨_, h1, h2, h3⟩ := keyP_sound h
    have hk : KyOk ((a, b), x) := ⟨h1.len, h2.len, h1.port, h2.port, h3⟩
    exact ⟨keC a b x, 0, true, rfl, rfl, .inl ⟨rfl, rfl⟩, keC_size _ _ _ h1.len h2.len, keC_one _ _ _, fun W => (eq_key ((a, b), x) ((a, b), x) hk hk W).trans (congrArg (fun v => Result.ok v W) (decide_eq_true rfl))⟩

set_option maxRecDepth 100000 in
set_option maxHeartbeats 8000000 in
theorem reads_walk (s : ByteArray) (w : World) (env : Env w) :
    Calls Tryz.prog 3 #[.string s] w fun e w' => e = .returned (.bool true) ∧ Below w.heap.size w w' := by
  have E := Lib.hid env
  have B0 := Lib.hid (Below.refl w.heap.size w)
  clear env
  by_cases h300 : 300 < s.size
  · go_enter Tryz.func3, Tryz.ntmps3
    go_wp2_with fail
    refine (works_any _ (E.out.below B0.out)).mono ?_
    rintro e w2 ⟨rfl, b⟩
    have B2 := Lib.hid (B0.out.trans (b.mono B0.out.size))
    clear b
    go_wp2_with fail
    go_ret
    exact ⟨rfl, B2.out⟩
  · have HP := Lib.hid (fun W (e : Env W) => fparse_any s (by omega) W e)
    have HK := Lib.hid (fun W (e : Env W) => pkey_any s (by omega) W e)
    have HRP := Lib.hid (fun W => rfparse_any s (by omega) W)
    have HRK := Lib.hid (fun W => rpkey_any s (by omega) W)
    obtain ⟨cf, e1, o1, v1, v2, W1, z1, n1, q1⟩ := both_flow s.data.toList
    obtain ⟨ck, e2, o2, v3, v4, W2, z2, n2, q2⟩ := both_key s.data.toList
    rw [v1] at HP
    rw [v2] at HRP
    rw [v3] at HK
    rw [v4] at HRK
    have HW1 := Lib.hid W1
    have HW2 := Lib.hid W2
    have HFS := Lib.hid (show (Tryz.prog.info? 30).map (·.size) = some cf.size by rw [z1]; exact flSize)
    have HFZ := Lib.hid (show (flC zE zE).size = cf.size by rw [z1]; rfl)
    have HFO := Lib.hid n1
    have HKS := Lib.hid (show (Tryz.prog.info? 36).map (·.size) = some ck.size by rw [z2]; exact kySize)
    have HKZ := Lib.hid (show (keC zE zE 0).size = ck.size by rw [z2]; rfl)
    have HKO := Lib.hid n2
    have HQ1 := Lib.hid q1
    have HQ2 := Lib.hid q2
    clear v1 v2 v3 v4 W1 W2 z1 z2 n1 n2 q1 q2
    go_enter Tryz.func3, Tryz.ntmps3
    go_wp2_with fail
    refine (HP.out _ (E.out.below B0.out)).mono ?_
    rintro e w2 ⟨rfl, b⟩
    have B2 := Lib.hid (B0.out.trans (b.mono B0.out.size))
    clear b HP
    go_upto_region 4 with ((with_reducible refine at_store 30 (.tmp 3) (.tmp 18) ?_); refine wpList_store_blk 30 (.tmp 3) (.tmp 18) w2.heap.size 30 (flC zE zE) cf (Blk.new w2 30 (flC zE zE)) (by rfl) (by rfl) (by rfl) (by rfl) HFS.out HFZ.out HFO.out (by rfl) ?_; intro w3 hk hg hs; have KA3 := Lib.hid hk; have B3 := Lib.hid (print_world B2.out B2.out.size hg); clear hk hg hs)
    clear B2
    go_wp2_with fail
    refine (HK.out _ (E.out.below B3.out)).mono ?_
    rintro e w4 ⟨rfl, b⟩
    have B4 := Lib.hid (B3.out.trans (b.mono B3.out.size))
    have KA4 := Lib.hid (KA3.out.keep b)
    clear b B3 KA3 HK
    go_upto_region 5 with ((with_reducible refine at_store 36 (.tmp 5) (.tmp 23) ?_); refine wpList_store_blk 36 (.tmp 5) (.tmp 23) w4.heap.size 36 (keC zE zE 0) ck (Blk.new w4 36 (keC zE zE 0)) (by rfl) (by rfl) (by rfl) (by rfl) HKS.out HKZ.out HKO.out (by rfl) ?_; intro w5 hk hg hs; have KB5 := Lib.hid hk; have B5 := Lib.hid (print_world B4.out B4.out.size hg); have KA5 := Lib.hid ((KA4.out.alloc _).grown hg (fun e => by have := Option.some.inj e; have := KA4.out.lt; omega)); clear hk hg hs)
    clear B4 KA4
    go_wp2_with fail
    refine (HRP.out _).mono ?_
    rintro e w6 ⟨rfl, b⟩
    have B6 := Lib.hid (B5.out.trans (b.mono B5.out.size))
    have KA6 := Lib.hid (KA5.out.keep b)
    have KB6 := Lib.hid (KB5.out.keep b)
    clear b B5 KA5 KB5 HRP
    go_upto_region 6 with ((with_reducible refine at_store 30 (.tmp 7) (.tmp 28) ?_); refine wpList_store_blk 30 (.tmp 7) (.tmp 28) w6.heap.size 30 (flC zE zE) cf (Blk.new w6 30 (flC zE zE)) (by rfl) (by rfl) (by rfl) (by rfl) HFS.out HFZ.out HFO.out (by rfl) ?_; intro w7 hk hg hs; have KC7 := Lib.hid hk; have B7 := Lib.hid (print_world B6.out B6.out.size hg); have KA7 := Lib.hid ((KA6.out.alloc _).grown hg (fun e => by have := Option.some.inj e; have := KA6.out.lt; omega)); have KB7 := Lib.hid ((KB6.out.alloc _).grown hg (fun e => by have := Option.some.inj e; have := KB6.out.lt; omega)); clear hk hg hs)
    clear B6 KA6 KB6
    go_wp2_with fail
    refine (HRK.out _).mono ?_
    rintro e w8 ⟨rfl, b⟩
    have B8 := Lib.hid (B7.out.trans (b.mono B7.out.size))
    have KA8 := Lib.hid (KA7.out.keep b)
    have KB8 := Lib.hid (KB7.out.keep b)
    have KC8 := Lib.hid (KC7.out.keep b)
    clear b B7 KA7 KB7 KC7 HRK
    go_upto_region 7 with ((with_reducible refine at_store 36 (.tmp 9) (.tmp 33) ?_); refine wpList_store_blk 36 (.tmp 9) (.tmp 33) w8.heap.size 36 (keC zE zE 0) ck (Blk.new w8 36 (keC zE zE 0)) (by rfl) (by rfl) (by rfl) (by rfl) HKS.out HKZ.out HKO.out (by rfl) ?_; intro w9 hk hg hs; have KD9 := Lib.hid hk; have B9 := Lib.hid (print_world B8.out B8.out.size hg); have KA9 := Lib.hid ((KA8.out.alloc _).grown hg (fun e => by have := Option.some.inj e; have := KA8.out.lt; omega)); have KB9 := Lib.hid ((KB8.out.alloc _).grown hg (fun e => by have := Option.some.inj e; have := KB8.out.lt; omega)); have KC9 := Lib.hid ((KC8.out.alloc _).grown hg (fun e => by have := Option.some.inj e; have := KC8.out.lt; omega)); clear hk hg hs)
    clear B8 KA8 KB8 KC8
    have q1 := HQ1.out
    have q2 := HQ2.out
    rcases HW1.out with ⟨rfl, rfl⟩ | ⟨rfl, rfl⟩ <;> rcases HW2.out with ⟨rfl, rfl⟩ | ⟨rfl, rfl⟩
    all_goals
      go_wp2_with (first | (refine wpList_load_blk 30 (.tmp 3) w2.heap.size 30 cf _ KA9.out (by rfl) (by rfl) Tryz.underlying30 rfl HFS.out (by rfl) ?_) | (refine wpList_load_blk 30 (.tmp 7) w6.heap.size 30 cf _ KC9.out (by rfl) (by rfl) Tryz.underlying30 rfl HFS.out (by rfl) ?_) | (refine wpList_load_blk 36 (.tmp 5) w4.heap.size 36 ck _ KB9.out (by rfl) (by rfl) Tryz.underlying36 rfl HKS.out (by rfl) ?_) | (refine wpList_load_blk 36 (.tmp 9) w8.heap.size 36 ck _ KD9.out (by rfl) (by rfl) Tryz.underlying36 rfl HKS.out (by rfl) ?_))
      refine (works_any _ (E.out.below B9.out)).mono ?_
      rintro e w10 ⟨rfl, b⟩
      have B10 := Lib.hid (B9.out.trans (b.mono B9.out.size))
      clear b
      go_wp2_with fail
      go_ret
      exact ⟨rfl, B10.out⟩
end Go.Proofs.YtonafonhadocgaaGreatDoor
