/- The walk of horologelaw28.FlowParts. -/
import Derived.Test.YtonafonhadocgaaDoorFlTurn
import Derived.Test.YtonafonhadocgaaDoorFlGroupsWalk
import Derived.Test.YtonafonhadocgaaDoorQM
import Derived.Deep.OwnRows
import Derived.Deep.LoopGhost
namespace Go.Proofs.YtonafonhadocgaaDoor
open Go.RowKit Go.Shelf

theorem results_b {fn : Func} {p : Tmp} (h : fn.results = #[.cell p 4]) (tmps : Array Value) (w : World) (g : Nat) (v : Value)
    (hp : tmps.getD p undef = .pointer (some ⟨g, 0, none⟩)) (hg : w.cell? ⟨g, 0, none⟩ = some v) : (results fn tmps).run Tryd.prog w = .ok v w := by
  have hp' : tmps[p]?.getD undef = .pointer (some ⟨g, 0, none⟩) := by simpa using hp
  simp [results, h, hp', asAddr, loadVar, go_sem, hg]
theorem parts_end {base b4 lo hi : Nat} {d : List Deferred} {tmps : Array Value} {w W : World} (hp : tmps.getD 4 undef = .pointer (some ⟨b4, 0, none⟩)) (hc : W.cell? ⟨b4, 0, none⟩ = some (.bool true)) (hB : Below base w W) (hz : base ≤ w.heap.size) (hm : Marks lo hi d W) (h4 : b4 < lo) (hlo : base ≤ lo) :
    LeavesInM Fence.wide 0 Tryd.prog Tryd.f5 tmps (fun e w' => e = .returned (.bool true) ∧ Below base w w') d .returning W :=
  leaves_marks (fun u => u.cell? ⟨b4, 0, none⟩ = some (.bool true) ∧ Below base w u)
    (fun u D hu hD hl => ⟨by
      have h1 := hu.1
      unfold World.cell? at h1 ⊢
      rw [World.putObj_heap_other (by show b4 ≠ D; omega)]
      exact h1, hu.2.grown (grownBy_putObj' u D _) (by have := hu.2.size; omega) (fun k e => by injection e with e; omega)⟩)
    (fun u hu => ⟨_, results_b Tryd.results5 _ _ b4 _ hp hu.1, rfl, hu.2⟩) hm ⟨hc, hB⟩

/-- A body that does not panic. -/
def noPan (Q : Exit → Act → World → Prop) : Exit → Act → World → Prop
  | .panic _, _, _ => False
  | .outgrown, _, _ => False
  | e, a, w => Q e a w
theorem noPan_spec {Q : Exit → Act → World → Prop} (e : Exit) (a : Act) (w : World) (h : noPan Q e a w) : Q e a w := by
  cases e <;> first | exact h | exact h.elim
theorem range_later {w w' : World} {b o : Nat} {cs : List Value} (hb : Below w.heap.size w w') (h : w.rangeAt b o cs) : w'.rangeAt b o cs := fun j v hv => cell_later hb (h j v hv)
theorem later_new {W : World} {b o : Nat} {v : Value} (x : Obj) (h : W.cell? ⟨b, o, none⟩ = some v) : (W.alloc x).drew.cell? ⟨b, o, none⟩ = some v := show (W.alloc x).cell? ⟨b, o, none⟩ = some v from cell_later ((Below.refl _ _).alloc (Nat.le_refl _) x) h
theorem new_flow (W : World) (x : Obj) (old cs : Array Value) (hx : x = .cells old 29) : W.grownBy ((W.alloc x).drew.setRow W.heap.size cs) none ∧ Blk ((W.alloc x).drew.setRow W.heap.size cs) W.heap.size 29 cs ∧ ((W.alloc x).drew.setRow W.heap.size cs).heap.size = W.heap.size + 1 := by
  subst hx
  have h := grownBy_setRow (W.alloc (.cells old 29)).drew W.heap.size cs
  refine ⟨grown_fresh (o := .cells old 29) ⟨h.os, h.tape, h.output, h.size, h.block⟩, setRow_heap _ _ old cs _ (0, 0) (Blk.drew (Blk.new W 29 old)), ?_⟩
  simp
theorem held_new {W : World} {b o : Nat} {v : Value} (x : Obj) (cs : Array Value) (h : W.cell? ⟨b, o, none⟩ = some v) : ((W.alloc x).setRow W.heap.size cs).cell? ⟨b, o, none⟩ = some v := by
  have h1 := cell_later ((Below.refl _ _).alloc (Nat.le_refl _) x) h
  have h2 := World.new_ne W _ h
  unfold World.cell? at h1 ⊢
  rw [setRow_other _ _ _ _ (fun e => h2 e.symm)]
  exact h1
theorem built_kx (a b : En) (x : Nat) (ha : a.2.1.length = 16) (hb : b.2.1.length = 16) : Tryd.prog.built 32 [(0, .agg (flC a b)), (1, .int .u64 (x : Int))] = some (keC a b x) := by
  obtain ⟨u, l, p⟩ := a
  obtain ⟨v, m, q⟩ := b
  obtain ⟨b0, b1, b2, b3, b4, b5, b6, b7, b8, b9, b10, b11, b12, b13, b14, b15, rfl⟩ := sixteen l ha
  obtain ⟨c0, c1, c2, c3, c4, c5, c6, c7, c8, c9, c10, c11, c12, c13, c14, c15, rfl⟩ := sixteen m hb
  kernel_rfl
theorem yieldsIf_build {P : Program} {ops : Array Oper} {o : Oper} {a : Act} {S : World → Prop} (t : TypeId) (parts : Array (Nat × Operand)) (cells : Array Value) (ho : o.op = .build t parts)
    (hc : P.built t (parts.toList.map fun p => (p.1, a.eval p.2)) = some cells) (hw : Region.wanted o (yielded ops a.tmps) = true) : YieldsIf P ops S o (.agg cells) a :=
  .inl ⟨hw, fun w _ => by
    have hc' : P.built t (parts.map fun (i, x) => (i, a.eval x)).toList = some cells := by rw [Array.toList_map]; exact hc
    unfold execOp
    simp only [ho, Sem.run_bind, run_build w t _ cells hc', Result.andThen_ok]
    rfl⟩
theorem next_first {l : List (En × En)} {j q0 k : Nat} {f : En × En} {g' : List Nat} (hf : (dd l)[j]? = some f) (hq : q0 = head0 l f) (hg : (grpL l)[j + 1]? = some g') (hk : g'[0]? = some k) : q0 < k := by
  rw [grpL, List.getElem?_map] at hg
  obtain ⟨f', h1, rfl⟩ := Option.map_eq_some_iff.1 hg
  have h2 := (head_at ((mem_dd f' l).1 (List.mem_of_getElem? h1))).2
  rw [h2] at hk
  injection hk with hk
  obtain ⟨a1, b1⟩ := List.getElem?_eq_some_iff.1 hf
  obtain ⟨a2, b2⟩ := List.getElem?_eq_some_iff.1 h1
  have h3 := List.pairwise_iff_getElem.1 (heads_rise l) j (j + 1) a1 a2 (Nat.lt_succ_self j)
  rw [b1, b2] at h3
  omega
theorem ky_fl_range {W : World} {b o : Nat} {k : Ky} (h : W.rangeAt b o (kyC k).toList) : W.rangeAt b o (flC k.1.1 k.1.2).toList := fun i v hv => h i v (by
  rw [show (kyC k).toList = (flC k.1.1 k.1.2).toList ++ [Value.int .u64 (k.2 : Int)] from rfl, List.getElem?_append_left (List.getElem?_eq_some_iff.1 hv).1]
  exact hv)

set_option maxRecDepth 100000 in
set_option maxHeartbeats 8000000 in
theorem parts_walk_int (A : Option Addr) (n c : Nat) (ks : List Ky) (cp : Int) (w : World) (hr : RdK w A n c ks) (hok : ∀ k ∈ ks, KyOk k) (hcp : (Lit.int .u8 cp).wf = true) (env : Env w) :
    Calls Tryd.prog 5 #[.slice A n c, .int .u8 cp] w fun e w' => e = .returned (.bool true) ∧ Below w.heap.size w w' := by
  have HR := Lib.hid hr
  have HOK := Lib.hid hok
  obtain ⟨cm, hcm, hcm4⟩ : ∃ cm : Nat, (cm : Int) = cp % 4 ∧ cm < 4 := ⟨(cp % 4).toNat, by omega, by omega⟩
  have HCM := Lib.hid hcm
  have hcp8 : 0 ≤ cp ∧ cp < 256 := by
    have h : IntKind.u8.min ≤ cp ∧ cp ≤ IntKind.u8.max := by simpa [Lit.wf] using hcp
    have e1 : IntKind.u8.min = 0 := rfl
    have e2 : IntKind.u8.max = 255 := rfl
    omega
  have HCP := Lib.hid hcp8
  clear hcm hcp8 hcp
  have E := Lib.hid env
  have h0 : (w.alloc (.cells #[.slice A n c] 42)).heap.size = w.heap.size + 1 := by simp
  have h1 : ((w.alloc (.cells #[.slice A n c] 42)).alloc (.cells #[.int .u8 cp] 5)).heap.size = w.heap.size + 1 + 1 := by simp
  have k1 := ((Blk.new w 42 #[.slice A n c]).alloc (.cells #[.int .u8 cp] 5)).alloc (.cells #[.bool false] 4)
  have k2 := (Blk.new (w.alloc (.cells #[.slice A n c] 42)) 5 #[.int .u8 cp]).alloc (.cells #[.bool false] 4)
  have k3 := Blk.new ((w.alloc (.cells #[.slice A n c] 42)).alloc (.cells #[.int .u8 cp] 5)) 4 #[.bool false]
  rw [h0] at k2
  rw [h1] at k3
  have b0 := (((Below.refl w.heap.size w).alloc (Nat.le_refl _) (.cells #[.slice A n c] 42)).alloc (by simp) (.cells #[.int .u8 cp] 5)).alloc (by simp; omega) (.cells #[.bool false] 4)
  have K1 := Lib.hid k1
  have K2 := Lib.hid k2
  have K3 := Lib.hid k3
  have B0 := Lib.hid b0
  have hz0 : w.heap.size + 3 = (((w.alloc (.cells #[.slice A n c] 42)).alloc (.cells #[.int .u8 cp] 5)).alloc (.cells #[.bool false] 4)).heap.size := by simp
  have HZ := Lib.hid hz0
  clear hr hok env h0 h1 k1 k2 k3 b0 hz0
  refine (callsIn_wide (n := 0)).1 (callsIn_of_wp_marks Tryd.func5 rfl trivial ?_ rfl)
  refine wpIn_mono (Q := noPan _) ?_ noPan_spec
  refine wpIn_wide.2 ?_
  simp only [Tryd.ntmps5, List.size_toArray, List.length_cons, List.length_nil, Nat.reduceAdd, Nat.reduceSub, Array.replicate_succ, Array.replicate_zero, List.push_toArray, List.append_toArray, List.nil_append, List.cons_append]
  go_upto_region 1 with fail
  generalize ((w.alloc (.cells #[.slice A n c] 42)).alloc (.cells #[.int .u8 cp] 5)).alloc (.cells #[.bool false] 4) = w0 at *
  have q2 := K1.out.cell 0
  have q3 := K2.out.cell 0
  simp at q2 q3
  by_cases h60 : 60 < n
  · have hg : decide ((60 : Int) < (n : Int)) = true := decide_eq_true (by omega)
    go_wp2_with fail
    refine (works_any _ (E.out.below B0.out)).mono ?_
    rintro e w1 ⟨rfl, b⟩
    have B1 := Lib.hid (B0.out.trans (b.mono B0.out.size))
    have K1b := Lib.hid (Blk.keep K1.out b)
    have K3b := Lib.hid (Blk.keep K3.out b)
    have q2b := K1b.out.cell 0
    simp at q2b
    clear b K1 K3 q2 q3 K2 B0 HZ
    go_wp2_with fail
    refine (works_any _ (E.out.below B1.out)).mono ?_
    rintro e w2 ⟨rfl, b⟩
    have B2 := Lib.hid (B1.out.trans (b.mono B1.out.size))
    have K3c := Lib.hid (Blk.keep K3b.out b)
    have q4 := K3c.out.cell 0
    have z4 := K3c.out.frozen 0
    simp at q4
    clear b K1b K3b q2b B1
    go_wp2_with fail
    exact parts_end (lo := w.heap.size + 1 + 1 + 1) (hi := 0) (b4 := w.heap.size + 1 + 1) (by rfl) (K3c.out.set_ 0 (.bool true) |>.cell 0) (B2.out.setCell (p := ⟨w.heap.size + 1 + 1, 0, none⟩) (by show w.heap.size ≤ w.heap.size + 1 + 1; omega) _) (Nat.le_refl _) (Marks.nil _ _ _) (by omega) (by omega)
  · have hg : decide ((60 : Int) < (n : Int)) = false := decide_eq_false (by omega)
    go_wp2_with fail
    refine (works_any _ (E.out.below B0.out)).mono ?_
    rintro e w1 ⟨rfl, b⟩
    have B1 := Lib.hid (B0.out.trans (b.mono B0.out.size))
    have K1b := Lib.hid (Blk.keep K1.out b)
    have K2b := Lib.hid (Blk.keep K2.out b)
    have K3b := Lib.hid (Blk.keep K3.out b)
    have HZb := Lib.hid (show w.heap.size + 3 ≤ w1.heap.size by rw [HZ.out]; exact b.size)
    have q2b := K1b.out.cell 0
    simp at q2b
    clear b K1 K2 K3 q2 q3 B0 HZ
    go_wp2_with fail
    refine (groups_any A n c ks w1 (HR.out.below B1.out) HOK.out (by omega)).mono ?_
    rintro e w2 ⟨v, rfl, g1, b⟩
    have B2 := Lib.hid (B1.out.trans (b.mono B1.out.size))
    have K1c := Lib.hid (Blk.keep K1b.out b)
    have K2c := Lib.hid (Blk.keep K2b.out b)
    have K3c := Lib.hid (Blk.keep K3b.out b)
    have HZc := Lib.hid (Nat.le_trans HZb.out b.size)
    have q2c := K1c.out.cell 0
    simp at q2c
    obtain ⟨Ag, cg, rfl, hrow⟩ := g1.row
    have G := Lib.hid hrow
    clear b hrow g1 K1b K2b K3b q2b B1 HZb
    obtain ⟨i0, hi0, hz0, hz1, hz2⟩ := info_parts info_int
    go_wp2_with (at_make; refine wpList_make_row w2 (by rfl) (.tmp 27) (.tmp 27) 45 (by rfl) 3 i0 (.int .i64 0) Tryd.underlying45 hi0 hz0 hz1 rfl .i64 .i64 n (by rfl) (by rfl) (by rw [hz2]; omega) (by omega) ?_)
    have b5 := ((Below.refl w2.heap.size w2).alloc (Nat.le_refl _) (.cells (madeCells #[.int .i64 0] n) 3)).alloc (by simp) (.cells #[.slice (some ⟨w2.heap.size, 0, none⟩) n n] 45)
    have k5 := (Blk.new w2 3 (madeCells #[.int .i64 0] n)).alloc (.cells #[.slice (some ⟨w2.heap.size, 0, none⟩) n n] 45)
    have k6 := Blk.new (w2.alloc (.cells (madeCells #[.int .i64 0] n) 3)) 45 #[.slice (some ⟨w2.heap.size, 0, none⟩) n n]
    have z5 : ((w2.alloc (.cells (madeCells #[.int .i64 0] n) 3)).alloc (.cells #[.slice (some ⟨w2.heap.size, 0, none⟩) n n] 45)).heap.size = w2.heap.size + 2 := by simp
    rw [show (w2.alloc (.cells (madeCells #[.int .i64 0] n) 3)).heap.size = w2.heap.size + 1 by simp] at k6
    have e5 : (seenL n []).toArray = madeCells #[Value.int .i64 0] n := by rw [seen_nil, ← toList_madeCells_one, Array.toArray_toList]
    have B5 := Lib.hid (B2.out.trans (b5.mono B2.out.size))
    have K1d := Lib.hid (Blk.keep K1c.out b5)
    have K2d := Lib.hid (Blk.keep K2c.out b5)
    have K3d := Lib.hid (Blk.keep K3c.out b5)
    have K5 := Lib.hid (show Blk ((w2.alloc (.cells (madeCells #[.int .i64 0] n) 3)).alloc (.cells #[.slice (some ⟨w2.heap.size, 0, none⟩) n n] 45)) w2.heap.size 3 (seenL n []).toArray by rw [e5]; exact k5)
    clear e5
    have K6 := Lib.hid k6
    have Z5 := Lib.hid z5
    have BG := Lib.hid b5
    clear b5 k5 k6 z5 K1c K2c K3c q2c hi0 hz0 hz1 hz2
    generalize (w2.alloc (.cells (madeCells #[.int .i64 0] n) 3)).alloc (.cells #[.slice (some ⟨w2.heap.size, 0, none⟩) n n] 45) = w5 at *
    generalize hgs : grpL (ks.map (·.1)) = gs at *
    have HGS := Lib.hid hgs
    have HLG := Lib.hid (show gs.length ≤ 60 by rw [← hgs, grpL_len]; have h1 := dd_len (ks.map (·.1)); rw [List.length_map] at h1; have h2 := HR.out.1; omega)
    clear hgs
    refine wp_loop_ghost_k (fun gg a wr => ∃ u0 u1 u5 u8 u9 u10 u11 u12 u13 u14 u15 u16 u17 u18 u19 u20 u21 u22 u23 u24 u25 u26 u27 u28 u32 u33 u34 u35 u36 u37 u38 u39 u40 u41 u42 u43 u44 u45 u46 u47 u48 u49 u50 u51 u52 u53 u54 u55 u56 u57 u58 u59 u60 u61 u62 u63 u64 u65 u66 u67 u68 u69 u70 u71 u72 u73 u74 u75 u76 u77 u78 u79 u80 u81 u82 u83 u84 u85 u86 u87 u88 u89 u90 u91 u92 u93 u94 u95 u96 u97 u98 u99 u100 u101 u102 u103 u104 u105 u106 u107 u108 u109 u110 u111 u112 u113 u114 u115 u116 u117 u118 u119 u120 u121 u122 u123 u124 u125 u126 u127 u128 u129 u130 u131 u132 u133 u134 u135 u136 u137 u138 u139 u140 u141 u142 : Value, ∃ (d : List Deferred) (j : Nat) (la : Int), a = { tmps := #[u0, u1, .pointer (some ⟨w.heap.size, 0, none⟩), .pointer (some ⟨w.heap.size + 1, 0, none⟩), .pointer (some ⟨w.heap.size + 1 + 1, 0, none⟩), u5, .pointer (some ⟨w2.heap.size + 1, 0, none⟩), .int .i64 la, u8, u9, u10, u11, u12, u13, u14, u15, u16, u17, u18, u19, u20, u21, u22, u23, u24, u25, u26, u27, u28, .slice Ag gs.length cg, .int .i64 (gs.length : Int), .int .i64 (j : Int), u32, u33, u34, u35, u36, u37, u38, u39, u40, u41, u42, u43, u44, u45, u46, u47, u48, u49, u50, u51, u52, u53, u54, u55, u56, u57, u58, u59, u60, u61, u62, u63, u64, u65, u66, u67, u68, u69, u70, u71, u72, u73, u74, u75, u76, u77, u78, u79, u80, u81, u82, u83, u84, u85, u86, u87, u88, u89, u90, u91, u92, u93, u94, u95, u96, u97, u98, u99, u100, u101, u102, u103, u104, u105, u106, u107, u108, u109, u110, u111, u112, u113, u114, u115, u116, u117, u118, u119, u120, u121, u122, u123, u124, u125, u126, u127, u128, u129, u130, u131, u132, u133, u134, u135, u136, u137, u138, u139, u140, u141, u142], defers := d } ∧ j + gg = gs.length ∧ Hid (Turn w5 (fun r => r = w2.heap.size) wr ∧ Blk wr w2.heap.size 3 (seenL n (gs.take j).flatten).toArray ∧ Marks w5.heap.size wr.heap.size d wr) ∧ Hid (∀ (g : List Nat) (k : Nat), gs[j]? = some g → g[0]? = some k → la < (k : Int))) gs.length ?_ ?_
    · repeat apply Exists.intro
      refine ⟨rfl, Nat.zero_add _, Lib.hid ⟨Turn.refl _ _, ?_, Marks.nil _ _ _⟩, Lib.hid (fun g k _ _ => by omega)⟩
      exact K5.out
    · intro gk a wr hinv J K hJ hK
      obtain ⟨u0, hinv⟩ := hinv
      obtain ⟨u1, hinv⟩ := hinv
      obtain ⟨u5, hinv⟩ := hinv
      obtain ⟨u8, hinv⟩ := hinv
      obtain ⟨u9, hinv⟩ := hinv
      obtain ⟨u10, hinv⟩ := hinv
      obtain ⟨u11, hinv⟩ := hinv
      obtain ⟨u12, hinv⟩ := hinv
      obtain ⟨u13, hinv⟩ := hinv
      obtain ⟨u14, hinv⟩ := hinv
      obtain ⟨u15, hinv⟩ := hinv
      obtain ⟨u16, hinv⟩ := hinv
      obtain ⟨u17, hinv⟩ := hinv
      obtain ⟨u18, hinv⟩ := hinv
      obtain ⟨u19, hinv⟩ := hinv
      obtain ⟨u20, hinv⟩ := hinv
      obtain ⟨u21, hinv⟩ := hinv
      obtain ⟨u22, hinv⟩ := hinv
      obtain ⟨u23, hinv⟩ := hinv
      obtain ⟨u24, hinv⟩ := hinv
      obtain ⟨u25, hinv⟩ := hinv
      obtain ⟨u26, hinv⟩ := hinv
      obtain ⟨u27, hinv⟩ := hinv
      obtain ⟨u28, hinv⟩ := hinv
      obtain ⟨u32, hinv⟩ := hinv
      obtain ⟨u33, hinv⟩ := hinv
      obtain ⟨u34, hinv⟩ := hinv
      obtain ⟨u35, hinv⟩ := hinv
      obtain ⟨u36, hinv⟩ := hinv
      obtain ⟨u37, hinv⟩ := hinv
      obtain ⟨u38, hinv⟩ := hinv
      obtain ⟨u39, hinv⟩ := hinv
      obtain ⟨u40, hinv⟩ := hinv
      obtain ⟨u41, hinv⟩ := hinv
      obtain ⟨u42, hinv⟩ := hinv
      obtain ⟨u43, hinv⟩ := hinv
      obtain ⟨u44, hinv⟩ := hinv
      obtain ⟨u45, hinv⟩ := hinv
      obtain ⟨u46, hinv⟩ := hinv
      obtain ⟨u47, hinv⟩ := hinv
      obtain ⟨u48, hinv⟩ := hinv
      obtain ⟨u49, hinv⟩ := hinv
      obtain ⟨u50, hinv⟩ := hinv
      obtain ⟨u51, hinv⟩ := hinv
      obtain ⟨u52, hinv⟩ := hinv
      obtain ⟨u53, hinv⟩ := hinv
      obtain ⟨u54, hinv⟩ := hinv
      obtain ⟨u55, hinv⟩ := hinv
      obtain ⟨u56, hinv⟩ := hinv
      obtain ⟨u57, hinv⟩ := hinv
      obtain ⟨u58, hinv⟩ := hinv
      obtain ⟨u59, hinv⟩ := hinv
      obtain ⟨u60, hinv⟩ := hinv
      obtain ⟨u61, hinv⟩ := hinv
      obtain ⟨u62, hinv⟩ := hinv
      obtain ⟨u63, hinv⟩ := hinv
      obtain ⟨u64, hinv⟩ := hinv
      obtain ⟨u65, hinv⟩ := hinv
      obtain ⟨u66, hinv⟩ := hinv
      obtain ⟨u67, hinv⟩ := hinv
      obtain ⟨u68, hinv⟩ := hinv
      obtain ⟨u69, hinv⟩ := hinv
      obtain ⟨u70, hinv⟩ := hinv
      obtain ⟨u71, hinv⟩ := hinv
      obtain ⟨u72, hinv⟩ := hinv
      obtain ⟨u73, hinv⟩ := hinv
      obtain ⟨u74, hinv⟩ := hinv
      obtain ⟨u75, hinv⟩ := hinv
      obtain ⟨u76, hinv⟩ := hinv
      obtain ⟨u77, hinv⟩ := hinv
      obtain ⟨u78, hinv⟩ := hinv
      obtain ⟨u79, hinv⟩ := hinv
      obtain ⟨u80, hinv⟩ := hinv
      obtain ⟨u81, hinv⟩ := hinv
      obtain ⟨u82, hinv⟩ := hinv
      obtain ⟨u83, hinv⟩ := hinv
      obtain ⟨u84, hinv⟩ := hinv
      obtain ⟨u85, hinv⟩ := hinv
      obtain ⟨u86, hinv⟩ := hinv
      obtain ⟨u87, hinv⟩ := hinv
      obtain ⟨u88, hinv⟩ := hinv
      obtain ⟨u89, hinv⟩ := hinv
      obtain ⟨u90, hinv⟩ := hinv
      obtain ⟨u91, hinv⟩ := hinv
      obtain ⟨u92, hinv⟩ := hinv
      obtain ⟨u93, hinv⟩ := hinv
      obtain ⟨u94, hinv⟩ := hinv
      obtain ⟨u95, hinv⟩ := hinv
      obtain ⟨u96, hinv⟩ := hinv
      obtain ⟨u97, hinv⟩ := hinv
      obtain ⟨u98, hinv⟩ := hinv
      obtain ⟨u99, hinv⟩ := hinv
      obtain ⟨u100, hinv⟩ := hinv
      obtain ⟨u101, hinv⟩ := hinv
      obtain ⟨u102, hinv⟩ := hinv
      obtain ⟨u103, hinv⟩ := hinv
      obtain ⟨u104, hinv⟩ := hinv
      obtain ⟨u105, hinv⟩ := hinv
      obtain ⟨u106, hinv⟩ := hinv
      obtain ⟨u107, hinv⟩ := hinv
      obtain ⟨u108, hinv⟩ := hinv
      obtain ⟨u109, hinv⟩ := hinv
      obtain ⟨u110, hinv⟩ := hinv
      obtain ⟨u111, hinv⟩ := hinv
      obtain ⟨u112, hinv⟩ := hinv
      obtain ⟨u113, hinv⟩ := hinv
      obtain ⟨u114, hinv⟩ := hinv
      obtain ⟨u115, hinv⟩ := hinv
      obtain ⟨u116, hinv⟩ := hinv
      obtain ⟨u117, hinv⟩ := hinv
      obtain ⟨u118, hinv⟩ := hinv
      obtain ⟨u119, hinv⟩ := hinv
      obtain ⟨u120, hinv⟩ := hinv
      obtain ⟨u121, hinv⟩ := hinv
      obtain ⟨u122, hinv⟩ := hinv
      obtain ⟨u123, hinv⟩ := hinv
      obtain ⟨u124, hinv⟩ := hinv
      obtain ⟨u125, hinv⟩ := hinv
      obtain ⟨u126, hinv⟩ := hinv
      obtain ⟨u127, hinv⟩ := hinv
      obtain ⟨u128, hinv⟩ := hinv
      obtain ⟨u129, hinv⟩ := hinv
      obtain ⟨u130, hinv⟩ := hinv
      obtain ⟨u131, hinv⟩ := hinv
      obtain ⟨u132, hinv⟩ := hinv
      obtain ⟨u133, hinv⟩ := hinv
      obtain ⟨u134, hinv⟩ := hinv
      obtain ⟨u135, hinv⟩ := hinv
      obtain ⟨u136, hinv⟩ := hinv
      obtain ⟨u137, hinv⟩ := hinv
      obtain ⟨u138, hinv⟩ := hinv
      obtain ⟨u139, hinv⟩ := hinv
      obtain ⟨u140, hinv⟩ := hinv
      obtain ⟨u141, hinv⟩ := hinv
      obtain ⟨u142, hinv⟩ := hinv
      obtain ⟨d, j, la, ha, hj, I, HLA⟩ := hinv
      subst ha
      have hlg := HLG.out
      cases gk with
      | zero =>
        obtain rfl : j = gs.length := by omega
        have ho := I.out.1
        have HS := Lib.hid (show Blk wr w2.heap.size 3 (seenL n gs.flatten).toArray by
          have h := I.out.2.1
          rwa [List.take_length] at h)
        have HM := Lib.hid I.out.2.2
        have HB := Lib.hid (B5.out.trans ((ho.to_below (b := w.heap.size) (fun r e => by rw [e]; have := B2.out.size; omega) B5.out.size)))
        have H6 := Lib.hid (ho.blk K6.out (by omega))
        have H4 := Lib.hid (ho.blk K3d.out (by have := HZc.out; omega))
        have q6 := H6.out.cell 0
        simp at q6
        clear ho I HLA
        go_wp2_with fail
        go_loopg [136] n (fun gg v wq => ∃ k : Nat, k + gg = n ∧ v = .int .i64 (k : Int) ∧ wq = wr)
        case atStart => exact ⟨0, by omega, rfl, rfl⟩
        case round =>
          obtain ⟨k, hkn, rfl, rfl⟩ := hrel
          cases gk with
          | zero =>
            obtain rfl : k = n := by omega
            have z4 := H4.out.frozen 0
            have q4 := H4.out.cell 0
            simp at q4
            clear q6
            go_wp2_with fail
            exact parts_end (b4 := w.heap.size + 1 + 1) (by rfl) (H4.out.set_ 0 (.bool true) |>.cell 0) (HB.out.setCell (p := ⟨w.heap.size + 1 + 1, 0, none⟩) (by show w.heap.size ≤ w.heap.size + 1 + 1; omega) _) (Nat.le_refl _) (HM.out.grown (grownBy_setCell _ _ _ _) (fun r e => by injection e with e; have := HZc.out; have := Z5.out; omega)) (by have := HZc.out; have := Z5.out; omega) (by have := HZc.out; have := Z5.out; omega)
          | succ g3 =>
            have hk : k < n := by omega
            have qk := HS.out.cell k
            rw [List.getElem?_toArray, seen_get hk, if_pos (by rw [← HGS.out]; exact allP_mem (by rw [List.length_map, HR.out.1]; exact hk))] at qk
            go_wp2_with fail
            go_roundg g3
            case measure => omega
            case rel => exact ⟨k + 1, by omega, by go_num, rfl⟩
      | succ g2 =>
        have hjl : j < gs.length := by omega
        obtain ⟨g, hg⟩ : ∃ g, gs[j]? = some g := ⟨_, List.getElem?_eq_getElem hjl⟩
        obtain ⟨f, hf, hgf⟩ : ∃ f, (dd (ks.map (·.1)))[j]? = some f ∧ g = pos (ks.map (·.1)) f := by
          have h := hg
          rw [← HGS.out, grpL, List.getElem?_map] at h
          obtain ⟨f, h1, h2⟩ := Option.map_eq_some_iff.1 h
          exact ⟨f, h1, h2.symm⟩
        have hfm := (mem_dd _ _).1 (List.mem_of_getElem? hf)
        obtain ⟨hk0, hp0⟩ := head_at hfm
        obtain ⟨q0, hq0⟩ : ∃ q0, q0 = head0 (ks.map (·.1)) f := ⟨_, rfl⟩
        rw [← hq0] at hk0 hp0
        have hg0 : g[0]? = some q0 := by rw [hgf]; exact hp0
        have hla := HLA.out g q0 hg hg0
        have hqn : q0 < n := by
          have := (List.getElem?_eq_some_iff.1 hk0).1
          rw [List.length_map, HR.out.1] at this
          exact this
        obtain ⟨b, rfl, A1, c1, hc1, hrow⟩ := G.out j g hg
        obtain ⟨b1, rfl, hc0⟩ := hrow 0 q0 hg0
        have HROW := Lib.hid hrow
        have tr := I.out.1
        have lift : ∀ (b o : Nat) (v : Value), w2.cell? ⟨b, o, none⟩ = some v → wr.cell? ⟨b, o, none⟩ = some v := fun b o v h => by
          have hlt : b < w2.heap.size := by
            rcases Nat.lt_or_ge b w2.heap.size with h1 | h1
            · exact h1
            · unfold World.cell? at h
              rw [Array.getElem?_eq_none h1] at h
              cases h
          exact tr.cell (by omega) (cell_later BG.out h)
        have LIFT := Lib.hid lift
        have qg := lift _ _ _ hc1
        have qz := lift _ _ _ hc0
        have hl0 := (List.getElem?_eq_some_iff.1 hg0).1
        have hgl : g.length ≤ n := by
          rw [hgf]
          have h1 := pos_len (ks.map (·.1)) f
          rw [List.length_map, HR.out.1] at h1
          exact h1
        have T := Lib.hid tr
        clear hrow lift hc1 hc0 tr HLA hk0 hp0
        have HG := Lib.hid (And.intro hg (And.intro hf hgf))
        have HQ := Lib.hid hq0
        have HG0 := Lib.hid hg0
        clear hg hf hgf hq0 hg0
        go_wp2_with fail
        have TA := Lib.hid (T.out.grown (World.grownBy_alloc wr (.cells #[.slice (some ⟨b1, 0, none⟩) g.length c1] 45) none) (fun r e => by cases e))
        have BA := Lib.hid ((Below.refl wr.heap.size wr).alloc (Nat.le_refl _) (.cells #[.slice (some ⟨b1, 0, none⟩) g.length c1] 45))
        have K9 := Lib.hid (Blk.new wr 45 #[.slice (some ⟨b1, 0, none⟩) g.length c1])
        have ZA := Lib.hid (show (wr.alloc (.cells #[.slice (some ⟨b1, 0, none⟩) g.length c1] 45)).heap.size = wr.heap.size + 1 by simp)
        generalize wr.alloc (.cells #[.slice (some ⟨b1, 0, none⟩) g.length c1] 45) = wa at *
        go_cut [52] from 35 to 52 (fun s wx => s = .bool false ∧ Hid (Turn w5 (fun r => r = w2.heap.size) wx ∧ Below wr.heap.size wr wx ∧ Blk wx wr.heap.size 45 #[.slice (some ⟨b1, 0, none⟩) g.length c1] ∧ wx.heap.size = wr.heap.size + 1))
        case first =>
          have q9 : wa.cell? ⟨wr.heap.size, 0, none⟩ = some (.slice (some ⟨b1, 0, none⟩) g.length c1) := by have h := K9.out.cell 0; simpa using h
          have qz9 : wa.cell? ⟨b1, 0, none⟩ = some (.int .i64 (q0 : Int)) := cell_later BA.out qz
          have qk9 : wa.cell? ⟨w.heap.size, 0, none⟩ = some (.slice A n c) := by have h := (TA.out.blk K1d.out (by have := HZc.out; omega)).cell 0; simpa using h
          have d1 : decide ((g.length : Int) = 0) = false := decide_eq_false (by omega)
          have d2 : decide ((q0 : Int) ≤ la) = false := decide_eq_false (by omega)
          have d3 : decide ((n : Int) ≤ (q0 : Int)) = false := decide_eq_false (by omega)
          have d4 : ((g.length : Int) == 0) = false := by rw [beq_eq_false_iff_ne]; omega
          clear qg qz
          go_quiet (fail)
          go_wp2_with fail
          go_meet
          exact ⟨congrArg Value.bool (decide_eq_false (by omega)), Lib.hid ⟨TA.out.below (below_drewN (Below.refl _ _) _), below_drewN BA.out _, K9.out.drewN _, ZA.out⟩⟩
        case rest =>
          obtain ⟨rfl, C1⟩ := hcut
          clear TA BA K9 ZA qg qz
          have q9 : wc.cell? ⟨wr.heap.size, 0, none⟩ = some (.slice (some ⟨b1, 0, none⟩) g.length c1) := by have h := C1.out.2.2.1.cell 0; simpa using h
          have qz9 : wc.cell? ⟨b1, 0, none⟩ = some (.int .i64 (q0 : Int)) := by
            have h := LIFT.out
            obtain ⟨b2, e2, h2⟩ := HROW.out 0 q0 HG0.out
            injection e2 with e2
            injection e2 with e2
            subst e2
            exact cell_later C1.out.2.1 (h _ _ _ h2)
          have qk9 : wc.cell? ⟨w.heap.size, 0, none⟩ = some (.slice A n c) := by have h := (C1.out.1.blk K1d.out (by have := HZc.out; omega)).cell 0; simpa using h
          obtain ⟨k0, hk0, hkf⟩ : ∃ k0, ks[q0]? = some k0 ∧ k0.1 = f := by
            have h := (mem_pos.1 (by
              have h1 := List.mem_of_getElem? HG0.out
              rwa [HG.out.2.2] at h1) : (ks.map (·.1))[q0]? = some f)
            rw [List.getElem?_map] at h
            exact Option.map_eq_some_iff.1 h
          have hko := HOK.out k0 (List.mem_of_getElem? hk0)
          have HFO := Lib.hid (show FlOk f by rw [← hkf]; exact hko.fl)
          have hr3 := HR.out.2.2 (by omega)
          obtain ⟨ba, off, rfl, hbl, hrow3⟩ := hr3
          have HRG := Lib.hid (show wc.rangeAt ba (off + q0 * 37) (flC f.1 f.2).toList by
            have h := hrow3 q0 k0 hk0
            rw [← hkf]
            have hB := (B5.out.trans (I.out.1.to_below (b := w.heap.size) (fun r e => by rw [e]; have := B2.out.size; omega) B5.out.size)).trans (C1.out.2.1.mono (by have := B5.out.size; have := I.out.1.size; omega))
            exact range_later hB (ky_fl_range h))
          have HFI := Lib.hid (fl_info f.1 f.2 HFO.out.la HFO.out.lb)
          have HFS := Lib.hid (show (Tryd.prog.info? 29).map (·.size) = some (flC f.1 f.2).size by rw [flC_size _ _ HFO.out.la HFO.out.lb]; exact flSize)
          have HFZ := Lib.hid (show (flC zE zE).size = (flC f.1 f.2).size by rw [flC_size _ _ HFO.out.la HFO.out.lb]; rfl)
          clear hko hk0 hkf hbl hrow3
          go_upto_region 12 with fail
          go_cut [10] from 56 to 62 (fun s wx => s = .pointer (some ⟨wr.heap.size + 1, 0, none⟩) ∧ Hid (Turn w5 (fun r => r = w2.heap.size) wx ∧ Below wr.heap.size wr wx ∧ Blk wx wr.heap.size 45 #[.slice (some ⟨b1, 0, none⟩) g.length c1] ∧ Blk wx (wr.heap.size + 1) 29 (flC f.1 f.2) ∧ wx.heap.size = wr.heap.size + 2))
          case first =>
            refine wp_region_held_drew (S := fun W => W.cell? ⟨w.heap.size, 0, none⟩ = some (.slice (some ⟨ba, off, none⟩) n c) ∧ W.cell? ⟨wr.heap.size, 0, none⟩ = some (.slice (some ⟨b1, 0, none⟩) g.length c1) ∧ W.cell? ⟨b1, 0, none⟩ = some (.int .i64 (q0 : Int)) ∧ W.rangeAt ba (off + q0 * 37) (flC f.1 f.2).toList) (by kernel_rfl) (⟨qk9, q9, qz9, HRG.out⟩) (fun hHeld => ?_)
            refine wpAnyH_take (i := 0) (oi := _) (v := ?_) rfl (by kernel_rfl) (by kernel_rfl) (by kernel_rfl) (fun _ _ _ h => h) (Or.inl ⟨by rfl, ?_⟩) (by assumption) ?_
            case refine_2 => (intro w hSw; obtain ⟨h1, h2, h3, h4⟩ := hSw; clear h4; go_simp <;> with_reducible rfl)
            try simp only [List.getElem_toArray, List.getElem_cons_zero, Act.put, List.setIfInBounds_toArray, List.set_cons_zero, List.set_cons_succ]
            refine wpAnyH_take (i := 1) (oi := _) (v := ?_) rfl (by kernel_rfl) (by kernel_rfl) (by kernel_rfl) (fun _ _ _ h => h) (Or.inl ⟨by rfl, ?_⟩) (by assumption) ?_
            case refine_2 => (intro w hSw; obtain ⟨h1, h2, h3, h4⟩ := hSw; clear h4; go_simp <;> with_reducible rfl)
            try simp only [List.getElem_toArray, List.getElem_cons_zero, List.getElem_cons_succ, Act.put, List.setIfInBounds_toArray, List.set_cons_zero, List.set_cons_succ]
            refine wpAnyH_take (i := 2) (oi := _) (v := ?_) rfl (by kernel_rfl) (by kernel_rfl) (by kernel_rfl) (fun _ _ _ h => h) (Or.inl ⟨by rfl, ?_⟩) (by assumption) ?_
            case refine_2 => (intro w hSw; obtain ⟨h1, h2, h3, h4⟩ := hSw; clear h4; go_simp <;> with_reducible rfl)
            try simp only [List.getElem_toArray, List.getElem_cons_zero, List.getElem_cons_succ, Act.put, List.setIfInBounds_toArray, List.set_cons_zero, List.set_cons_succ]
            refine wpAnyH_take (i := 3) (oi := _) (v := ?_) rfl (by kernel_rfl) (by kernel_rfl) (by kernel_rfl) (fun _ _ _ h => h) (Or.inl ⟨by rfl, ?_⟩) (by assumption) ?_
            case refine_2 => (intro w hSw; obtain ⟨h1, h2, h3, h4⟩ := hSw; clear h4; go_simp <;> with_reducible rfl)
            try simp only [List.getElem_toArray, List.getElem_cons_zero, List.getElem_cons_succ, Act.put, List.setIfInBounds_toArray, List.set_cons_zero, List.set_cons_succ]
            refine wpAnyH_take (i := 4) (oi := _) (v := ?_) rfl (by kernel_rfl) (by kernel_rfl) (by kernel_rfl) (fun _ _ _ h => h) (Or.inl ⟨by rfl, ?_⟩) (by assumption) ?_
            case refine_2 => (intro w hSw; obtain ⟨h1, h2, h3, h4⟩ := hSw; clear h4; go_simp <;> with_reducible rfl)
            try simp only [List.getElem_toArray, List.getElem_cons_zero, List.getElem_cons_succ, Act.put, List.setIfInBounds_toArray, List.set_cons_zero, List.set_cons_succ]
            refine wpAnyH_take (i := 5) (oi := _) (v := ?_) rfl (by kernel_rfl) (by kernel_rfl) (by kernel_rfl) (fun _ _ _ h => h) (Or.inl ⟨by rfl, ?_⟩) (by assumption) ?_
            case refine_2 => (intro w hSw; obtain ⟨h1, h2, h3, h4⟩ := hSw; clear h4; go_simp <;> with_reducible rfl)
            try simp only [List.getElem_toArray, List.getElem_cons_zero, List.getElem_cons_succ, Act.put, List.setIfInBounds_toArray, List.set_cons_zero, List.set_cons_succ]
            refine wpAnyH_take (i := 6) (oi := _) (v := .agg (flC f.1 f.2).toList.toArray) rfl (by kernel_rfl) (by kernel_rfl) (by kernel_rfl) (fun _ _ _ h => h) (yieldsIf_load_mid (by rfl) 29 (.tmp 61) rfl ba (off + q0 * 37) (by rfl) (flC f.1 f.2).toList _ (fun _ h => h.2.2.2) Tryd.underlying29 rfl HFI.out) (by assumption) ?_
            try simp only [List.getElem_toArray, List.getElem_cons_zero, List.getElem_cons_succ, Act.put, List.setIfInBounds_toArray, List.set_cons_zero, List.set_cons_succ]
            refine wpAnyH_ready (rs := [7]) (by kernel_rfl) (by simp) ?_
            refine AllReadyH.cons (o := _) rfl (fun K hK => ?_) AllReadyH.nil
            simp only [List.getElem_toArray, List.getElem_cons_zero, List.getElem_cons_succ]
            go_simp
            refine hK.out _ _ ⟨later_new (.cells (flC zE zE) 29) qk9, later_new (.cells (flC zE zE) 29) q9, later_new (.cells (flC zE zE) 29) qz9, fun j v hv => later_new (.cells (flC zE zE) 29) (HRG.out j v hv)⟩ (fun hHeld2 => ?_)
            clear hK K hHeld 
            have hHeld := hHeld2
            clear hHeld2
            try simp only [List.getElem_toArray, List.getElem_cons_zero, List.getElem_cons_succ, Act.put, List.setIfInBounds_toArray, List.set_cons_zero, List.set_cons_succ]
            refine wpAnyH_ready (rs := [8]) (by kernel_rfl) (by simp) ?_
            refine AllReadyH.cons (o := _) rfl (fun K hK => ?_) AllReadyH.nil
            simp only [List.getElem_toArray, List.getElem_cons_zero, List.getElem_cons_succ]
            refine if_wanted (by rfl) (wp_store_row 29 (.tmp 10) (.tmp 62) rfl wc.heap.size (flC f.1 f.2) (by rfl) (by rfl) 29 (flC zE zE) (Blk.new wc 29 (flC zE zE)) HFS.out HFZ.out (by rw [← Array.all_toList]; exact flC_one f.1 f.2) ?_)
            refine hK.out _ _ ⟨held_new (.cells (flC zE zE) 29) (flC f.1 f.2) qk9, held_new (.cells (flC zE zE) 29) (flC f.1 f.2) q9, held_new (.cells (flC zE zE) 29) (flC f.1 f.2) qz9, fun j v hv => held_new (.cells (flC zE zE) 29) (flC f.1 f.2) (HRG.out j v hv)⟩ (fun hHeld2 => ?_)
            clear hK K hHeld 
            have hHeld := hHeld2
            clear hHeld2
            refine wpAnyH_done (by kernel_rfl) ?_ _
            clear hHeld
            obtain ⟨hgn, hbn, hzn⟩ := new_flow wc (.cells (flC zE zE) 29) (flC zE zE) (flC f.1 f.2) rfl
            have ZC := C1.out.2.2.2
            go_wp2_with fail
            go_meet
            exact ⟨by rw [ZC], Lib.hid ⟨C1.out.1.grown hgn (fun r e => by cases e), C1.out.2.1.grown hgn (by omega) (fun r e => by cases e), C1.out.2.2.1.grown hgn (by simp), ZC ▸ hbn, hzn.trans (by rw [ZC])⟩⟩
          case rest =>
            obtain ⟨rfl, C2⟩ := hcut
            clear q9 qz9 qk9 HRG C1 HFZ
            go_upto_region 14 with fail
            have ZC := C2.out.2.2.2.2
            have TD := Lib.hid (C2.out.1.grown (World.grownBy_alloc wc (.cells #[.int .i64 0] 3) none) (fun r e => by cases e))
            have BD := Lib.hid (C2.out.2.1.alloc (by omega) (.cells #[.int .i64 0] 3))
            have K9 := Lib.hid (C2.out.2.2.1.alloc (.cells #[.int .i64 0] 3))
            have K10 := Lib.hid (C2.out.2.2.2.1.alloc (.cells #[.int .i64 0] 3))
            have k11 := Blk.new wc 3 #[.int .i64 0]
            rw [ZC] at k11
            have K11 := Lib.hid k11
            have ZD := Lib.hid (show (wc.alloc (.cells #[.int .i64 0] 3)).heap.size = wr.heap.size + 3 by rw [World.size_alloc, ZC])
            rw [ZC]
            clear k11 ZC C2
            generalize wc.alloc (.cells #[.int .i64 0] 3) = wd at *
            have qk := (TD.out.blk K1d.out (by have := HZc.out; omega)).cell 0
            simp at qk
            go_wp2_with (refine wpList_load_blk 29 (.tmp 10) (wr.heap.size + 1) 29 (flC f.1 f.2) _ K10.out (by rfl) (by rfl) Tryd.underlying29 rfl HFS.out (by rfl) ?_)
            refine (of_make _ _ _ _ _).mono ?_
            rintro e w1' ⟨rfl, rfl⟩
            go_wp2_with fail
            have T1 := Lib.hid ((TD.out.grown (World.grownBy_alloc wd (.cells #[.slice (some ⟨ba, off, none⟩) n c] 42) none) (fun r e => by cases e)).grown (World.grownBy_alloc _ (.cells (flC f.1 f.2) 29) none) (fun r e => by cases e))
            have B1 := Lib.hid ((BD.out.alloc (by have := ZD.out; omega) (.cells #[.slice (some ⟨ba, off, none⟩) n c] 42)).alloc (by have := ZD.out; rw [World.size_alloc]; omega) (.cells (flC f.1 f.2) 29))
            have J9 := Lib.hid ((K9.out.alloc (.cells #[.slice (some ⟨ba, off, none⟩) n c] 42)).alloc (.cells (flC f.1 f.2) 29))
            have J10 := Lib.hid ((K10.out.alloc (.cells #[.slice (some ⟨ba, off, none⟩) n c] 42)).alloc (.cells (flC f.1 f.2) 29))
            have J11 := Lib.hid ((K11.out.alloc (.cells #[.slice (some ⟨ba, off, none⟩) n c] 42)).alloc (.cells (flC f.1 f.2) 29))
            have js := (Blk.new wd 42 #[.slice (some ⟨ba, off, none⟩) n c]).alloc (.cells (flC f.1 f.2) 29)
            have jf := Blk.new (wd.alloc (.cells #[.slice (some ⟨ba, off, none⟩) n c] 42)) 29 (flC f.1 f.2)
            rw [ZD.out] at js
            rw [World.size_alloc, ZD.out] at jf
            have JS := Lib.hid js
            have JF := Lib.hid jf
            have Z1 := Lib.hid (show ((wd.alloc (.cells #[.slice (some ⟨ba, off, none⟩) n c] 42)).alloc (.cells (flC f.1 f.2) 29)).heap.size = wr.heap.size + 5 by rw [World.size_alloc, World.size_alloc, ZD.out])
            rw [ZD.out]
            clear TD BD K9 K10 K11 js jf ZD qk
            generalize (wd.alloc (.cells #[.slice (some ⟨ba, off, none⟩) n c] 42)).alloc (.cells (flC f.1 f.2) 29) = W1 at *
            obtain ⟨l0, hl0'⟩ : ∃ l0, l0 = (gs.take j).flatten := ⟨_, rfl⟩
            have HL0 := Lib.hid hl0'
            have J6 := Lib.hid (show Blk W1 w2.heap.size 3 (seenL n l0).toArray by rw [hl0']; exact I.out.2.1.keep B1.out)
            have HBW := Lib.hid (B5.out.trans (T1.out.to_below (b := w.heap.size) (fun r e => by rw [e]; have := B2.out.size; omega) B5.out.size))
            have HGO := Lib.hid (show g = (ofK ks f).map (·.1) by rw [of_pos]; exact HG.out.2.2)
            have hz5 := Lib.hid (show w.heap.size + 3 ≤ w2.heap.size ∧ w2.heap.size + 2 = w5.heap.size ∧ w5.heap.size ≤ wr.heap.size ∧ b1 < w2.heap.size from ⟨HZc.out, Z5.out.symm, I.out.1.size, by
              obtain ⟨b2, e2, h2⟩ := HROW.out 0 q0 HG0.out
              injection e2 with e2
              injection e2 with e2
              subst e2
              rcases Nat.lt_or_ge b1 w2.heap.size with h1 | h1
              · exact h1
              · unfold World.cell? at h2
                rw [Array.getElem?_eq_none h1] at h2
                cases h2⟩)
            clear hl0'
            refine (wpIn_wide (n := 0)).1 (range_outerS (ps := #[66, 67]) (gf := 24) (lb := #[.pointer (some ⟨wr.heap.size + 3, 0, none⟩), .pointer (some ⟨wr.heap.size + 3 + 1, 0, none⟩)]) rfl (enters_of Tryd.func24 (by kernel_rfl) rfl)
              (encs := fun x : Nat × Ky => #[.int .i64 (x.1 : Int), .int .u64 (x.2.2 : Int)]) (fun _ => rfl) (ofK ks f) (fun r => r = wr.heap.size + 3 ∨ r = wr.heap.size + 3 + 1) (fun W' => RdK W' (some ⟨ba, off, none⟩) n c ks) ?seq ?hX
              (fun pre A' => Turn W1 (fun r => r = w2.heap.size ∨ r = wr.heap.size + 2 ∨ r = wr.heap.size + 3 ∨ r = wr.heap.size + 3 + 1) A' ∧ Blk A' w2.heap.size 3 (seenL n (l0 ++ pre.map (·.1))).toArray ∧ Blk A' (wr.heap.size + 2) 3 #[.int .i64 (pre.length : Int)]) ?hI
              (fun _ _ _ => False) (fun _ _ _ _ _ h _ _ => h) ?h0 ?hRR
              (fun x a' A' => a' = { tmps := #[u0, u1, .pointer (some ⟨w.heap.size, 0, none⟩), .pointer (some ⟨w.heap.size + 1, 0, none⟩), .pointer (some ⟨w.heap.size + 1 + 1, 0, none⟩), u5, .pointer (some ⟨w2.heap.size + 1, 0, none⟩), .int .i64 (q0 : Int), u8, .pointer (some ⟨wr.heap.size, 0, none⟩), .pointer (some ⟨wr.heap.size + 1, 0, none⟩), .pointer (some ⟨wr.heap.size + 2, 0, none⟩), .int .i64 (x.1 : Int), .int .u64 (x.2.2 : Int), u14, u15, u16, u17, u18, u19, u20, u21, u22, u23, u24, u25, u26, u27, u28, .slice (some ⟨b, 0, none⟩) gs.length cg, .int .i64 (gs.length : Int), .int .i64 (j : Int), .bool true, .pointer (some ⟨b, j, none⟩), .slice (some ⟨b1, 0, none⟩) g.length c1, u35, u36, u37, u38, u39, u40, u41, u42, u43, u44, u45, u46, u47, u48, u49, u50, u51, .bool false, .slice (some ⟨b1, 0, none⟩) g.length c1, .pointer (some ⟨b1, 0, none⟩), .int .i64 (q0 : Int), u56, u57, u58, u59, u60, u61, u62, .slice (some ⟨ba, off, none⟩) n c, .agg (flC f.1 f.2), .func (.func 24) #[] #[.pointer (some ⟨wr.heap.size + 3, 0, none⟩), .pointer (some ⟨wr.heap.size + 3 + 1, 0, none⟩)], .int .i64 (x.1 : Int), .int .u64 (x.2.2 : Int), u68, u69, u70, u71, u72, u73, u74, u75, u76, u77, u78, u79, u80, u81, u82, u83, u84, u85, u86, u87, u88, u89, u90, u91, u92, u93, u94, u95, u96, u97, u98, u99, u100, u101, u102, u103, u104, u105, u106, u107, u108, u109, u110, u111, u112, u113, u114, u115, u116, u117, u118, u119, u120, u121, u122, u123, u124, u125, u126, u127, u128, u129, u130, u131, u132, u133, u134, u135, u136, u137, u138, u139, u140, u141, u142], defers := [] }) (fun _ _ _ _ _ h => h) ?assign ?body ?done (fun _ _ _ _ _ h _ _ => h.elim))
            case seq =>
              intro W' hb hz
              exact of_seq (wr.heap.size + 3) (wr.heap.size + 3 + 1) _ n c ks f W' (JS.out.keep hb) (JF.out.keep hb) HR.out.1 HOK.out HFO.out (by omega)
            case hX =>
              intro r e
              have := Z1.out
              omega
            case hI =>
              rintro s A' B' row ⟨h1, h2, h3⟩ hg hrow
              have := Z1.out
              have := hz5.out
              exact ⟨h1.grown hg (fun r e => by have := hrow r e; omega), h2.grown hg (fun e => by have := hrow _ e.symm; omega), h3.grown hg (fun e => by have := hrow _ e.symm; omega)⟩
            case h0 => exact ⟨Turn.refl _ _, by rw [List.map_nil, List.append_nil]; exact J6.out, J11.out⟩
            case hRR =>
              rintro s A' ⟨h1, h2, h3⟩
              exact HR.out.below (HBW.out.trans (h1.to_below (fun r e => by have := hz5.out; omega) HBW.out.size))
            case assign =>
              rintro pre x rest A' K hxs hII hX hz2 hK
              have HK := Lib.hid hK
              have HII := Lib.hid hII
              clear hK hII hX hz2 hxs
              have hsem := @Oper.semAt_some
              gi_wp2_with fail
              exact HK.out _ A' (KeepsX.refl _ _) HII.out rfl
            case body =>
              rintro pre ⟨i, kk⟩ rest a' A' hxs ⟨h1, h2, h3⟩ rfl hXA hzA hrec
              dsimp only
              obtain ⟨p, hp⟩ : ∃ p, p = pre.length := ⟨_, rfl⟩
              rw [← hp] at h3
              have HP := Lib.hid hp
              have hz6 := hz5.out
              have hz7 := Z1.out
              obtain ⟨hki, hkf⟩ := of_at (x := (i, kk)) (ks := ks) (f := f) (by rw [hxs]; exact List.mem_append_right _ List.mem_cons_self)
              have hki : ks[i]? = some kk := hki
              have hkf : kk.1 = f := hkf
              have hko := HOK.out kk (List.mem_of_getElem? hki)
              have hgs2 : g = pre.map (·.1) ++ i :: rest.map (·.1) := by rw [HGO.out, hxs, List.map_append, List.map_cons]
              have hgi : g[p]? = some i := by
                rw [hgs2, List.getElem?_append_right (by rw [List.length_map]; omega), List.length_map, hp, Nat.sub_self]
                rfl
              have hpg : p < g.length := (List.getElem?_eq_some_iff.1 hgi).1
              have hin : i < n := by
                have h := (List.getElem?_eq_some_iff.1 hki).1
                rw [HR.out.1] at h
                exact h
              have HNY := Lib.hid (show i ∉ l0 ++ pre.map (·.1) by rw [HL0.out, ← HGS.out]; exact not_yet (by rw [HGS.out]; exact HG.out.1) hgs2)
              have q11 := h3.cell 0
              simp at q11
              have q9 := (h1.blk J9.out (by omega)).cell 0
              simp at q9
              have q2 := (h1.blk (T1.out.blk K1d.out (by omega)) (by omega)).cell 0
              simp at q2
              have qg : A'.cell? ⟨b1, p, none⟩ = some (.int .i64 (i : Int)) := h1.cell (by omega) (cell_later B1.out (by
                obtain ⟨b2, e2, h2⟩ := HROW.out p i hgi
                injection e2 with e2
                injection e2 with e2
                subst e2
                exact LIFT.out _ _ _ h2))
              obtain ⟨KC, hKC⟩ : ∃ KC, KC = kyC kk := ⟨_, rfl⟩
              have HRW := Lib.hid (show A'.rangeAt ba (off + i * 37) KC.toList by
                have hRK : RdK A' (some ⟨ba, off, none⟩) n c ks := HR.out.below (HBW.out.trans (h1.to_below (fun r e => by omega) HBW.out.size))
                obtain ⟨b2, o2, e2, _, h⟩ := hRK.2.2 (by omega)
                injection e2 with e2
                injection e2 with e2 e3
                subst e2
                subst e3
                rw [hKC]
                exact h i kk hki)
              have HRF := Lib.hid (show A'.rangeAt (wr.heap.size + 1) 0 (flC f.1 f.2).toList from (h1.blk J10.out (by omega)).whole)
              have HBK := Lib.hid (show Tryd.prog.built 32 [(0, .agg (flC f.1 f.2)), (1, .int .u64 (kk.2 : Int))] = some KC by
                rw [hKC, ← hkf]
                exact built_kx kk.1.1 kk.1.2 kk.2 hko.la hko.lb)
              have hq : ∀ W : World, (Op.equalIn 10000 32 (.agg KC) (.agg KC)).run Tryd.prog W = .ok true W := fun W => by
                rw [hKC]
                exact (eq_key kk kk hko hko W).trans (by simp)
              have HKI := Lib.hid (show (Tryd.prog.info? 32).map (·.size) = some KC.toList.length by rw [hKC, kySize, Array.length_toList, kyC_size hko])
              have H1 := Lib.hid h1
              have H2 := Lib.hid h2
              have H3 := Lib.hid h3
              have hi0 : (0 : Int) ≤ (i : Int) ∧ (i : Int) < (n : Int) := by omega
              have hp0 : (0 : Int) ≤ (p : Int) ∧ (p : Int) < (g.length : Int) := by omega
              have d1 : decide ((g.length : Int) ≤ (p : Int)) = false := decide_eq_false (by omega)
              have d2 : decide ((i : Int) < 0) = false := decide_eq_false (by omega)
              have d3 : decide ((n : Int) ≤ (i : Int)) = false := decide_eq_false (by omega)
              have hsem := @Oper.semAt_some
              have HZ6 := Lib.hid hz6
              have HZ7 := Lib.hid hz7
              have HGS2 := Lib.hid hgs2
              have HXA := Lib.hid hXA
              clear h1 h2 h3 hki hkf hko hgs2 hgi hKC hp hz6 hz7 hxs hzA hrec hXA
              gi_wp2_with fail
              refine wpIn_region_held (S := fun W => W.cell? ⟨wr.heap.size + 2, 0, none⟩ = some (.int .i64 (p : Int)) ∧ W.cell? ⟨wr.heap.size, 0, none⟩ = some (.slice (some ⟨b1, 0, none⟩) g.length c1) ∧ W.cell? ⟨b1, p, none⟩ = some (.int .i64 (i : Int)) ∧ W.cell? ⟨w.heap.size, 0, none⟩ = some (.slice (some ⟨ba, off, none⟩) n c) ∧ W.rangeAt ba (off + i * 37) KC.toList ∧ W.rangeAt (wr.heap.size + 1) 0 (flC f.1 f.2).toList) (by kernel_rfl) (by kernel_rfl) (fun ⟨_, _, h⟩ => h) ⟨q11, q9, qg, q2, HRW.out, HRF.out⟩ (fun hHeld => ?_)
              refine wpAnyH_take (i := 0) (oi := _) (v := ?_) rfl (by kernel_rfl) (by kernel_rfl) (by kernel_rfl) (fun _ _ _ h => h) (Or.inl ⟨by rfl, ?_⟩) (by assumption) ?_
              case refine_2 => (intro w hSw; obtain ⟨s1, s2, s3, s4, s5, s6⟩ := hSw; clear s5 s6; go_simp <;> with_reducible rfl)
              try simp only [List.getElem_toArray, List.getElem_cons_zero, Act.put, List.setIfInBounds_toArray, List.set_cons_zero, List.set_cons_succ]
              refine wpAnyH_take (i := 1) (oi := _) (v := ?_) rfl (by kernel_rfl) (by kernel_rfl) (by kernel_rfl) (fun _ _ _ h => h) (Or.inl ⟨by rfl, ?_⟩) (by assumption) ?_
              case refine_2 => (intro w hSw; obtain ⟨s1, s2, s3, s4, s5, s6⟩ := hSw; clear s5 s6; go_simp <;> with_reducible rfl)
              try simp only [List.getElem_toArray, List.getElem_cons_zero, List.getElem_cons_succ, Act.put, List.setIfInBounds_toArray, List.set_cons_zero, List.set_cons_succ]
              refine wpAnyH_take (i := 2) (oi := _) (v := ?_) rfl (by kernel_rfl) (by kernel_rfl) (by kernel_rfl) (fun _ _ _ h => h) (Or.inl ⟨by rfl, ?_⟩) (by assumption) ?_
              case refine_2 => (intro w hSw; obtain ⟨s1, s2, s3, s4, s5, s6⟩ := hSw; clear s5 s6; go_simp <;> with_reducible rfl)
              try simp only [List.getElem_toArray, List.getElem_cons_zero, List.getElem_cons_succ, Act.put, List.setIfInBounds_toArray, List.set_cons_zero, List.set_cons_succ]
              refine wpAnyH_take (i := 3) (oi := _) (v := .bool false) rfl (by kernel_rfl) (by kernel_rfl) (by kernel_rfl) (fun _ _ _ h => h) (Or.inl ⟨by rfl, fun w hSw => ?_⟩) (by assumption) ?_
              case refine_1 => (obtain ⟨s1, s2, s3, s4, s5, s6⟩ := hSw; clear s5 s6; go_simp <;> first | with_reducible rfl | omega)
              try simp only [List.getElem_toArray, List.getElem_cons_zero, List.getElem_cons_succ, Act.put, List.setIfInBounds_toArray, List.set_cons_zero, List.set_cons_succ]
              refine wpAnyH_take (i := 4) (oi := _) (v := ?_) rfl (by kernel_rfl) (by kernel_rfl) (by kernel_rfl) (fun _ _ _ h => h) (Or.inl ⟨by rfl, ?_⟩) (by assumption) ?_
              case refine_2 => (intro w hSw; obtain ⟨s1, s2, s3, s4, s5, s6⟩ := hSw; clear s5 s6; go_simp <;> with_reducible rfl)
              try simp only [List.getElem_toArray, List.getElem_cons_zero, List.getElem_cons_succ, Act.put, List.setIfInBounds_toArray, List.set_cons_zero, List.set_cons_succ]
              refine wpAnyH_take (i := 5) (oi := _) (v := ?_) rfl (by kernel_rfl) (by kernel_rfl) (by kernel_rfl) (fun _ _ _ h => h) (Or.inl ⟨by rfl, ?_⟩) (by assumption) ?_
              case refine_2 => (intro w hSw; obtain ⟨s1, s2, s3, s4, s5, s6⟩ := hSw; clear s5 s6; go_simp <;> with_reducible rfl)
              try simp only [List.getElem_toArray, List.getElem_cons_zero, List.getElem_cons_succ, Act.put, List.setIfInBounds_toArray, List.set_cons_zero, List.set_cons_succ]
              refine wpAnyH_take (i := 6) (oi := _) (v := ?_) rfl (by kernel_rfl) (by kernel_rfl) (by kernel_rfl) (fun _ _ _ h => h) (Or.inl ⟨by rfl, ?_⟩) (by assumption) ?_
              case refine_2 => (intro w hSw; obtain ⟨s1, s2, s3, s4, s5, s6⟩ := hSw; clear s5 s6; go_simp <;> with_reducible rfl)
              try simp only [List.getElem_toArray, List.getElem_cons_zero, List.getElem_cons_succ, Act.put, List.setIfInBounds_toArray, List.set_cons_zero, List.set_cons_succ]
              refine wpAnyH_take (i := 7) (oi := _) (v := ?_) rfl (by kernel_rfl) (by kernel_rfl) (by kernel_rfl) (fun _ _ _ h => h) (Or.inl ⟨by rfl, ?_⟩) (by assumption) ?_
              case refine_2 => (intro w hSw; obtain ⟨s1, s2, s3, s4, s5, s6⟩ := hSw; clear s5 s6; go_simp <;> with_reducible rfl)
              try simp only [List.getElem_toArray, List.getElem_cons_zero, List.getElem_cons_succ, Act.put, List.setIfInBounds_toArray, List.set_cons_zero, List.set_cons_succ]
              refine wpAnyH_take (i := 8) (oi := _) (v := ?_) rfl (by kernel_rfl) (by kernel_rfl) (by kernel_rfl) (fun _ _ _ h => h) (Or.inl ⟨by rfl, ?_⟩) (by assumption) ?_
              case refine_2 => (intro w hSw; obtain ⟨s1, s2, s3, s4, s5, s6⟩ := hSw; clear s5 s6; go_simp <;> with_reducible rfl)
              try simp only [List.getElem_toArray, List.getElem_cons_zero, List.getElem_cons_succ, Act.put, List.setIfInBounds_toArray, List.set_cons_zero, List.set_cons_succ]
              refine wpAnyH_take (i := 9) (oi := _) (v := ?_) rfl (by kernel_rfl) (by kernel_rfl) (by kernel_rfl) (fun _ _ _ h => h) (Or.inl ⟨by rfl, ?_⟩) (by assumption) ?_
              case refine_2 => (intro w hSw; obtain ⟨s1, s2, s3, s4, s5, s6⟩ := hSw; clear s5 s6; go_simp <;> with_reducible rfl)
              try simp only [List.getElem_toArray, List.getElem_cons_zero, List.getElem_cons_succ, Act.put, List.setIfInBounds_toArray, List.set_cons_zero, List.set_cons_succ]
              refine wpAnyH_take (i := 10) (oi := _) (v := ?_) rfl (by kernel_rfl) (by kernel_rfl) (by kernel_rfl) (fun _ _ _ h => h) (Or.inl ⟨by rfl, ?_⟩) (by assumption) ?_
              case refine_2 => (intro w hSw; obtain ⟨s1, s2, s3, s4, s5, s6⟩ := hSw; clear s5 s6; go_simp <;> with_reducible rfl)
              try simp only [List.getElem_toArray, List.getElem_cons_zero, List.getElem_cons_succ, Act.put, List.setIfInBounds_toArray, List.set_cons_zero, List.set_cons_succ]
              refine wpAnyH_take (i := 11) (oi := _) (v := ?_) rfl (by kernel_rfl) (by kernel_rfl) (by kernel_rfl) (fun _ _ _ h => h) (Or.inl ⟨by rfl, ?_⟩) (by assumption) ?_
              case refine_2 => (intro w hSw; obtain ⟨s1, s2, s3, s4, s5, s6⟩ := hSw; clear s5 s6; go_simp <;> with_reducible rfl)
              try simp only [List.getElem_toArray, List.getElem_cons_zero, List.getElem_cons_succ, Act.put, List.setIfInBounds_toArray, List.set_cons_zero, List.set_cons_succ]
              refine wpAnyH_take (i := 12) (oi := _) (v := ?_) rfl (by kernel_rfl) (by kernel_rfl) (by kernel_rfl) (fun _ _ _ h => h) (Or.inl ⟨by rfl, ?_⟩) (by assumption) ?_
              case refine_2 => (intro w hSw; obtain ⟨s1, s2, s3, s4, s5, s6⟩ := hSw; clear s5 s6; go_simp <;> with_reducible rfl)
              try simp only [List.getElem_toArray, List.getElem_cons_zero, List.getElem_cons_succ, Act.put, List.setIfInBounds_toArray, List.set_cons_zero, List.set_cons_succ]
              refine wpAnyH_take (i := 13) (oi := _) (v := ?_) rfl (by kernel_rfl) (by kernel_rfl) (by kernel_rfl) (fun _ _ _ h => h) (Or.inl ⟨by rfl, ?_⟩) (by assumption) ?_
              case refine_2 => (intro w hSw; obtain ⟨s1, s2, s3, s4, s5, s6⟩ := hSw; clear s5 s6; go_simp <;> with_reducible rfl)
              try simp only [List.getElem_toArray, List.getElem_cons_zero, List.getElem_cons_succ, Act.put, List.setIfInBounds_toArray, List.set_cons_zero, List.set_cons_succ]
              refine wpAnyH_take (i := 14) (oi := _) (v := .bool false) rfl (by kernel_rfl) (by kernel_rfl) (by kernel_rfl) (fun _ _ _ h => h) (Or.inl ⟨by rfl, fun w hSw => ?_⟩) (by assumption) ?_
              case refine_1 => (obtain ⟨s1, s2, s3, s4, s5, s6⟩ := hSw; clear s5 s6; go_simp <;> first | with_reducible rfl | omega)
              try simp only [List.getElem_toArray, List.getElem_cons_zero, List.getElem_cons_succ, Act.put, List.setIfInBounds_toArray, List.set_cons_zero, List.set_cons_succ]
              refine wpAnyH_take (i := 15) (oi := _) (v := ?_) rfl (by kernel_rfl) (by kernel_rfl) (by kernel_rfl) (fun _ _ _ h => h) (Or.inl ⟨by rfl, ?_⟩) (by assumption) ?_
              case refine_2 => (intro w hSw; obtain ⟨s1, s2, s3, s4, s5, s6⟩ := hSw; clear s5 s6; go_simp <;> with_reducible rfl)
              try simp only [List.getElem_toArray, List.getElem_cons_zero, List.getElem_cons_succ, Act.put, List.setIfInBounds_toArray, List.set_cons_zero, List.set_cons_succ]
              refine wpAnyH_take (i := 16) (oi := _) (v := ?_) rfl (by kernel_rfl) (by kernel_rfl) (by kernel_rfl) (fun _ _ _ h => h) (Or.inl ⟨by rfl, ?_⟩) (by assumption) ?_
              case refine_2 => (intro w hSw; obtain ⟨s1, s2, s3, s4, s5, s6⟩ := hSw; clear s5 s6; go_simp <;> with_reducible rfl)
              try simp only [List.getElem_toArray, List.getElem_cons_zero, List.getElem_cons_succ, Act.put, List.setIfInBounds_toArray, List.set_cons_zero, List.set_cons_succ]
              refine wpAnyH_take (i := 17) (oi := _) (v := ?_) rfl (by kernel_rfl) (by kernel_rfl) (by kernel_rfl) (fun _ _ _ h => h) (Or.inl ⟨by rfl, ?_⟩) (by assumption) ?_
              case refine_2 => (intro w hSw; obtain ⟨s1, s2, s3, s4, s5, s6⟩ := hSw; clear s5 s6; go_simp <;> with_reducible rfl)
              try simp only [List.getElem_toArray, List.getElem_cons_zero, List.getElem_cons_succ, Act.put, List.setIfInBounds_toArray, List.set_cons_zero, List.set_cons_succ]
              refine wpAnyH_take (i := 18) (oi := _) (v := ?_) rfl (by kernel_rfl) (by kernel_rfl) (by kernel_rfl) (fun _ _ _ h => h) (Or.inl ⟨by rfl, ?_⟩) (by assumption) ?_
              case refine_2 => (intro w hSw; obtain ⟨s1, s2, s3, s4, s5, s6⟩ := hSw; clear s5 s6; go_simp <;> with_reducible rfl)
              try simp only [List.getElem_toArray, List.getElem_cons_zero, List.getElem_cons_succ, Act.put, List.setIfInBounds_toArray, List.set_cons_zero, List.set_cons_succ]
              refine wpAnyH_take (i := 19) (oi := _) (v := ?_) rfl (by kernel_rfl) (by kernel_rfl) (by kernel_rfl) (fun _ _ _ h => h) (Or.inl ⟨by rfl, ?_⟩) (by assumption) ?_
              case refine_2 => (intro w hSw; obtain ⟨s1, s2, s3, s4, s5, s6⟩ := hSw; clear s5 s6; go_simp <;> with_reducible rfl)
              try simp only [List.getElem_toArray, List.getElem_cons_zero, List.getElem_cons_succ, Act.put, List.setIfInBounds_toArray, List.set_cons_zero, List.set_cons_succ]
              refine wpAnyH_take (i := 20) (oi := _) (v := .bool false) rfl (by kernel_rfl) (by kernel_rfl) (by kernel_rfl) (fun _ _ _ h => h) (Or.inl ⟨by rfl, fun w hSw => ?_⟩) (by assumption) ?_
              case refine_1 => (obtain ⟨s1, s2, s3, s4, s5, s6⟩ := hSw; clear s5 s6; go_simp <;> first | with_reducible rfl | omega)
              try simp only [List.getElem_toArray, List.getElem_cons_zero, List.getElem_cons_succ, Act.put, List.setIfInBounds_toArray, List.set_cons_zero, List.set_cons_succ]
              refine wpAnyH_take (i := 21) (oi := _) (v := ?_) rfl (by kernel_rfl) (by kernel_rfl) (by kernel_rfl) (fun _ _ _ h => h) (Or.inl ⟨by rfl, ?_⟩) (by assumption) ?_
              case refine_2 => (intro w hSw; obtain ⟨s1, s2, s3, s4, s5, s6⟩ := hSw; clear s5 s6; go_simp <;> with_reducible rfl)
              try simp only [List.getElem_toArray, List.getElem_cons_zero, List.getElem_cons_succ, Act.put, List.setIfInBounds_toArray, List.set_cons_zero, List.set_cons_succ]
              refine wpAnyH_take (i := 22) (oi := _) (v := ?_) rfl (by kernel_rfl) (by kernel_rfl) (by kernel_rfl) (fun _ _ _ h => h) (Or.inl ⟨by rfl, ?_⟩) (by assumption) ?_
              case refine_2 => (intro w hSw; obtain ⟨s1, s2, s3, s4, s5, s6⟩ := hSw; clear s5 s6; go_simp <;> with_reducible rfl)
              try simp only [List.getElem_toArray, List.getElem_cons_zero, List.getElem_cons_succ, Act.put, List.setIfInBounds_toArray, List.set_cons_zero, List.set_cons_succ]
              refine wpAnyH_take (i := 23) (oi := _) (v := ?_) rfl (by kernel_rfl) (by kernel_rfl) (by kernel_rfl) (fun _ _ _ h => h) (Or.inl ⟨by rfl, ?_⟩) (by assumption) ?_
              case refine_2 => (intro w hSw; obtain ⟨s1, s2, s3, s4, s5, s6⟩ := hSw; clear s5 s6; go_simp <;> with_reducible rfl)
              try simp only [List.getElem_toArray, List.getElem_cons_zero, List.getElem_cons_succ, Act.put, List.setIfInBounds_toArray, List.set_cons_zero, List.set_cons_succ]
              refine wpAnyH_take (i := 24) (oi := _) (v := ?_) rfl (by kernel_rfl) (by kernel_rfl) (by kernel_rfl) (fun _ _ _ h => h) (Or.inl ⟨by rfl, ?_⟩) (by assumption) ?_
              case refine_2 => (intro w hSw; obtain ⟨s1, s2, s3, s4, s5, s6⟩ := hSw; clear s5 s6; go_simp <;> with_reducible rfl)
              try simp only [List.getElem_toArray, List.getElem_cons_zero, List.getElem_cons_succ, Act.put, List.setIfInBounds_toArray, List.set_cons_zero, List.set_cons_succ]
              refine wpAnyH_take (i := 25) (oi := _) (v := ?_) rfl (by kernel_rfl) (by kernel_rfl) (by kernel_rfl) (fun _ _ _ h => h) (Or.inl ⟨by rfl, ?_⟩) (by assumption) ?_
              case refine_2 => (intro w hSw; obtain ⟨s1, s2, s3, s4, s5, s6⟩ := hSw; clear s5 s6; go_simp <;> with_reducible rfl)
              try simp only [List.getElem_toArray, List.getElem_cons_zero, List.getElem_cons_succ, Act.put, List.setIfInBounds_toArray, List.set_cons_zero, List.set_cons_succ]
              refine wpAnyH_take (i := 26) (oi := _) (v := .agg KC.toList.toArray) rfl (by kernel_rfl) (by kernel_rfl) (by kernel_rfl) (fun _ _ _ h => h) (yieldsIf_load_mid (by rfl) 32 (.tmp 93) rfl ba (off + i * 37) (by rfl) KC.toList _ (fun _ h => h.2.2.2.2.1) Tryd.underlying32 rfl HKI.out) (by assumption) ?_
              try simp only [List.getElem_toArray, List.getElem_cons_zero, List.getElem_cons_succ, Act.put, List.setIfInBounds_toArray, List.set_cons_zero, List.set_cons_succ]
              refine wpAnyH_take (i := 27) (oi := _) (v := .agg (flC f.1 f.2).toList.toArray) rfl (by kernel_rfl) (by kernel_rfl) (by kernel_rfl) (fun _ _ _ h => h) (yieldsIf_load_mid (by rfl) 29 (.tmp 10) rfl (wr.heap.size + 1) 0 (by rfl) (flC f.1 f.2).toList _ (fun _ h => h.2.2.2.2.2) Tryd.underlying29 rfl HFI.out) (by assumption) ?_
              try simp only [List.getElem_toArray, List.getElem_cons_zero, List.getElem_cons_succ, Act.put, List.setIfInBounds_toArray, List.set_cons_zero, List.set_cons_succ]
              refine wpAnyH_take (i := 28) (oi := _) (v := ?_) rfl (by kernel_rfl) (by kernel_rfl) (by kernel_rfl) (fun _ _ _ h => h) (Or.inl ⟨by rfl, ?_⟩) (by assumption) ?_
              case refine_2 => (intro w hSw; obtain ⟨s1, s2, s3, s4, s5, s6⟩ := hSw; clear s5 s6; go_simp <;> with_reducible rfl)
              try simp only [List.getElem_toArray, List.getElem_cons_zero, List.getElem_cons_succ, Act.put, List.setIfInBounds_toArray, List.set_cons_zero, List.set_cons_succ]
              refine wpAnyH_take (i := 29) (oi := _) (v := .agg KC) rfl (by kernel_rfl) (by kernel_rfl) (by kernel_rfl) (fun _ _ _ h => h) (yieldsIf_build 32 #[(0, .tmp 95), (1, .tmp 96)] KC (by rfl) HBK.out (by rfl)) (by assumption) ?_
              try simp only [List.getElem_toArray, List.getElem_cons_zero, List.getElem_cons_succ, Act.put, List.setIfInBounds_toArray, List.set_cons_zero, List.set_cons_succ]
              refine wpAnyH_take (i := 30) (oi := _) (v := ?_) rfl (by kernel_rfl) (by kernel_rfl) (by kernel_rfl) (fun _ _ _ h => h) (Or.inl ⟨by rfl, ?_⟩) (by assumption) ?_
              case refine_2 => (intro w hSw; obtain ⟨s1, s2, s3, s4, s5, s6⟩ := hSw; clear s5 s6; go_simp <;> with_reducible rfl)
              try simp only [List.getElem_toArray, List.getElem_cons_zero, List.getElem_cons_succ, Act.put, List.setIfInBounds_toArray, List.set_cons_zero, List.set_cons_succ]
              refine wpAnyH_take (i := 31) (oi := _) (v := ?_) rfl (by kernel_rfl) (by kernel_rfl) (by kernel_rfl) (fun _ _ _ h => h) (Or.inl ⟨by rfl, ?_⟩) (by assumption) ?_
              case refine_2 => (intro w hSw; obtain ⟨s1, s2, s3, s4, s5, s6⟩ := hSw; clear s5 s6; go_simp <;> with_reducible rfl)
              try simp only [List.getElem_toArray, List.getElem_cons_zero, List.getElem_cons_succ, Act.put, List.setIfInBounds_toArray, List.set_cons_zero, List.set_cons_succ]
              refine wpAnyH_done (by kernel_rfl) ?_ _
              clear hHeld
              have F1 := Lib.hid (H1.out.below (below_drew (Below.refl _ A')))
              have F2 := Lib.hid H2.out.drew
              have F3 := Lib.hid H3.out.drew
              have FK := Lib.hid (show KeepsX (fun r => (r = wr.heap.size + 3 ∨ r = wr.heap.size + 3 + 1) ∨ r = W1.heap.size ∨ r = W1.heap.size + 1) A' A'.drew from ⟨Nat.le_refl _, fun _ _ => rfl⟩)
              clear q11 q9 q2 qg HRW HRF HBK hq HKI H1 H2 H3 d1 d2 d3 hp0
              generalize A'.drew = A2 at *
              have q6 : A2.cell? ⟨w2.heap.size + 1, 0, none⟩ = some (.slice (some ⟨w2.heap.size, 0, none⟩) n n) := by
                have := HZ6.out
                have h := (F1.out.blk (T1.out.blk K6.out (by omega)) (by omega)).cell 0
                simpa using h
              have qs : A2.cell? ⟨w2.heap.size, i, none⟩ = some (.int .i64 0) := by
                rw [F2.out.cell, List.getElem?_toArray, seen_get hin, if_neg HNY.out]
              have zs := F2.out.frozen i
              have q11 := F3.out.cell 0
              simp at q11
              have z11 := F3.out.frozen 0
              have hne : ¬ wr.heap.size + 2 = w2.heap.size := by have := HZ6.out; omega
              have hp60 : (p : Int) + 1 ≤ 1000 := by have := Nat.lt_of_lt_of_le hpg hgl; omega
              gi_wp2_with fail
              have hz8 := HZ6.out
              have hz9 := HZ7.out
              refine ⟨(FK.out.set_ (p := ⟨w2.heap.size, i, none⟩) (fun h => by dsimp only at h; omega) _).set_ (p := ⟨wr.heap.size + 2, 0, none⟩) (fun h => by dsimp only at h; omega) _, (F1.out.setCell (.inl (.inl rfl)) i _).setCell (.inl (.inr (.inl rfl))) 0 _, ?_, ?_⟩
              · rw [List.map_append, List.map_cons, List.map_nil, ← List.append_assoc, ← seen_set hin]
                have h := (F2.out.set_ i (.int .i64 1)).far (p := ⟨wr.heap.size + 2, 0, none⟩) (by show w2.heap.size ≠ wr.heap.size + 2; omega) (.int .i64 ((p : Int) + 1))
                rwa [List.setIfInBounds_toArray] at h
              · have h := (F3.out.far (p := ⟨w2.heap.size, i, none⟩) (by show wr.heap.size + 2 ≠ w2.heap.size; omega) (.int .i64 1)).set_ 0 (.int .i64 ((p : Int) + 1))
                rw [List.length_append, ← HP.out]
                simpa using h
            case done =>
              rintro V ⟨h1, h2, h3⟩ hz hD
              dsimp only
              have hz6 := hz5.out
              have hz7 := Z1.out
              have hng : (ofK ks f).length = g.length := by rw [HGO.out, List.length_map]
              have V1 := Lib.hid h1
              have V6 := Lib.hid (show Blk V w2.heap.size 3 (seenL n ((gs.take (j + 1)).flatten)).toArray by
                have h := done_next (show (grpL (ks.map (·.1)))[j]? = some g by rw [HGS.out]; exact HG.out.1)
                rw [HGS.out, ← HL0.out, HGO.out] at h
                rw [h]
                exact h2)
              have V11 := Lib.hid (show Blk V (wr.heap.size + 2) 3 #[.int .i64 (g.length : Int)] by rw [← hng]; exact h3)
              have VD := Lib.hid (show V.heap[W1.heap.size]? = some (.deferred (some [])) from hD)
              have VZ := Lib.hid hz
              have q11 := V11.out.cell 0
              simp at q11
              have z11 := V11.out.frozen 0
              have q9 := (h1.blk J9.out (by omega)).cell 0
              simp at q9
              clear h1 h2 h3 hng hz hD hz6 hz7
              go_upto_region 24 with fail
              have U := grownBy_setCell V (wr.heap.size + 2) 0 (.int .i64 0)
              have U1 := Lib.hid (V1.out.setCell (.inl (.inr (.inl rfl))) 0 (.int .i64 0))
              have hz6 := hz5.out
              have hz7 := Z1.out
              have hz8 := VZ.out
              have U6 := Lib.hid (V6.out.grown U (fun e => by injection e with e; omega))
              have u11 := V11.out.set_ 0 (.int .i64 0)
              have U11 := Lib.hid (show Blk (V.setCell ⟨wr.heap.size + 2, 0, none⟩ (.int .i64 0)) (wr.heap.size + 2) 3 #[.int .i64 0] from u11)
              have UD := Lib.hid (show (V.setCell ⟨wr.heap.size + 2, 0, none⟩ (.int .i64 0)).heap[W1.heap.size]? = some (.deferred (some [])) from (U.block _ (by omega) (fun e => by injection e with e; omega)).trans VD.out)
              have UZ := Lib.hid (show W1.heap.size + 2 ≤ (V.setCell ⟨wr.heap.size + 2, 0, none⟩ (.int .i64 0)).heap.size from Nat.le_trans VZ.out U.size)
              clear U u11 V1 V6 V11 VD VZ q9 q11 z11 hz8
              generalize V.setCell ⟨wr.heap.size + 2, 0, none⟩ (.int .i64 0) = V2 at *
              have q2 := (U1.out.blk (T1.out.blk K1d.out (by omega)) (by omega)).cell 0
              simp at q2
              have U10 := Lib.hid (U1.out.blk J10.out (by omega))
              clear hz6 hz7
              go_wp2_with (refine wpList_load_blk 29 (.tmp 10) (wr.heap.size + 1) 29 (flC f.1 f.2) _ U10.out (by rfl) (by rfl) Tryd.underlying29 rfl HFS.out (by rfl) ?_)
              refine (of_make _ _ _ _ _).mono ?_
              rintro e w1' ⟨rfl, rfl⟩
              go_wp2_with fail
              have hz6 := hz5.out
              have hz7 := Z1.out
              have hz8 := UZ.out
              have T3 := Lib.hid ((U1.out.grown (World.grownBy_alloc V2 (.cells #[.slice (some ⟨ba, off, none⟩) n c] 42) none) (fun r e => by cases e)).grown (World.grownBy_alloc _ (.cells (flC f.1 f.2) 29) none) (fun r e => by cases e))
              have L6 := Lib.hid ((U6.out.alloc (.cells #[.slice (some ⟨ba, off, none⟩) n c] 42)).alloc (.cells (flC f.1 f.2) 29))
              have L11 := Lib.hid ((U11.out.alloc (.cells #[.slice (some ⟨ba, off, none⟩) n c] 42)).alloc (.cells (flC f.1 f.2) 29))
              have LD := Lib.hid (show ((V2.alloc (.cells #[.slice (some ⟨ba, off, none⟩) n c] 42)).alloc (.cells (flC f.1 f.2) 29)).heap[W1.heap.size]? = some (.deferred (some [])) from
                (Below.heap_alloc _ _ _ (by rw [World.size_alloc]; omega)).trans ((Below.heap_alloc _ _ _ (by omega)).trans UD.out))
              have LS := Lib.hid ((Blk.new V2 42 #[.slice (some ⟨ba, off, none⟩) n c]).alloc (.cells (flC f.1 f.2) 29))
              have lf := Blk.new (V2.alloc (.cells #[.slice (some ⟨ba, off, none⟩) n c] 42)) 29 (flC f.1 f.2)
              rw [World.size_alloc] at lf
              have LF := Lib.hid lf
              have LZ := Lib.hid (show ((V2.alloc (.cells #[.slice (some ⟨ba, off, none⟩) n c] 42)).alloc (.cells (flC f.1 f.2) 29)).heap.size = V2.heap.size + 2 by rw [World.size_alloc, World.size_alloc])
              clear U1 U6 U11 UD U10 q2 lf hz6 hz7 hz8
              generalize (V2.alloc (.cells #[.slice (some ⟨ba, off, none⟩) n c] 42)).alloc (.cells (flC f.1 f.2) 29) = W3 at *
              obtain ⟨N2, hN2⟩ : ∃ N2, N2 = V2.heap.size := ⟨_, rfl⟩
              rw [← hN2] at UZ LS LF LZ ⊢
              clear hN2
              refine (wpIn_wide (n := 0)).1 (range_outerS (ps := #[115, 116]) (gf := 24) (lb := #[.pointer (some ⟨N2, 0, none⟩), .pointer (some ⟨N2 + 1, 0, none⟩)]) rfl (enters_of Tryd.func24 (by kernel_rfl) rfl)
                (encs := fun x : Nat × Ky => #[.int .i64 (x.1 : Int), .int .u64 (x.2.2 : Int)]) (fun _ => rfl) (ofK ks f) (fun r => r = N2 ∨ r = N2 + 1) (fun W' => RdK W' (some ⟨ba, off, none⟩) n c ks) ?seq ?hX
                (fun pre A' => Turn W3 (fun r => r = wr.heap.size + 2 ∨ r = N2 ∨ r = N2 + 1) A' ∧ Blk A' (wr.heap.size + 2) 3 #[.int .i64 (pre.length : Int)] ∧ pre.length ≤ cm) ?hI
                (fun c' pre A' => c' = .exit 4 ∧ Turn W3 (fun r => r = wr.heap.size + 2 ∨ r = N2 ∨ r = N2 + 1) A' ∧ Blk A' (wr.heap.size + 2) 3 #[.int .i64 (pre.length : Int)] ∧ pre.length = cm + 1) ?hIx ?h0 ?hRR
                (fun x a' A' => a' = { tmps := #[u0, u1, .pointer (some ⟨w.heap.size, 0, none⟩), .pointer (some ⟨w.heap.size + 1, 0, none⟩), .pointer (some ⟨w.heap.size + 1 + 1, 0, none⟩), u5, .pointer (some ⟨w2.heap.size + 1, 0, none⟩), .int .i64 (q0 : Int), u8, .pointer (some ⟨wr.heap.size, 0, none⟩), .pointer (some ⟨wr.heap.size + 1, 0, none⟩), .pointer (some ⟨wr.heap.size + 2, 0, none⟩), u12, u13, u14, u15, u16, u17, u18, u19, u20, u21, u22, u23, u24, u25, u26, u27, u28, .slice (some ⟨b, 0, none⟩) gs.length cg, .int .i64 (gs.length : Int), .int .i64 (j : Int), .bool true, .pointer (some ⟨b, j, none⟩), .slice (some ⟨b1, 0, none⟩) g.length c1, u35, u36, u37, u38, u39, u40, u41, u42, u43, u44, u45, u46, u47, u48, u49, u50, u51, .bool false, .slice (some ⟨b1, 0, none⟩) g.length c1, .pointer (some ⟨b1, 0, none⟩), .int .i64 (q0 : Int), u56, u57, u58, u59, u60, u61, u62, .slice (some ⟨ba, off, none⟩) n c, .agg (flC f.1 f.2), .func (.func 24) #[] #[.pointer (some ⟨wr.heap.size + 3, 0, none⟩), .pointer (some ⟨wr.heap.size + 3 + 1, 0, none⟩)], u66, u67, u68, u69, u70, u71, u72, u73, u74, u75, u76, u77, u78, u79, u80, u81, u82, u83, u84, u85, u86, u87, u88, u89, u90, u91, u92, u93, u94, u95, u96, u97, u98, u99, u100, u101, u102, u103, u104, u105, u106, u107, .int .i64 (g.length : Int), .slice (some ⟨b1, 0, none⟩) g.length c1, .int .i64 (g.length : Int), .bool false, .slice (some ⟨ba, off, none⟩) n c, .agg (flC f.1 f.2), .func (.func 24) #[] #[.pointer (some ⟨N2, 0, none⟩), .pointer (some ⟨N2 + 1, 0, none⟩)], .int .i64 (x.1 : Int), .int .u64 (x.2.2 : Int), u117, u118, u119, u120, u121, u122, u123, u124, u125, u126, u127, u128, u129, u130, u131, u132, u133, u134, u135, u136, u137, u138, u139, u140, u141, u142], defers := [] }) (fun _ _ _ _ _ h => h) ?assign ?body ?done ?stop)
              case seq =>
                intro W' hb hz
                exact of_seq N2 (N2 + 1) _ n c ks f W' (LS.out.keep hb) (LF.out.keep hb) HR.out.1 HOK.out HFO.out (by omega)
              case hX =>
                intro r e
                have := LZ.out
                omega
              case hI =>
                rintro s A' B' row ⟨h1, h2, h3⟩ hg hrow
                have := LZ.out
                have := UZ.out
                have := Z1.out
                exact ⟨h1.grown hg (fun r e => by have := hrow r e; omega), h2.grown hg (fun e => by have := hrow _ e.symm; omega), h3⟩
              case hIx =>
                rintro c' s A' B' row ⟨h0, h1, h2, h3⟩ hg hrow
                have := LZ.out
                have := UZ.out
                have := Z1.out
                exact ⟨h0, h1.grown hg (fun r e => by have := hrow r e; omega), h2.grown hg (fun e => by have := hrow _ e.symm; omega), h3⟩
              case h0 => exact ⟨Turn.refl _ _, L11.out, Nat.zero_le _⟩
              case hRR =>
                rintro s A' ⟨h1, h2, h3⟩
                have h4 := hz5.out
                have h5 := UZ.out
                have h6 := Z1.out
                have hB := HBW.out.trans (T3.out.to_below (b := w.heap.size) (fun r e => by omega) HBW.out.size)
                exact HR.out.below (hB.trans (h1.to_below (fun r e => by omega) hB.size))
              case assign =>
                rintro pre x rest A' K hxs hII hX hz2 hK
                have HK := Lib.hid hK
                have HII := Lib.hid hII
                clear hK hII hX hz2 hxs
                have hsem := @Oper.semAt_some
                gi_wp2_with fail
                exact HK.out _ A' (KeepsX.refl _ _) HII.out rfl
              case body =>
                rintro pre ⟨i, kk⟩ rest a' A' hxs ⟨h1, h2, h3⟩ rfl hXA hzA hrec
                dsimp only
                obtain ⟨p, hp⟩ : ∃ p, p = pre.length := ⟨_, rfl⟩
                rw [← hp] at h2 h3
                have HP := Lib.hid hp
                have h4 := hz5.out
                have h5 := UZ.out
                have h6 := Z1.out
                have h7 := LZ.out
                have q11 := h2.cell 0
                simp at q11
                have z11 := h2.frozen 0
                have q3 := (h1.blk (T3.out.blk (T1.out.blk K2d.out (by omega)) (by omega)) (by omega)).cell 0
                simp at q3
                have H1 := Lib.hid h1
                have H2 := Lib.hid h2
                have hne : ¬ wr.heap.size + 2 = w.heap.size + 1 := by omega
                have hne2 : ¬ w.heap.size + 1 = wr.heap.size + 2 := by omega
                have hcp0 := HCP.out
                have hrem : Int.tmod cp 4 = (cm : Int) := by rw [HCM.out, Int.tmod_eq_emod_of_nonneg (by omega)]
                have HZZ := Lib.hid (And.intro h4 (And.intro h5 (And.intro h6 h7)))
                have hsem := @Oper.semAt_some
                clear h1 h2 h4 h5 h6 h7 hp hxs hXA hzA hrec
                rcases Nat.lt_or_ge cm (p + 1) with hlt | hge
                · have hd : decide ((cm : Int) < (p : Int) + 1) = true := decide_eq_true (by omega)
                  gi_wp2_with fail
                  have hzz := HZZ.out
                  refine ⟨(KeepsX.refl _ A').set_ (p := ⟨wr.heap.size + 2, 0, none⟩) (fun h => by dsimp only at h; omega) _, rfl, H1.out.setCell (.inl (.inl rfl)) 0 _, ?_, ?_⟩
                  · have h := H2.out.set_ 0 (.int .i64 ((p : Int) + 1))
                    rw [List.length_append, ← HP.out]
                    simpa using h
                  · rw [List.length_append, ← HP.out, List.length_cons, List.length_nil]
                    omega
                · have hd : decide ((cm : Int) < (p : Int) + 1) = false := decide_eq_false (by omega)
                  gi_wp2_with fail
                  have hzz := HZZ.out
                  refine ⟨(KeepsX.refl _ A').set_ (p := ⟨wr.heap.size + 2, 0, none⟩) (fun h => by dsimp only at h; omega) _, H1.out.setCell (.inl (.inl rfl)) 0 _, ?_, ?_⟩
                  · have h := H2.out.set_ 0 (.int .i64 ((p : Int) + 1))
                    rw [List.length_append, ← HP.out]
                    simpa using h
                  · rw [List.length_append, ← HP.out, List.length_cons, List.length_nil]
                    omega
              case done =>
                rintro W ⟨h1, h2, h3⟩ hz hD
                dsimp only
                have hng : (ofK ks f).length = g.length := by rw [HGO.out, List.length_map]
                rw [hng] at h2 h3
                have h4 := hz5.out
                have h5 := UZ.out
                have h6 := Z1.out
                have h7 := LZ.out
                have q11 := h2.cell 0
                simp at q11
                have q3 := (h1.blk (T3.out.blk (T1.out.blk K2d.out (by omega)) (by omega)) (by omega)).cell 0
                simp at q3
                have q9 := (h1.blk (T3.out.blk J9.out (by omega)) (by omega)).cell 0
                simp at q9
                have M1 := Lib.hid h1
                have MD := Lib.hid hD
                have MZ := Lib.hid hz
                have hcp0 := HCP.out
                have hrem : Int.tmod cp 4 = (cm : Int) := by rw [HCM.out, Int.tmod_eq_emod_of_nonneg (by omega)]
                have HZZ := Lib.hid (And.intro h4 (And.intro h5 (And.intro h6 h7)))
                have hmn : min (g.length : Int) (1 + (cm : Int)) = (g.length : Int) := by omega
                clear h1 h2 h4 h5 h6 h7 hz hD
                go_wp2_with fail
                have hzz := HZZ.out
                have hmz := MZ.out
                have HT : Turn wr (fun r => r = w2.heap.size) W := (((Turn.refl wr _).below B1.out).trans T3.out (fun r e => by omega)).trans M1.out (fun r e => by omega)
                have hj1 : ((j : Int) + 1) = ((j + 1 : Nat) : Int) := rfl
                refine Handed.intro g2 (Nat.lt_succ_self _) ?_
                rw [hj1]
                refine hJ g2 _ _ ?_
                repeat apply Exists.intro
                refine ⟨rfl, by omega, Lib.hid ⟨I.out.1.trans HT (fun r e => .inl e), M1.out.blk L6.out (by omega), ?_⟩, Lib.hid ?_⟩
                · refine ((HT.marks I.out.2.2 (fun r e => .inl (by omega))).cons (D := W1.heap.size) (hi' := W1.heap.size + 1) ((M1.out.block W1.heap.size (by omega) (by omega)).trans LD.out) (by omega) (by omega) (Nat.lt_succ_self _)).cons MD.out (by omega) (by omega) (by omega)
                · intro g' k hg' hk
                  have h := next_first HG.out.2.1 HQ.out (by rw [HGS.out]; exact hg') hk
                  omega
              case stop =>
                rintro c' pre rest W hxs ⟨rfl, h1, h2, h3⟩ hz hD
                dsimp only
                have hng : pre.length ≤ g.length := by
                  have h := congrArg List.length hxs
                  rw [List.length_append] at h
                  rw [HGO.out, List.length_map]
                  omega
                rw [h3] at h2 hng
                clear h3 hxs
                refine wpIn_wide.2 ?_
                have h4 := hz5.out
                have h5 := UZ.out
                have h6 := Z1.out
                have h7 := LZ.out
                have q11 := h2.cell 0
                simp at q11
                have q3 := (h1.blk (T3.out.blk (T1.out.blk K2d.out (by omega)) (by omega)) (by omega)).cell 0
                simp at q3
                have q9 := (h1.blk (T3.out.blk J9.out (by omega)) (by omega)).cell 0
                simp at q9
                have M1 := Lib.hid h1
                have MD := Lib.hid hD
                have MZ := Lib.hid hz
                have hcp0 := HCP.out
                have hrem : Int.tmod cp 4 = (cm : Int) := by rw [HCM.out, Int.tmod_eq_emod_of_nonneg (by omega)]
                have HZZ := Lib.hid (And.intro h4 (And.intro h5 (And.intro h6 h7)))
                have hmn : min (g.length : Int) (1 + (cm : Int)) = (cm : Int) + 1 := by omega
                clear h1 h2 h4 h5 h6 h7 hz hD
                go_wp2_with fail
                have hzz := HZZ.out
                have hmz := MZ.out
                have HT : Turn wr (fun r => r = w2.heap.size) W := (((Turn.refl wr _).below B1.out).trans T3.out (fun r e => by omega)).trans M1.out (fun r e => by omega)
                have hj1 : ((j : Int) + 1) = ((j + 1 : Nat) : Int) := rfl
                refine Handed.intro g2 (Nat.lt_succ_self _) ?_
                rw [hj1]
                refine hJ g2 _ _ ?_
                repeat apply Exists.intro
                refine ⟨rfl, by omega, Lib.hid ⟨I.out.1.trans HT (fun r e => .inl e), M1.out.blk L6.out (by omega), ?_⟩, Lib.hid ?_⟩
                · refine ((HT.marks I.out.2.2 (fun r e => .inl (by omega))).cons (D := W1.heap.size) (hi' := W1.heap.size + 1) ((M1.out.block W1.heap.size (by omega) (by omega)).trans LD.out) (by omega) (by omega) (Nat.lt_succ_self _)).cons MD.out (by omega) (by omega) (by omega)
                · intro g' k hg' hk
                  have h := next_first HG.out.2.1 HQ.out (by rw [HGS.out]; exact hg') hk
                  omega
end Go.Proofs.YtonafonhadocgaaDoor
