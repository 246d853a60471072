/- Laws and walks that the claim's last text leans on, joined: each part says above itself what it proves. -/
import Derived.Test.YtonafonhadocgaaDoorQC
import Derived.Test.YtonafonhadocgaaDoorQA
import Derived.Test.YtonafonhadocgaaDoorQB

/- addr.group: one group of a writing. -/
namespace Go.Proofs.YtonafonhadocgaaDoor
open Go.RowKit Go.Shelf

/-- Is a text a group, and which. -/
def grpB (s : ByteArray) : Bool := s.data.toList.all isHx && decide (1 ≤ s.size) && decide (s.size ≤ 4)
def grpN (s : ByteArray) : Nat := (phex 0 s.data.toList).getD 0

theorem hxn_lt {c : UInt8} (h : isHx c = true) : hxn c < 16 := by
  simp only [isHx, Bool.or_eq_true, decide_eq_true_eq] at h
  unfold hxn
  have := c.toNat_lt
  split
  · omega
  · split <;> omega
theorem phex_small (l : List UInt8) : ∀ (j acc : Nat), acc < 16 ^ j → j + l.length ≤ 4 → (∀ c ∈ l, isHx c = true) → ∃ n, phex acc l = some n ∧ n < 65536 := by
  induction l with
  | nil =>
    intro j acc h1 h2 _
    refine ⟨acc, rfl, ?_⟩
    have : 16 ^ j ≤ 16 ^ 4 := Nat.pow_le_pow_right (by omega) (by simpa using h2)
    omega
  | cons c r ih =>
    intro j acc h1 h2 hall
    have hc := hxn_lt (hall c (List.mem_cons_self ..))
    have hlt : acc * 16 + hxn c < 16 ^ (j + 1) := by rw [Nat.pow_succ]; omega
    have hle : 16 ^ (j + 1) ≤ 16 ^ 4 := Nat.pow_le_pow_right (by omega) (by simp at h2; omega)
    rw [phex, if_neg (by omega)]
    exact ih (j + 1) _ hlt (by simp at h2; omega) (fun x hx => hall x (List.mem_cons_of_mem _ hx))

/-- strconv.ParseUint(s, 16, 16). -/
def PhexEnd (s : ByteArray) (w : World) (e : Ending) (w' : World) : Prop :=
  Below w.heap.size w w' ∧ ((s.size ≠ 0 ∧ ∃ n, phex 0 s.data.toList = some n ∧ e = .returned (.tuple #[.int .u64 (n : Int), .nilIface])) ∨ ((s.size = 0 ∨ phex 0 s.data.toList = none) ∧ ∃ (z : Int) (t : TypeId) (p : Value), 0 ≤ z ∧ z ≤ 65535 ∧ e = .returned (.tuple #[.int .u64 z, .iface t p])))

set_option maxRecDepth 100000 in
set_option maxHeartbeats 4000000 in
theorem phex_any (s : ByteArray) (hlim : s.size ≤ 281474976710656) (hall : ∀ c ∈ s.data.toList, isHx c = true) (w : World) (env : Env w) :
    Calls Tryd.prog 59 #[.string s, .int .i64 16, .int .i64 16] w (PhexEnd s w) := by
  by_cases h0 : s.size = 0
  · have hs : s = ⟨#[]⟩ := by
      cases s with | mk d => simp [ByteArray.size] at h0; rw [h0]
    subst hs
    obtain ⟨tp, p, hv⟩ := env.syn
    have hv' : w.cell? ⟨2, 0, none⟩ = some (.iface tp p) := by
      have h0 := World.var?_cell (g := 2) (by kernel_rfl) hv 0
      simpa using h0
    have HI := Lib.hid (fun W => AnyPu.internal_strconv_ParseUint_empty { lays14 with } 16 16 W)
    have HT := Lib.hid (AnyPu.strconv_toError_syntax { lays14 with } ⟨#[80, 97, 114, 115, 101, 85, 105, 110, 116]⟩ ⟨#[]⟩ 16 16 (.iface tp p) w hlim hv' (Or.inr ⟨tp, p, rfl⟩))
    clear hv hv' env hall
    go_enter Tryd.func59, Tryd.ntmps59
    go_wp2_with fail
    refine (HI.out _).mono ?_
    rintro e w1 ⟨rfl, rfl⟩
    go_wp2_with fail
    refine HT.out.mono ?_
    rintro e w2 ⟨N, rfl, _, _, b⟩
    have B := Lib.hid b
    clear b
    go_wp2
    go_ret2
    exact ⟨B.out, .inr ⟨.inl rfl, 0, _, _, by omega, by omega, rfl⟩⟩
  have HI := Lib.hid (fun W => ihex_any s h0 (by omega) hall W)
  cases h : phex 0 s.data.toList with
  | some n =>
    rw [h] at HI
    have HP := Lib.hid (show PhexEnd s w (.returned (.tuple #[.int .u64 (n : Int), .nilIface])) (Lib.bytesWorld w 5 s) from ⟨Lib.bytesWorld_below _ _ _, .inl ⟨h0, n, h, rfl⟩⟩)
    clear h hall env
    go_enter Tryd.func59, Tryd.ntmps59
    go_wp2_with fail
    refine (HI.out _).mono ?_
    rintro e w1 ⟨rfl, hw⟩
    have HW := Lib.hid hw
    clear hw
    rw [phexV]
    go_wp2_with fail
    go_ret2
    rw [HW.out]
    exact HP.out
  | none =>
    rw [h] at HI
    obtain ⟨tp, p, hv⟩ := env.rng
    have hv' : (Lib.bytesWorld w 5 s).cell? ⟨3, 0, none⟩ = some (.iface tp p) := by
      have h0 := World.var?_cell (g := 3) (by kernel_rfl) hv 0
      exact cell_later (Lib.bytesWorld_below _ _ _) (by simpa using h0)
    have HT := Lib.hid (AnyPu.strconv_toError_range { lays14 with } ⟨#[80, 97, 114, 115, 101, 85, 105, 110, 116]⟩ s 16 16 (.iface tp p) _ hlim hv' (Or.inr ⟨tp, p, rfl⟩))
    have HB := Lib.hid (Lib.bytesWorld_below w 5 s)
    have HN := Lib.hid h
    clear hv hv' env hall h
    replace HI := Lib.hid (HI.out w)
    generalize Lib.bytesWorld w 5 s = W1 at *
    go_enter Tryd.func59, Tryd.ntmps59
    go_wp2_with fail
    refine HI.out.mono ?_
    rintro e w1 ⟨rfl, rfl⟩
    rw [phexV]
    go_wp2_with fail
    refine HT.out.mono ?_
    rintro e w2 ⟨N, rfl, _, _, b⟩
    have B := Lib.hid (HB.out.trans (b.mono HB.out.size))
    clear b
    go_wp2
    go_ret2
    exact ⟨B.out, .inr ⟨.inr HN.out, 65535, _, _, by omega, by omega, rfl⟩⟩
end Go.Proofs.YtonafonhadocgaaDoor

/- addr.group, walked. -/
namespace Go.Proofs.YtonafonhadocgaaDoor
open Go.RowKit Go.Shelf

theorem or32_any : ∀ n : Nat, n < 256 → 0 ≤ bits BinOp.or IntKind.u8 (n : Int) 32 ∧ bits BinOp.or IntKind.u8 (n : Int) 32 ≤ 255 := by decide +kernel
theorem or32_letter : ∀ n : Nat, n < 256 → (97 ≤ n ∧ n ≤ 102 ∨ 65 ≤ n ∧ n ≤ 70) → 97 ≤ bits BinOp.or IntKind.u8 (n : Int) 32 ∧ bits BinOp.or IntKind.u8 (n : Int) 32 ≤ 102 := by decide +kernel
theorem or32_none : ∀ n : Nat, n < 256 → ¬ (97 ≤ n ∧ n ≤ 102 ∨ 65 ≤ n ∧ n ≤ 70) → bits BinOp.or IntKind.u8 (n : Int) 32 < 97 ∨ 97 ≤ bits BinOp.or IntKind.u8 (n : Int) 32 ∧ 102 < bits BinOp.or IntKind.u8 (n : Int) 32 := by decide +kernel

/-- What addr.group returns. -/
def GrpEnd (s : ByteArray) (e : Ending) : Prop := ∃ v : Int, e = .returned (.tuple #[.int .u16 v, .bool (grpB s)]) ∧ (grpB s = true → v = (grpN s : Int))
theorem grp_bad {s : ByteArray} {c : UInt8} (hc : c ∈ s.data.toList) (h : isHx c = false) : grpB s = false := by
  have : s.data.toList.all isHx = false := by
    rw [Bool.eq_false_iff]
    intro e
    rw [List.all_eq_true] at e
    rw [e c hc] at h
    cases h
  simp only [grpB, this, Bool.false_and]

set_option maxRecDepth 100000 in
set_option maxHeartbeats 8000000 in
theorem group_any (s : ByteArray) (hlim : s.size ≤ 281474976710656) (w : World) (env : Env w) :
    Calls Tryd.prog 69 #[.string s] w fun e w' => GrpEnd s e ∧ Below w.heap.size w w' := by
  have HL := Lib.hid (show s.data.toList.length = s.size from rfl)
  have HE := Lib.hid env
  clear env
  go_enter Tryd.func69, Tryd.ntmps69
  go_wp2_with fail
  go_loop [10] (fun i => ∃ k : Nat, k ≤ s.size ∧ i = .int .i64 k ∧ Hid (∀ c ∈ s.data.toList.take k, isHx c = true)) (fun i => s.size - (intOf i).toNat)
  case atStart => exact ⟨0, by omega, rfl, Lib.hid (fun c h => by simp at h)⟩
  case round =>
    obtain ⟨k, hk, rfl, hall⟩ := hrel
    by_cases hlt : k < s.size
    · have hc256 : s[k].toNat < 256 := s[k].toNat_lt
      have HM := Lib.hid (show s[k] ∈ s.data.toList from by
        have : s[k] = s.data.toList[k]'(by rw [HL.out]; exact hlt) := rfl
        rw [this]
        exact List.getElem_mem _)
      have HT := Lib.hid (show s.data.toList.take (k + 1) = s.data.toList.take k ++ [s[k]] by
        rw [List.take_succ_eq_append_getElem (by rw [HL.out]; exact hlt)]; rfl)
      by_cases hx : isHx s[k] = true
      · have HN := Lib.hid (show ∀ c ∈ s.data.toList.take (k + 1), isHx c = true by
          intro c hc
          rw [HT.out] at hc
          rcases List.mem_append.1 hc with h | h
          · exact hall.out c h
          · rw [List.mem_singleton.1 h]; exact hx)
        simp only [isHx, Bool.or_eq_true, decide_eq_true_eq] at hx
        by_cases hd : 48 ≤ s[k].toNat ∧ s[k].toNat ≤ 57
        · obtain ⟨d0, d1⟩ := hd
          clear hx
          go_wp2_with fail
          go_round
          case rel => exact ⟨k + 1, by omega, by go_num, HN⟩
          case measure => simp [intOf]; omega
        · have hl : 97 ≤ s[k].toNat ∧ s[k].toNat ≤ 102 ∨ 65 ≤ s[k].toNat ∧ s[k].toNat ≤ 70 := by omega
          obtain ⟨o0, o1⟩ := or32_letter _ hc256 hl
          have hu : 57 < s[k].toNat := by omega
          clear hx hd hl
          go_wp2_with fail
          go_round
          case rel => exact ⟨k + 1, by omega, by go_num, HN⟩
          case measure => simp [intOf]; omega
      · have hxf : isHx s[k] = false := by simpa using hx
        have HF := Lib.hid (grp_bad HM.out hxf)
        simp only [isHx, Bool.or_eq_true, decide_eq_true_eq] at hx
        have hn : ¬ (97 ≤ s[k].toNat ∧ s[k].toNat ≤ 102 ∨ 65 ≤ s[k].toNat ∧ s[k].toNat ≤ 70) := by omega
        have ho := or32_none _ hc256 hn
        have hd : s[k].toNat < 48 ∨ 48 ≤ s[k].toNat ∧ 57 < s[k].toNat := by omega
        clear hx hxf hn
        rcases ho with o0 | ⟨o0, o1⟩ <;> rcases hd with d0 | ⟨d0, d1⟩
        all_goals
          go_wp2_with fail
          go_ret2
          exact ⟨⟨0, by rw [HF.out]; rfl, fun h => by rw [HF.out] at h; cases h⟩, Below.refl _ _⟩
    · obtain rfl : k = s.size := by omega
      have HA := Lib.hid (show ∀ c ∈ s.data.toList, isHx c = true by
        intro c hc
        exact hall.out c (by rw [← HL.out, List.take_length]; exact hc))
      go_wp2_with fail
      refine (phex_any s hlim HA.out _ HE.out).mono ?_
      rintro e w1 ⟨b, h⟩
      have B := Lib.hid b
      clear b
      rcases h with ⟨h0, n, hn, rfl⟩ | ⟨h0, z, t, p, z0, z1, rfl⟩
      · by_cases h4 : s.size ≤ 4
        · have HG := Lib.hid (show grpB s = true by
            simp only [grpB, List.all_eq_true.2 HA.out, decide_eq_true h4, decide_eq_true (show 1 ≤ s.size by omega), Bool.and_self])
          have HNn := Lib.hid (show grpN s = n by rw [grpN, hn]; rfl)
          obtain ⟨n', hn', hn3⟩ := phex_small s.data.toList 0 0 (by omega) (by rw [HL.out]; omega) HA.out
          rw [hn] at hn'
          obtain rfl : n = n' := Option.some.inj hn'
          have HH := Lib.hid hn
          have h4b : decide ((s.size : Int) ≤ 4) = true := decide_eq_true (by omega)
          clear hn hn' h0
          go_wp2_with fail
          go_ret2
          exact ⟨⟨n, by rw [HG.out]; rfl, fun _ => by rw [HNn.out]⟩, B.out⟩
        · have HG := Lib.hid (show grpB s = false by simp only [grpB, decide_eq_false h4, Bool.and_false])
          clear hn h0
          have h4b : decide ((s.size : Int) ≤ 4) = false := decide_eq_false (by omega)
          go_wp2_with fail
          go_ret2
          exact ⟨⟨_, by rw [HG.out]; rfl, fun h => by rw [HG.out] at h; cases h⟩, B.out⟩
      · have HG := Lib.hid (show grpB s = false by
          rw [Bool.eq_false_iff]
          intro hg
          simp only [grpB, Bool.and_eq_true, decide_eq_true_eq] at hg
          rcases h0 with h0 | h0
          · omega
          · obtain ⟨n', hn', _⟩ := phex_small s.data.toList 0 0 (by omega) (by rw [HL.out]; omega) HA.out
            rw [h0] at hn'
            cases hn')
        clear h0
        go_wp2_with fail
        go_ret2
        exact ⟨⟨_, by rw [HG.out]; rfl, fun h => by rw [HG.out] at h; cases h⟩, B.out⟩
end Go.Proofs.YtonafonhadocgaaDoor

/- Slices of one-cell elements that read as a list; rows of the call's own. Plain laws. -/
namespace Go.Proofs.YtonafonhadocgaaDoor
open Go.RowKit

/-- A slice value '.slice A n c' reads as the list xs. -/
def RdV (w : World) (A : Option Addr) (n c : Nat) (xs : List Value) : Prop :=
  xs.length = n ∧ n ≤ c ∧ c ≤ 9223372036854775807 ∧ (0 < n → ∃ b off, A = some ⟨b, off, none⟩ ∧ ∀ k, k < n → w.cell? ⟨b, off + k, none⟩ = xs[k]?)
/-- The value v is nil or the head of a row of the call's own (a block from base on), and holds xs. -/
def OwnV (T : TypeId) (w : World) (base : Nat) (v : Value) (xs : List Value) : Prop := w.ownsRow base T 1 v xs.length xs

section
variable {w w' : World} {A : Option Addr} {n c base : Nat} {xs : List Value} {v : Value} {T : TypeId}
theorem RdV.nil (w : World) : RdV w none 0 0 [] := ⟨rfl, Nat.le_refl _, by omega, fun h => absurd h (by omega)⟩
theorem RdV.at_ (h : RdV w A n c xs) (hn : 0 < n) : ∃ b off, A = some ⟨b, off, none⟩ ∧ b < w.heap.size ∧ ∀ k, k < n → w.cell? ⟨b, off + k, none⟩ = xs[k]? := by
  obtain ⟨b, off, hA, hk⟩ := h.2.2.2 hn
  have h0 := hk 0 hn
  rw [List.getElem?_eq_getElem (by rw [h.1]; exact hn)] at h0
  exact ⟨b, off, hA, World.block_lt_of_cell? w _ h0, hk⟩
theorem RdV.below (h : RdV w A n c xs) (hb : Below w.heap.size w w') : RdV w' A n c xs :=
  ⟨h.1, h.2.1, h.2.2.1, fun hn => by
    obtain ⟨b, off, hA, hk⟩ := h.2.2.2 hn
    refine ⟨b, off, hA, fun k hk' => ?_⟩
    have e := hk k hk'
    rw [List.getElem?_eq_getElem (by rw [h.1]; exact hk')] at e ⊢
    exact cell_later hb e⟩
theorem RdV.alloc (h : RdV w A n c xs) (o : Obj) : RdV (w.alloc o) A n c xs := h.below ((Below.refl _ _).alloc (Nat.le_refl _) o)
theorem RdV.cut (h : RdV w A n c xs) {lo hi c' : Nat} (h1 : lo ≤ hi) (h2 : hi ≤ n) (h3 : hi - lo ≤ c') (h4 : c' ≤ c) (A' : Option Addr)
    (hA : lo < hi → A' = A.map fun x => x.add lo) : RdV w A' (hi - lo) c' ((xs.drop lo).take (hi - lo)) := by
  have hl := h.1
  refine ⟨by simp; omega, h3, by have := h.2.2.1; omega, fun hn => ?_⟩
  obtain ⟨b, off, rfl, hk⟩ := h.2.2.2 (by omega)
  refine ⟨b, off + lo, by rw [hA (by omega)]; simp [Addr.add_lit], fun k hk' => ?_⟩
  have e := hk (lo + k) (by omega)
  rw [Nat.add_assoc, e]
  simp [hk', List.getElem?_drop]
theorem OwnV.form (h : OwnV T w base v xs) : ∃ A c, v = .slice A xs.length c ∧ RdV w A xs.length c xs ∧ (A = none ∨ ∃ g, A = some ⟨g, 0, none⟩ ∧ base ≤ g ∧ g < w.heap.size) := by
  rcases h.2 with ⟨hv, hn⟩ | ⟨g, cap, cur, hv, hb, hg, hnc, hcm, hcs, ht⟩
  · have hl : xs = [] := List.eq_nil_of_length_eq_zero hn
    subst hl
    exact ⟨none, 0, hv, RdV.nil w, .inl rfl⟩
  · subst hv
    refine ⟨some ⟨g, 0, none⟩, cap, rfl, ⟨rfl, hnc, by simpa [maxLen] using hcm, fun hn => ⟨g, 0, rfl, fun k hk => ?_⟩⟩, .inr ⟨g, rfl, hb, (Array.getElem?_eq_some_iff.1 hg).1⟩⟩
    rw [Nat.zero_add, cell_of_row w g k cur T (0, 0) hg, ← ht, List.getElem?_take, if_pos (by omega)]
    simp
theorem OwnV.nil (w : World) (base : Nat) : OwnV T w base (.slice none 0 0) [] := World.ownsRow_nil w base _ 1
theorem OwnV.kept (h : OwnV T w base v xs) {B : Nat} (hb : Below B w w') (hB : ∀ g, v.ownBlock = some g → g < B) : OwnV T w' base v xs := by
  refine ⟨h.1, ?_⟩
  rcases h.2 with hn | ⟨g, cap, cur, rfl, hb', hg, rest⟩
  · exact .inl hn
  · exact .inr ⟨g, cap, cur, rfl, hb', by rw [hb.block g (hB g rfl)]; exact hg, rest⟩
theorem OwnV.below (h : OwnV T w base v xs) (hb : Below w.heap.size w w') : OwnV T w' base v xs := h.kept hb (fun g hg => (h.lt g hg).2)
theorem OwnV.alloc (h : OwnV T w base v xs) (o : Obj) : OwnV T (w.alloc o) base v xs := World.ownsRow.alloc h o
theorem OwnV.grown (h : OwnV T w base v xs) {row : Option Nat} (hg : w.grownBy w' row) (hr : ∀ g, v.ownBlock = some g → some g ≠ row) : OwnV T w' base v xs := by
  refine ⟨h.1, ?_⟩
  rcases h.2 with hn | ⟨g, cap, cur, rfl, hb', hgg, rest⟩
  · exact .inl hn
  · exact .inr ⟨g, cap, cur, rfl, hb', by rw [hg.block g (Array.getElem?_eq_some_iff.1 hgg).1 (hr g rfl)]; exact hgg, rest⟩
theorem OwnV.mono (h : OwnV T w base v xs) {base' : Nat} (hb : base' ≤ base) : OwnV T w base' v xs := by
  refine ⟨h.1, ?_⟩
  rcases h.2 with hn | ⟨g, cap, cur, hv, hb', rest⟩
  · exact .inl hn
  · exact .inr ⟨g, cap, cur, hv, by omega, rest⟩
theorem OwnV.blk_lt (h : OwnV T w base v xs) {g : Nat} (hg : v.ownBlock = some g) : base ≤ g ∧ g < w.heap.size := h.lt g hg
end

/-- append(s, x) of one or more elements that a literal has just laid. -/
theorem wpList_append_lit {P : Program} (w : World) {ops : Array Oper} {rest : List Oper} {o : Oper} {a : Act} {Q : Exit → Act → World → Prop} (hgd : o.guard = none) (s x : Operand) (t T : TypeId)
    (ho : o.op = .call { callee := .builtin .append, args := #[s, x], argTypes := #[t, t] })
    (base : Nat) (i : TypeInfo) (z : Value) (bytes : Nat) (ht : P.underlying t = some (.slice T)) (hi : P.info? T = some i) (hz : i.zero = some z) (hsize : i.size = 1) (hby : i.bytes = bytes) (hzs : z.cells.size = 1)
    (v : Value) (xs : List Value) (hs : a.eval s = v) (hown : OwnV T w base v xs) (news : List Value) (m : Nat) (hm : news.length = m) (hx : a.eval x = .slice (some ⟨w.heap.size, 0, none⟩) m m) (h1 : ∀ u ∈ news, u.oneCell' = true)
    (cs : Array Value) (hcs : cs = news.toArray) (h63 : xs.length + m ≤ 1099511627776) (hb16 : bytes ≤ 16) (hbase : base ≤ w.heap.size)
    (h : ∀ v' w', OwnV T w' base v' (xs ++ news) → Below base (w.alloc (.cells cs T)) w' → (w.alloc (.cells cs T)).grownBy w' v.ownBlock → wpList P ops Q rest (a.put o.dst v') w') : wpList P ops Q (o :: rest) a (w.alloc (.cells cs T)) := by
  subst hcs
  refine wpList_append_own (w.alloc (.cells news.toArray T)) hgd s x t ho base T i z 1 bytes ht hi hz hsize hby hzs (by omega) v xs.length xs hs (hown.alloc _) ⟨w.heap.size, 0, none⟩ m m news hx (by omega) (fun j u hj => ?_) h1 (by unfold maxLen; omega) ?_ (by simp; omega) (fun v' w' h2 h3 _ => ?_)
  · rw [Addr.add_lit, World.cell?_alloc_new]
    simpa using hj
  · have : (xs.length + m) * bytes ≤ 1099511627776 * 16 := Nat.mul_le_mul h63 hb16
    omega
  · refine h v' w' ?_ ((Below.refl _ _).grown h3 (by simp; omega) (fun k hk => (hown.blk_lt hk).1)) h3
    unfold OwnV
    rw [List.length_append, hm]
    exact h2
end Go.Proofs.YtonafonhadocgaaDoor

/- addr.some: the groups of a part of a writing. -/
namespace Go.Proofs.YtonafonhadocgaaDoor
open Go.RowKit Go.Shelf

/-- The cells of a row of groups. -/
def uv (l : List Nat) : List Value := l.map fun n : Nat => Value.int .u16 (n : Int)
theorem uv_len (l : List Nat) : (uv l).length = l.length := by simp [uv]
theorem uv_append (l m : List Nat) : uv (l ++ m) = uv l ++ uv m := by simp [uv]
theorem uv_one (l : List Nat) : ∀ u ∈ uv l, u.oneCell' = true := by
  intro u hu
  obtain ⟨_, _, rfl⟩ := List.mem_map.1 hu
  rfl
/-- The groups of an IPv4 writing. -/
def two : List UInt8 → List Nat
  | [a, b, c, d] => [a.toNat * 256 + b.toNat, c.toNat * 256 + d.toNat]
  | _ => []
/-- The groups of parts, behind those that are there. -/
def someA (last : Bool) (acc : List Nat) : List ByteArray → Option (List Nat)
  | [] => some acc
  | x :: r => if last && decide (r = []) && (f4 x).isSome then some (acc ++ two ((f4 x).getD [])) else if grpB x then someA last (acc ++ [grpN x]) r else none
def someG (s : ByteArray) (last : Bool) : Option (List Nat) := if s.data.toList = [] then some [] else someA last [] (partsB 58 s)
/-- What addr.some returns. -/
def SomeEnd (s : ByteArray) (last : Bool) (base : Nat) (e : Ending) (w' : World) : Prop := match someG s last with
  | some gs => ∃ v, e = .returned (.tuple #[v, .bool true]) ∧ OwnV 25 w' base v (uv gs)
  | none => e = .returned (.tuple #[.slice none 0 0, .bool false])
theorem some_yes {s : ByteArray} {last : Bool} {gs : List Nat} {base : Nat} {v : Value} {w' : World} (h : someG s last = some gs) (ho : OwnV 25 w' base v (uv gs)) : SomeEnd s last base (.returned (.tuple #[v, .bool true])) w' := by
  unfold SomeEnd
  rw [h]
  exact ⟨v, rfl, ho⟩
theorem some_no {s : ByteArray} {last : Bool} {base : Nat} {w' : World} (h : someG s last = none) : SomeEnd s last base (.returned (.tuple #[.slice none 0 0, .bool false])) w' := by
  unfold SomeEnd
  rw [h]
theorem two_len {x : ByteArray} {l : List UInt8} (h : f4 x = some l) : ∃ a b c d : UInt8, l = [a, b, c, d] := by
  unfold f4 f4L at h
  split at h
  · split at h
    · injection h with h
      exact ⟨_, _, _, _, h.symm⟩
    · cases h
  · cases h
theorem info_u16 : (Tryd.prog.info? 25).map (fun i => (i.zero, i.size, i.bytes)) = some (some (.int .u16 0), 1, 2) := by kernel_rfl
theorem hi_lo : ∀ a b : Nat, a < 256 → b < 256 → bits BinOp.or IntKind.u16 (IntKind.u16.wrap ((a : Int) * 256)) (b : Int) = ((a * 256 + b : Nat) : Int) := by
  intro a b ha hb
  have e : IntKind.u16.wrap ((a : Int) * 256) = ((a * 256 : Nat) : Int) := by simp [IntKind.wrap, IntKind.bits, IntKind.signed]; omega
  rw [e, u16_or_nat _ _ (by omega) (by omega)]
  have := Nat.two_pow_add_eq_or_of_lt (i := 8) (b := b) (by omega) a
  rw [show a * 256 = 2 ^ 8 * a by omega, ← this]

theorem u16_byte (b : UInt8) : IntKind.u16.wrap (b.toNat : Int) = (b.toNat : Int) := by
  have := b.toNat_lt
  simp [IntKind.wrap, IntKind.bits, IntKind.signed]
  omega

/-- The loop's memory. -/
structure SInv (w : World) (g : Nat) (ps : List ByteArray) (v : Value) (acc : List Nat) (wr : World) : Prop where
  lis : Blk wr g 9 ((ps.map Value.string).toArray)
  own : OwnV 25 wr (g + 1) v (uv acc)
  bel : Below w.heap.size w wr
  lt : w.heap.size ≤ g
theorem SInv.next {w : World} {g : Nat} {ps : List ByteArray} {v : Value} {acc : List Nat} {wr w' : World} (h : SInv w g ps v acc wr) (hb : Below wr.heap.size wr w') : SInv w g ps v acc w' :=
  ⟨h.lis.keep hb, h.own.below hb, h.bel.trans (hb.mono h.bel.size), h.lt⟩
theorem SInv.var {w : World} {g : Nat} {ps : List ByteArray} {v : Value} {acc : List Nat} {wr w' : World} {o : Obj} (h : SInv w g ps v acc wr) (hg : (wr.alloc o).grownBy w' (some wr.heap.size)) : SInv w g ps v acc w' := by
  have h1 := h.lis.lt
  refine ⟨(h.lis.alloc o).grown hg (fun e => by cases e; omega), (h.own.alloc o).grown hg (fun k hk e => ?_), (h.bel.alloc h.bel.size o).grown hg (by have := h.bel.size; simp; omega) (fun k e => by cases e; exact h.bel.size), h.lt⟩
  have := (h.own.blk_lt hk).2
  cases e
  omega
theorem SInv.app {w : World} {g : Nat} {ps : List ByteArray} {v v' : Value} {acc : List Nat} {wr w' : World} {o : Obj} (h : SInv w g ps v acc wr) (news : List Nat) (ho : OwnV 25 w' (g + 1) v' (uv acc ++ uv news)) (hb : Below (g + 1) (wr.alloc o) w') : SInv w g ps v' (acc ++ news) w' := by
  have h1 := h.lis.lt
  have h2 := h.lt
  have hb' : Below (g + 1) wr w' := (((Below.refl _ wr).alloc (by omega) o).trans hb)
  exact ⟨h.lis.below hb' (by omega), by rw [uv_append]; exact ho, h.bel.trans (hb'.mono (by omega)), h2⟩

set_option maxRecDepth 100000 in
set_option maxHeartbeats 16000000 in
theorem some_any (s : ByteArray) (last : Bool) (hs : s.size < 4294967281) (w : World) (env : Env w) :
    Calls Tryd.prog 56 #[.string s, .bool last] w fun e w' => SomeEnd s last w.heap.size e w' ∧ Below w.heap.size w w' := by
  obtain ⟨i0, hi0, hz0, hz1, hz2⟩ := info_parts info_u16
  have Hi0 := Lib.hid hi0
  have Hz0 := Lib.hid hz0
  have Hz1 := Lib.hid hz1
  have Hz2 := Lib.hid hz2
  clear hi0 hz0 hz1 hz2
  have E := Lib.hid env
  clear env
  by_cases h0 : s = ⟨#[]⟩
  · subst h0
    go_enter Tryd.func56, Tryd.ntmps56
    go_wp2_with fail
    go_ret2
    exact ⟨some_yes (gs := []) (by rw [someG, if_pos rfl]) (OwnV.nil _ _), Below.refl _ _⟩
  have hne := str_ne h0
  have HG := Lib.hid (show someG s last = someA last [] (partsB 58 s) by
    rw [someG, if_neg (fun e => h0 (by cases s with | mk d => cases d with | mk l => simp at e; rw [e]))])
  have HS := Lib.hid (fun W (e : Env W) => split_any 58 s hs W e)
  have HQ := Lib.hid (show ∀ x ∈ partsB 58 s, x.size < 4294967281 from fun x hx => by
    have := parts_size 58 s x hx
    omega)
  have hpl := parts_len 58 s
  clear h0
  obtain ⟨ps, hps⟩ : ∃ ps, ps = partsB 58 s := ⟨_, rfl⟩
  rw [← hps] at HS HQ HG hpl
  clear hps
  have hpn : ps.length ≤ 4294967281 := by omega
  have hse : s.toList.isEmpty = false := by
    simpa using hne
  clear hpl hne
  go_enter Tryd.func56, Tryd.ntmps56
  go_wp2_with fail
  refine (HS.out _ E.out).mono ?_
  rintro e w1 ⟨rfl, rfl⟩
  go_wp2_with fail
  have I0 := Lib.hid (show SInv w w.heap.size ps (.slice none 0 0) [] (w.alloc (.cells ((ps.map Value.string).toArray) 9)) from
    ⟨Blk.new w 9 _, OwnV.nil _ _, (Below.refl _ w).alloc (Nat.le_refl _) _, Nat.le_refl _⟩)
  generalize w.alloc (.cells ((ps.map Value.string).toArray) 9) = wr0 at *
  obtain ⟨g, hg⟩ : ∃ g, g = w.heap.size := ⟨_, rfl⟩
  rw [← hg] at I0 ⊢
  have HGg := Lib.hid hg
  clear hg HS
  go_loopw [7, 20] (fun v i wr => ∃ (k : Nat) (acc : List Nat), k ≤ ps.length ∧ i = .int .i64 k ∧ acc.length ≤ 2 * k ∧ Hid (someA last [] ps = someA last acc (ps.drop k)) ∧ Hid (SInv w g ps v acc wr)) (fun _ i _ => ps.length - (intOf i).toNat)
  case atStart => exact ⟨0, [], by omega, rfl, by simp, Lib.hid rfl, I0⟩
  case round =>
    clear I0
    obtain ⟨k, acc, hk, rfl, hal, hrun, I⟩ := hrel
    by_cases hlt : k < ps.length
    · obtain ⟨x, hx⟩ : ∃ x, x = ps[k] := ⟨_, rfl⟩
      have hdrop : ps.drop k = x :: ps.drop (k + 1) := by rw [hx]; exact List.drop_eq_getElem_cons hlt
      have hxs := HQ.out x (by rw [hx]; exact List.getElem_mem _)
      have q : wr.cell? ⟨g, k, none⟩ = some (.string x) := by rw [I.out.lis.cell k, hx]; simp [hlt]
      rw [hdrop] at hrun
      have HR := Lib.hid hrun.out
      have HDR := Lib.hid (show ps.drop (k + 1) = [] ↔ k + 1 = ps.length from ⟨fun e => by have := congrArg List.length e; simp at this; omega, fun e => List.drop_eq_nil_of_le (by omega)⟩)
      have HU := Lib.hid (fun W (e : Env W) => unfour_any x hxs W e)
      have HGr := Lib.hid (fun W (e : Env W) => group_any x (by omega) W e)
      clear hx hdrop hrun
      go_wp2_with fail
      refine (HU.out _ (E.out.below I.out.bel)).mono ?_
      rintro e w2 ⟨⟨v0, v1, v2, v3, rfl, hv⟩, b⟩
      have HV := Lib.hid hv
      have I2 := Lib.hid (I.out.next b)
      clear b hv I HU q
      obtain ⟨is, his⟩ : ∃ is, is = (f4 x).isSome := ⟨_, rfl⟩
      rw [← his]
      have HIS := Lib.hid his
      clear his
      go_upto_region 9 with ((with_reducible refine at_store 107 (.tmp 10) (.tmp 28) ?_); refine wpList_store_blk 107 (.tmp 10) (.tmp 28) w2.heap.size 107 #[.int .u8 0, .int .u8 0, .int .u8 0, .int .u8 0] #[.int .u8 v0, .int .u8 v1, .int .u8 v2, .int .u8 v3] (Blk.new w2 107 #[.int .u8 0, .int .u8 0, .int .u8 0, .int .u8 0]) (by rfl) (by rfl) (by rfl) (by rfl) f4_size rfl (by rfl) (by rfl) ?_; intro w3 hk3 hg3 hs3; have V3 := Lib.hid hk3; have G3 := Lib.hid (And.intro hg3 hs3); clear hk3 hg3 hs3)
      have I3 := Lib.hid (I2.out.var G3.out.1)
      clear I2 G3
      generalize w2.heap.size = g5 at *
      cases is with
      | false =>
        have HSP := Lib.hid (show ¬ (last && decide (ps.drop (k + 1) = []) && (f4 x).isSome) = true by rw [← HIS.out]; simp)
        clear HIS HV HDR
        go_wp2_with fail
        refine (HGr.out _ (E.out.below I3.out.bel)).mono ?_
        rintro e w4 ⟨⟨gv, rfl, hgv⟩, b⟩
        have HGV := Lib.hid hgv
        have I4 := Lib.hid (I3.out.next b)
        clear b hgv I3 V3
        by_cases hgb : grpB x = true
        · have hgn := HGV.out hgb
          subst hgn
          have HN := Lib.hid (show someA last [] ps = someA last (acc ++ [grpN x]) (ps.drop (k + 1)) by rw [HR.out, someA, if_neg HSP.out, if_pos hgb])
          rw [hgb]
          clear hgb HGV HGr HR
          go_wp2_with (at_builtin; refine wpList_append_lit w4 (by rfl) (.tmp 67) (.tmp 69) 100 25 (by rfl) (g + 1) i0 _ 2 Tryd.underlying100 Hi0.out Hz0.out Hz1.out Hz2.out rfl _ (uv acc) (by rfl) I4.out.own (uv [grpN x]) 1 rfl (by rfl) (uv_one _) _ (by rfl) (by rw [uv_len]; omega) (by omega) (by have := I4.out.lis.lt; omega) ?_; intro v' w5 ho hb hg; have I5 := Lib.hid (I4.out.app [grpN x] ho hb); clear ho hb hg)
          go_roundw
          case rel => exact ⟨k + 1, acc ++ [grpN x], by omega, by go_num, by simp; omega, HN, I5⟩
          case measure => simp [intOf]; omega
        · have hgf : grpB x = false := by simpa using hgb
          have HN := Lib.hid (show someG s last = none by rw [HG.out, HR.out, someA, if_neg HSP.out, if_neg hgb])
          rw [hgf]
          clear hgb hgf HGV HGr HR
          go_wp2_with fail
          go_ret2
          exact ⟨some_no HN.out, I4.out.bel⟩
      | true =>
        cases last with
        | false =>
          have HSP := Lib.hid (show ¬ (false && decide (ps.drop (k + 1) = []) && (f4 x).isSome) = true by simp)
          clear HIS HV HDR
          go_wp2_with fail
          refine (HGr.out _ (E.out.below I3.out.bel)).mono ?_
          rintro e w4 ⟨⟨gv, rfl, hgv⟩, b⟩
          have HGV := Lib.hid hgv
          have I4 := Lib.hid (I3.out.next b)
          clear b hgv I3 V3
          by_cases hgb : grpB x = true
          · have hgn := HGV.out hgb
            subst hgn
            have HN := Lib.hid (show someA false [] ps = someA false (acc ++ [grpN x]) (ps.drop (k + 1)) by rw [HR.out, someA, if_neg HSP.out, if_pos hgb])
            rw [hgb]
            clear hgb HGV HGr HR
            go_wp2_with (at_builtin; refine wpList_append_lit w4 (by rfl) (.tmp 67) (.tmp 69) 100 25 (by rfl) (g + 1) i0 _ 2 Tryd.underlying100 Hi0.out Hz0.out Hz1.out Hz2.out rfl _ (uv acc) (by rfl) I4.out.own (uv [grpN x]) 1 rfl (by rfl) (uv_one _) _ (by rfl) (by rw [uv_len]; omega) (by omega) (by have := I4.out.lis.lt; omega) ?_; intro v' w5 ho hb hg; have I5 := Lib.hid (I4.out.app [grpN x] ho hb); clear ho hb hg)
            go_roundw
            case rel => exact ⟨k + 1, acc ++ [grpN x], by omega, by go_num, by simp; omega, HN, I5⟩
            case measure => simp [intOf]; omega
          · have hgf : grpB x = false := by simpa using hgb
            have HN := Lib.hid (show someG s false = none by rw [HG.out, HR.out, someA, if_neg HSP.out, if_neg hgb])
            rw [hgf]
            clear hgb hgf HGV HGr HR
            go_wp2_with fail
            go_ret2
            exact ⟨some_no HN.out, I4.out.bel⟩
        | true =>
          by_cases hkn : k + 1 = ps.length
          · have hkb : ((k : Int) == (ps.length : Int) - 1) = true := by rw [beq_iff_eq]; omega
            obtain ⟨l, hl⟩ := Option.isSome_iff_exists.1 HIS.out.symm
            obtain ⟨b0, b1, b2, b3, hll, rfl, rfl, rfl, rfl⟩ := HV.out l hl
            subst hll
            have o1 := hi_lo b0.toNat b1.toNat b0.toNat_lt b1.toNat_lt
            have o2 := hi_lo b2.toNat b3.toNat b2.toNat_lt b3.toNat_lt
            have HN := Lib.hid (show someA true [] ps = someA true (acc ++ [b0.toNat * 256 + b1.toNat, b2.toNat * 256 + b3.toNat]) (ps.drop (k + 1)) by
              have e1 : someA true acc [x] = some (acc ++ two ((f4 x).getD [])) := by
                unfold someA
                rw [if_pos (by simp [hl])]
              rw [HR.out, HDR.out.2 hkn, e1, hl]
              rfl)
            have c0 := u16_byte b0
            have c1 := u16_byte b1
            have c2 := u16_byte b2
            have c3 := u16_byte b3
            have q0 := V3.out.cell 0
            have q1 := V3.out.cell 1
            have q2 := V3.out.cell 2
            have q3 := V3.out.cell 3
            simp at q0 q1 q2 q3
            clear HIS HV HR hl HGr HDR
            go_wp2_with (at_builtin; refine wpList_append_lit w3 (by rfl) (.tmp 41) (.tmp 58) 100 25 (by rfl) (g + 1) i0 _ 2 Tryd.underlying100 Hi0.out Hz0.out Hz1.out Hz2.out rfl _ (uv acc) (by rfl) I3.out.own (uv [b0.toNat * 256 + b1.toNat, b2.toNat * 256 + b3.toNat]) 2 rfl (by rfl) (uv_one _) _ (by rfl) (by rw [uv_len]; omega) (by omega) (by have := I3.out.lis.lt; omega) ?_; intro v' w5 ho hb hg; have I5 := Lib.hid (I3.out.app [b0.toNat * 256 + b1.toNat, b2.toNat * 256 + b3.toNat] ho hb); clear ho hb hg)
            go_roundw
            case rel => exact ⟨k + 1, acc ++ [b0.toNat * 256 + b1.toNat, b2.toNat * 256 + b3.toNat], by omega, by go_num, by simp; omega, HN, I5⟩
            case measure => simp [intOf]; omega
          · have hkb : ((k : Int) == (ps.length : Int) - 1) = false := by rw [beq_eq_false_iff_ne]; omega
            have HSP := Lib.hid (show ¬ (true && decide (ps.drop (k + 1) = []) && (f4 x).isSome) = true by
              rw [decide_eq_false (fun e => hkn (HDR.out.1 e))]; simp)
            clear HIS HV HDR hkn
            go_wp2_with fail
            refine (HGr.out _ (E.out.below I3.out.bel)).mono ?_
            rintro e w4 ⟨⟨gv, rfl, hgv⟩, b⟩
            have HGV := Lib.hid hgv
            have I4 := Lib.hid (I3.out.next b)
            clear b hgv I3 V3
            by_cases hgb : grpB x = true
            · have hgn := HGV.out hgb
              subst hgn
              have HN := Lib.hid (show someA true [] ps = someA true (acc ++ [grpN x]) (ps.drop (k + 1)) by rw [HR.out, someA, if_neg HSP.out, if_pos hgb])
              rw [hgb]
              clear hgb HGV HGr HR
              go_wp2_with (at_builtin; refine wpList_append_lit w4 (by rfl) (.tmp 67) (.tmp 69) 100 25 (by rfl) (g + 1) i0 _ 2 Tryd.underlying100 Hi0.out Hz0.out Hz1.out Hz2.out rfl _ (uv acc) (by rfl) I4.out.own (uv [grpN x]) 1 rfl (by rfl) (uv_one _) _ (by rfl) (by rw [uv_len]; omega) (by omega) (by have := I4.out.lis.lt; omega) ?_; intro v' w5 ho hb hg; have I5 := Lib.hid (I4.out.app [grpN x] ho hb); clear ho hb hg)
              go_roundw
              case rel => exact ⟨k + 1, acc ++ [grpN x], by omega, by go_num, by simp; omega, HN, I5⟩
              case measure => simp [intOf]; omega
            · have hgf : grpB x = false := by simpa using hgb
              have HN := Lib.hid (show someG s true = none by rw [HG.out, HR.out, someA, if_neg HSP.out, if_neg hgb])
              rw [hgf]
              clear hgb hgf HGV HGr HR
              go_wp2_with fail
              go_ret2
              exact ⟨some_no HN.out, I4.out.bel⟩
    · obtain rfl : k = ps.length := by omega
      have HR := Lib.hid (show someG s last = some acc by rw [HG.out, hrun.out, List.drop_length]; rfl)
      go_wp2_with fail
      go_ret2
      exact ⟨some_yes HR.out (I.out.own.mono (by rw [HGg.out]; omega)), I.out.bel⟩
end Go.Proofs.YtonafonhadocgaaDoor
