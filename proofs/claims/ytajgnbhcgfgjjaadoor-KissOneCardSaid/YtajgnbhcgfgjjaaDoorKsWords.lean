/- The words of reasons: the program's iterator. -/
import Derived.Test.YtajgnbhcgfgjjaaDoorKsSplit
import Derived.Laws.BitsAllLaws
import Derived.Outline
namespace Go.Proofs.YtajgnbhcgfgjjaaDoor
open Go.RowKit Go.Shelf

/-- The names, with commas between. -/
def namesB : ByteArray := ⟨#[118, 101, 114, 115, 105, 111, 110, 44, 109, 111, 100, 101, 44, 108, 101, 97, 112, 44, 115, 116, 114, 97, 116, 117, 109, 44, 114, 111, 111, 116, 44, 122, 101, 114, 111, 44, 111, 114, 100, 101, 114, 44, 115, 116, 97, 108, 101]⟩
def nameL : List (List UInt8) := [[118, 101, 114, 115, 105, 111, 110], [109, 111, 100, 101], [108, 101, 97, 112], [115, 116, 114, 97, 116, 117, 109], [114, 111, 111, 116], [122, 101, 114, 111], [111, 114, 100, 101, 114], [115, 116, 97, 108, 101]]
def nameB : List ByteArray := nameL.map fun l => ⟨l.toArray⟩
theorem split_names : splitB namesB = nameB := by
  have h : splitC namesB.data.toList = nameL := by decide
  unfold splitB nameB
  rw [h]

/-- The words of the first k names. -/
def wordsUp (r : Nat) : Nat → List ByteArray
  | 0 => []
  | k + 1 => wordsUp r k ++ if r / 2 ^ k % 2 = 1 then [nameB[k]?.getD ⟨#[]⟩] else []

theorem wordsUp_split (r k m : Nat) (hk : k < m) (hb : r / 2 ^ k % 2 = 1) : ∃ rest, wordsUp r m = wordsUp r k ++ nameB[k]?.getD ⟨#[]⟩ :: rest := by
  induction m with
  | zero => omega
  | succ m ih =>
    by_cases h : k = m
    · subst h
      exact ⟨[], by rw [wordsUp, if_pos hb]⟩
    · obtain ⟨rest, e⟩ := ih (by omega)
      exact ⟨rest ++ (if r / 2 ^ m % 2 = 1 then [nameB[m]?.getD ⟨#[]⟩] else []), by rw [wordsUp, e]; simp⟩
theorem bit_at (r k : Nat) (hr : r < 256) : bits BinOp.and IntKind.u8 ((r : Int) / 2 ^ k) 1 = ((r / 2 ^ k % 2 : Nat) : Int) := by
  have e : ((r : Int) / 2 ^ k) = ((r / 2 ^ k : Nat) : Int) := by norm_cast
  have h : r / 2 ^ k ≤ r := Nat.div_le_self _ _
  rw [e, show (1 : Int) = ((1 : Nat) : Int) from rfl, u8_and_nat _ _ (by omega) (by omega), Nat.and_one_is_mod]

set_option maxRecDepth 100000 in
theorem split_make (s sep : ByteArray) (w : World) :
    Calls Tryd.prog 28 #[.string s, .string sep] w fun e w' =>
      e = .returned (.func (.func 34) #[] #[.pointer (some ⟨w.heap.size + 1, 0, none⟩), .pointer (some ⟨w.heap.size, 0, none⟩), .pointer (some ⟨w.heap.size + 2, 0, none⟩)]) ∧
        ((w.alloc (.cells #[.string s] 9)).alloc (.cells #[.string sep] 9)).alloc (.cells #[.int .i64 0] 3) = w' := by
  go_enter Tryd.func28, Tryd.ntmps28
  go_wp2
  go_ret
  exact ⟨rfl, rfl⟩

set_option maxRecDepth 100000 in
set_option maxHeartbeats 2000000 in
theorem words_seq (br : Nat) (r : Nat) (hr : r < 256) (W : World) (hb : Blk W br 5 #[.int .u8 r]) :
    SeqX Tryd.prog 30 #[.pointer (some ⟨br, 0, none⟩)] (fun x : ByteArray => #[.string x]) (wordsUp r 8) (fun k => k = br ∨ (W.heap.size ≤ k ∧ k < W.heap.size + 7)) W := by
  intro l J hJ hY h0
  refine callsIn_of_wp_marks Tryd.func30 rfl trivial ?_ rfl
  simp only [Tryd.ntmps30, List.size_toArray, List.length_cons, List.length_nil, Nat.reduceAdd, Nat.reduceSub, Array.replicate_succ, Array.replicate_zero, List.push_toArray, List.append_toArray, List.nil_append, List.cons_append]
  gi_wp2_with fail
  refine ⟨trivial, rfl, (callsIn_wide.2 (split_make namesB ⟨#[44]⟩ _)).mono ?_⟩
  rintro e w' ⟨rfl, rfl⟩
  gi_wp2_with fail
  have hbr := hb.lt
  have kY := Blk.new W 43 #[.func (.yield l) #[] #[]]
  have kI := Blk.new (W.alloc (.cells #[.func (.yield l) #[] #[]] 43)) 3 #[.int .i64 0]
  have kS := Blk.new ((W.alloc (.cells #[.func (.yield l) #[] #[]] 43)).alloc (.cells #[.int .i64 0] 3)) 9 #[.string namesB]
  have kP := Blk.new (((W.alloc (.cells #[.func (.yield l) #[] #[]] 43)).alloc (.cells #[.int .i64 0] 3)).alloc (.cells #[.string namesB] 9)) 9 #[.string ⟨#[44]⟩]
  have kV := Blk.new ((((W.alloc (.cells #[.func (.yield l) #[] #[]] 43)).alloc (.cells #[.int .i64 0] 3)).alloc (.cells #[.string namesB] 9)).alloc (.cells #[.string ⟨#[44]⟩] 9)) 3 #[.int .i64 0]
  simp only [World.size_alloc] at kI kS kP kV
  replace kY := (((kY.alloc (.cells #[.int .i64 0] 3)).alloc (.cells #[.string namesB] 9)).alloc (.cells #[.string ⟨#[44]⟩] 9)).alloc (.cells #[.int .i64 0] 3)
  replace kI := ((kI.alloc (.cells #[.string namesB] 9)).alloc (.cells #[.string ⟨#[44]⟩] 9)).alloc (.cells #[.int .i64 0] 3)
  replace kS := (kS.alloc (.cells #[.string ⟨#[44]⟩] 9)).alloc (.cells #[.int .i64 0] 3)
  replace kP := kP.alloc (.cells #[.int .i64 0] 3)
  have kR := ((((hb.alloc (.cells #[.func (.yield l) #[] #[]] 43)).alloc (.cells #[.int .i64 0] 3)).alloc (.cells #[.string namesB] 9)).alloc (.cells #[.string ⟨#[44]⟩] 9)).alloc (.cells #[.int .i64 0] 3)
  have ja : ∀ (A : World) (o : Obj), J [] A → J [] (A.alloc o) := fun A o h => hJ _ _ _ none h (World.grownBy_alloc _ _ none) (fun k e => by cases e)
  have j0 := ja _ (.cells #[.int .i64 0] 3) (ja _ (.cells #[.string ⟨#[44]⟩] 9) (ja _ (.cells #[.string namesB] 9) (ja _ (.cells #[.int .i64 0] 3) (ja _ (.cells #[.func (.yield l) #[] #[]] 43) h0))))
  have hz : (((((W.alloc (.cells #[.func (.yield l) #[] #[]] 43)).alloc (.cells #[.int .i64 0] 3)).alloc (.cells #[.string namesB] 9)).alloc (.cells #[.string ⟨#[44]⟩] 9)).alloc (.cells #[.int .i64 0] 3)).heap.size = W.heap.size + 5 := by simp
  generalize ((((W.alloc (.cells #[.func (.yield l) #[] #[]] 43)).alloc (.cells #[.int .i64 0] 3)).alloc (.cells #[.string namesB] 9)).alloc (.cells #[.string ⟨#[44]⟩] 9)).alloc (.cells #[.int .i64 0] 3) = w5 at *
  clear ja h0 hb
  generalize W.heap.size = n at *
  refine range_outer (gf := 34) (lb := #[.pointer (some ⟨n + 1 + 1 + 1, 0, none⟩), .pointer (some ⟨n + 1 + 1, 0, none⟩), .pointer (some ⟨n + 1 + 1 + 2, 0, none⟩)]) rfl (enters_of Tryd.func34 (by kernel_rfl) rfl)
    (encs := fun x : ByteArray => #[.string x]) (fun _ => rfl) nameB (fun k => k = n + 1 + 1 ∨ k = n + 1 + 1 + 1 ∨ k = n + 1 + 1 + 2) ?seq ?hX
    (fun pre A => pre.length ≤ 8 ∧ J (wordsUp r pre.length) A ∧ Blk A n 43 #[.func (.yield l) #[] #[]] ∧ Blk A (n + 1) 3 #[.int .i64 pre.length] ∧ Blk A br 5 #[.int .u8 r]) ?hI ?h0
    (fun x a' _ => a' = { tmps := #[.func (.yield l) #[] #[], .pointer (some ⟨br, 0, none⟩), .pointer (some ⟨n, 0, none⟩), .pointer (some ⟨n + 1, 0, none⟩), .string x, .func (.func 34) #[] #[.pointer (some ⟨n + 1 + 1 + 1, 0, none⟩), .pointer (some ⟨n + 1 + 1, 0, none⟩), .pointer (some ⟨n + 1 + 1 + 2, 0, none⟩)], .string x, undef, undef, undef, undef, undef, undef, undef, undef, undef, undef, undef, undef, undef], defers := [] }) ?hAx ?assign ?body ?done
  case seq =>
    intro W1 hb1 hz1
    have h := split_seq (n + 1 + 1) (n + 1 + 1 + 1) (n + 1 + 1 + 2) namesB W1 (kS.keep hb1) (kP.keep hb1) (kV.keep hb1) (by omega) (by omega) (by decide)
    rwa [split_names] at h
  case hX => intro k hk; omega
  case hI =>
    rintro s A B row ⟨h1, h2, h3, h4, h5⟩ hg hrow
    have ne : ∀ k, (k = n ∨ k = n + 1 ∨ k = br) → some k ≠ row := fun k hk e => by have := hrow k e.symm; omega
    exact ⟨h1, hJ _ _ _ _ h2 hg (fun k e => by have := hrow k e; omega), h3.grown hg (ne _ (.inl rfl)), h4.grown hg (ne _ (.inr (.inl rfl))), h5.grown hg (ne _ (.inr (.inr rfl)))⟩
  case h0 => exact ⟨by simp, j0, kY, kI, kR⟩
  case hAx => intro x a' A o _ h; exact h
  case assign =>
    intro pre x A K hi hX hz2 hK
    have hsem := @Oper.semAt_some
    gi_wp2
    exact hK _ _ (KeepsX.refl _ _) hi rfl
  case body =>
    rintro pre x rest a' A hxs ⟨h1, h2, h3, h4, h5⟩ rfl hXA hzA hrec
    have hk8 : pre.length < 8 := by
      have h := congrArg List.length hxs
      simp [nameB, nameL] at h
      omega
    have hxk : nameB[pre.length]? = some x := by rw [hxs]; simp
    have q0 := h5.cell 0
    have q1 := h4.cell 0
    have q2 := h3.cell 0
    have f1 := h4.frozen 0
    simp at q0 q1 q2
    have hsem := @Oper.semAt_some
    have hbit := bit_at r pre.length hr
    have hX7 : ∀ k, (k = br ∨ n ≤ k ∧ k < n + 7) → k < A.heap.size := fun k hk => by have := h5.lt; omega
    by_cases hone : r / 2 ^ pre.length % 2 = 1
    · obtain ⟨rest', hw⟩ := wordsUp_split r pre.length 8 hk8 hone
      rw [hone] at hbit
      rw [hxk] at hw
      obtain ⟨fn, tmps, assign, body, hy, hR⟩ := hY _ x rest' A hw h2 hX7
      have HW := Lib.hid (show wordsUp r (pre.length + 1) = wordsUp r pre.length ++ [x] by rw [wordsUp, if_pos hone, hxk]; rfl)
      have H3 := Lib.hid h3
      have H4 := Lib.hid h4
      have H5 := Lib.hid h5
      have HZ := Lib.hid hz
      have HL := Lib.hid (show (pre ++ [x]).length = pre.length + 1 by simp)
      clear hw h2 h3 h4 h5 hX7 hone hxs hxk hz hXA hrec
      gi_wp2_with fail
      refine ⟨rfl, RoundIn.mono (F := Fence.wide.inRound (w5.heap.size + 1)) hR ?_⟩
      rintro e B ⟨rfl, hJ2, hzz, hk⟩
      have H3b := Lib.hid (show Blk B n 43 #[.func (.yield l) #[] #[]] from (hk n (.inr ⟨Nat.le_refl _, by omega⟩)).trans H3.out)
      have H4b := Lib.hid (show Blk B (n + 1) 3 #[.int .i64 pre.length] from (hk (n + 1) (.inr ⟨by omega, by omega⟩)).trans H4.out)
      have H5b := Lib.hid (show Blk B br 5 #[.int .u8 r] from (hk br (.inl rfl)).trans H5.out)
      have q3 := H4b.out.cell 0
      have f3 := H4b.out.frozen 0
      simp at q3
      have HJ2 := Lib.hid hJ2
      have HK := Lib.hid hk
      have HZZ := Lib.hid hzz
      clear hJ2 hk hR hy hzz q0 q1 q2 f1
      gi_wp2_with fail
      refine ⟨⟨by have := HZZ.out; simpa using this, fun k hk => ?_⟩, by omega, ?_, H3b.out.far (by simp) _, H4b.out.set_ 0 _, H5b.out.far (by simp; omega) _⟩
      · have hz5 := HZ.out
        exact (Below.heap_setCell _ _ _ _ (by simp; omega)).trans (HK.out k (by omega))
      · rw [HW.out]
        exact hJ _ _ _ (some (n + 1)) HJ2.out (grownBy_setCell' B (n + 1) _) (fun k e => by cases e; omega)
    · have h0b : r / 2 ^ pre.length % 2 = 0 := by omega
      rw [h0b] at hbit
      have HW := Lib.hid (show wordsUp r (pre.length + 1) = wordsUp r pre.length by rw [wordsUp, if_neg hone, List.append_nil])
      have H2 := Lib.hid h2
      have H3 := Lib.hid h3
      have H4 := Lib.hid h4
      have H5 := Lib.hid h5
      have HZ := Lib.hid hz
      have HL := Lib.hid (show (pre ++ [x]).length = pre.length + 1 by simp)
      clear h2 h3 h4 h5 hX7 hone hxs hxk hz hXA hrec h0b
      gi_wp2_with fail
      refine ⟨fun _ h => (by cases h), ?_⟩
      gi_wp2_with fail
      refine ⟨⟨by simp, fun k hk => ?_⟩, by omega, ?_, H3.out.far (by simp) _, H4.out.set_ 0 _, H5.out.far (by simp; omega) _⟩
      · have hz5 := HZ.out
        exact Below.heap_setCell _ _ _ _ (by simp; omega)
      · rw [HW.out]
        exact hJ _ _ _ (some (n + 1)) H2.out (grownBy_setCell' A (n + 1) _) (fun k e => by cases e; omega)
  case done =>
    rintro W2 ⟨h1, h2, h3, h4, h5⟩ hz2 hK
    gi_wp2
    refine ⟨by simp, .inl ⟨_, _, rfl, run_takeDeferred hK, ?_⟩⟩
    refine ⟨_, results_none rfl _ _ _, ⟨_, rfl⟩, ?_⟩
    exact hJ _ _ _ _ h2 (grownBy_putObj' W2 _ _) (fun k e => by cases e; omega)
end Go.Proofs.YtajgnbhcgfgjjaaDoor
