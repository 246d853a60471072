/- Reasons out of a text. -/
import Derived.Test.YtajgnbhcgfgjjaaDoorKsText
namespace Go.Proofs.YtajgnbhcgfgjjaaDoor
open Go.RowKit Go.Shelf

/-- The bits that one word adds, after k names. -/
def outStep (o : Nat) (x : ByteArray) : Nat → Nat
  | 0 => o
  | k + 1 => if nameB[k]?.getD ⟨#[]⟩ = x then outStep o x k ||| 2 ^ k else outStep o x k
def outL (l : List ByteArray) : Nat := l.foldl (fun o x => outStep o x 8) 0
theorem outL_snoc (l : List ByteArray) (x : ByteArray) : outL (l ++ [x]) = outStep (outL l) x 8 := by
  unfold outL
  rw [List.foldl_append]
  rfl
/-- The reasons of a text. -/
def outOf (s : ByteArray) : Nat := outL (splitB s)

theorem outStep_lt (o : Nat) (x : ByteArray) (ho : o < 256) (k : Nat) (hk : k ≤ 8) : outStep o x k < 256 := by
  induction k with
  | zero => exact ho
  | succ k ih =>
    rw [outStep]
    have h := ih (by omega)
    split
    · exact Nat.or_lt_two_pow (n := 8) h (Nat.pow_lt_pow_right (by decide) (by omega))
    · exact h
theorem outL_lt (l : List ByteArray) : outL l < 256 := by
  unfold outL
  have : ∀ (l : List ByteArray) (o : Nat), o < 256 → l.foldl (fun o x => outStep o x 8) o < 256 := by
    intro l
    induction l with
    | nil => intro o h; exact h
    | cons x l ih => intro o h; exact ih _ (outStep_lt o x h 8 (Nat.le_refl _))
  exact this l 0 (by decide)
theorem words_all : wordsUp 255 8 = nameB := by decide

theorem bytes_ne {t s : ByteArray} (h : ¬ t = s) : (t.toList == s.toList) = false := by
  rw [ByteArray.toList_eq, ByteArray.toList_eq]
  refine beq_eq_false_iff_ne.2 fun e => h ?_
  obtain ⟨⟨a⟩⟩ := t
  obtain ⟨⟨b⟩⟩ := s
  simp at e
  rw [e]
theorem results_two {fn : Func} {t u : Tmp} (h : fn.results = #[.tmp t, .tmp u]) (tmps : Array Value) (P : Program) (w : World) :
    (results fn tmps).run P w = .ok (.tuple #[tmps.getD t undef, tmps.getD u undef]) w := by
  simp [results, h]

/-- What kiss.Parse returns. -/
def parsed (s : ByteArray) : Value := if (⟨(txt (outOf s)).toArray⟩ : ByteArray) = s then .tuple #[.int .u8 (outOf s), .int .i64 0] else .tuple #[.int .u8 0, .int .i64 9]

set_option maxRecDepth 100000 in
set_option maxHeartbeats 2000000 in
theorem parse_any (s : ByteArray) (hsz : s.size ≤ 9223372036854775807) (w : World) :
    Calls Tryd.prog 12 #[.string s] w fun e w' => e = .returned (parsed s) ∧ Below w.heap.size w w' := by
  have HSZ := Lib.hid hsz
  clear hsz
  refine (callsIn_wide (n := 0)).1 (callsIn_of_wp_marks Tryd.func12 rfl trivial ?_ rfl)
  simp only [Tryd.ntmps12, List.size_toArray, List.length_cons, List.length_nil, Nat.reduceAdd, Nat.reduceSub, Array.replicate_succ, Array.replicate_zero, List.push_toArray, List.append_toArray, List.nil_append, List.cons_append]
  gi_wp2_with fail
  refine ⟨trivial, rfl, (callsIn_wide.2 (split_make s ⟨#[44]⟩ _)).mono ?_⟩
  rintro e w' ⟨rfl, rfl⟩
  gi_wp2_with fail
  have kO := Blk.new w 5 #[.int .u8 0]
  have kS := Blk.new (w.alloc (.cells #[.int .u8 0] 5)) 9 #[.string s]
  have kP := Blk.new ((w.alloc (.cells #[.int .u8 0] 5)).alloc (.cells #[.string s] 9)) 9 #[.string ⟨#[44]⟩]
  have kV := Blk.new (((w.alloc (.cells #[.int .u8 0] 5)).alloc (.cells #[.string s] 9)).alloc (.cells #[.string ⟨#[44]⟩] 9)) 3 #[.int .i64 0]
  simp only [World.size_alloc] at kS kP kV
  replace kO := ((kO.alloc (.cells #[.string s] 9)).alloc (.cells #[.string ⟨#[44]⟩] 9)).alloc (.cells #[.int .i64 0] 3)
  replace kS := (kS.alloc (.cells #[.string ⟨#[44]⟩] 9)).alloc (.cells #[.int .i64 0] 3)
  replace kP := kP.alloc (.cells #[.int .i64 0] 3)
  have b0 : Below w.heap.size w ((((w.alloc (.cells #[.int .u8 0] 5)).alloc (.cells #[.string s] 9)).alloc (.cells #[.string ⟨#[44]⟩] 9)).alloc (.cells #[.int .i64 0] 3)) :=
    ((((Below.refl _ _).alloc (Nat.le_refl _) _).alloc (by simp) _).alloc (by simp; omega) _).alloc (by simp; omega) _
  have hz : ((((w.alloc (.cells #[.int .u8 0] 5)).alloc (.cells #[.string s] 9)).alloc (.cells #[.string ⟨#[44]⟩] 9)).alloc (.cells #[.int .i64 0] 3)).heap.size = w.heap.size + 4 := by simp
  generalize (((w.alloc (.cells #[.int .u8 0] 5)).alloc (.cells #[.string s] 9)).alloc (.cells #[.string ⟨#[44]⟩] 9)).alloc (.cells #[.int .i64 0] 3) = w4 at *
  obtain ⟨n, hn⟩ : ∃ n, n = w.heap.size := ⟨_, rfl⟩
  rw [← hn] at kO kS kP kV b0 hz ⊢
  have HN := Lib.hid hn
  have HZ := Lib.hid hz
  have hnw : n ≤ w.heap.size := by omega
  clear hn
  have kO' := kO
  have HPS := Lib.hid (And.intro kS (And.intro kP kV))
  clear kS kP kV kO
  refine range_outer (gf := 34) (lb := #[.pointer (some ⟨n + 1 + 1, 0, none⟩), .pointer (some ⟨n + 1, 0, none⟩), .pointer (some ⟨n + 1 + 2, 0, none⟩)]) rfl (enters_of Tryd.func34 (by kernel_rfl) rfl)
    (encs := fun x : ByteArray => #[.string x]) (fun _ => rfl) (splitB s) (fun k => k = n + 1 ∨ k = n + 1 + 1 ∨ k = n + 1 + 2) ?seq ?hX
    (fun pre A => Blk A n 5 #[.int .u8 (outL pre)] ∧ Below n w A) ?hI ?h0
    (fun x a' A => ∃ k, n + 6 ≤ k ∧ Blk A k 9 #[.string x] ∧ a' = { tmps := #[.string s, undef, .int .u8 0, .int .i64 0, .pointer (some ⟨n, 0, none⟩), .pointer (some ⟨k, 0, none⟩), undef, undef, .string s,
        .func (.func 34) #[] #[.pointer (some ⟨n + 1 + 1, 0, none⟩), .pointer (some ⟨n + 1, 0, none⟩), .pointer (some ⟨n + 1 + 2, 0, none⟩)], .string x, undef, undef, undef, undef, undef, undef, undef, undef, undef, undef, undef, undef, undef, undef, undef], defers := [] }) ?hAx ?assign ?body ?done
  case seq =>
    intro W1 hb1 hz1
    exact split_seq (n + 1) (n + 1 + 1) (n + 1 + 2) s W1 (HPS.out.1.keep hb1) (HPS.out.2.1.keep hb1) (HPS.out.2.2.keep hb1) (by omega) (by omega) HSZ.out
  case hX => intro k hk; omega
  case hI =>
    rintro t A B row ⟨h1, h2⟩ hg hrow
    exact ⟨h1.grown hg (fun e => by have := hrow _ e.symm; omega), h2.grown hg (by have := h2.size; omega) (fun k e => by have := hrow k e; omega)⟩
  case h0 => exact ⟨kO', b0⟩
  case hAx =>
    rintro x a' A o hlt ⟨k, h1, h2, h3⟩
    exact ⟨k, h1, (World.putObj_heap_other (by omega)).trans h2, h3⟩
  case assign =>
    rintro pre x A K ⟨h1, h2⟩ hX hz2 hK
    have H1 := Lib.hid h1
    have H2 := Lib.hid h2
    clear h1 h2 hz b0 kO'
    have hsem := @Oper.semAt_some
    gi_wp2
    refine hK _ _ ((KeepsX.refl _ A).alloc ?_ _) ⟨H1.out.alloc _, H2.out.alloc ?_ _⟩ ⟨_, ?_, Blk.new A _ _, rfl⟩
    · have := HZ.out
      intro r hr
      omega
    · have := HZ.out
      omega
    · have := HZ.out
      omega
  case body =>
    rintro pre x rest a' A hxs ⟨h1, h2⟩ ⟨kx, hkx, h3, rfl⟩ hXA hzA ⟨lr, hrec⟩
    have hlx := h3.lt
    have H1 := Lib.hid h1
    have H2 := Lib.hid h2
    have H3 := Lib.hid h3
    have HA := Lib.hid hzA
    have HR := Lib.hid hrec
    clear h1 h2 h3 hXA hrec hxs hz b0 kO' hzA
    have hsem := @Oper.semAt_some
    gi_wp2_with fail
    refine ⟨trivial, rfl, (CallsIn.inRound _ (callsIn_wide.2 (words_make 255 _))).mono ?_⟩
    rintro e w' ⟨rfl, rfl⟩
    gi_wp2_with fail
    have kx2 := Lib.hid ((H3.out.alloc (.cells #[.int .u8 1] 5)).alloc (.cells #[.int .u8 255] 5))
    have kn2 := Lib.hid ((H1.out.alloc (.cells #[.int .u8 1] 5)).alloc (.cells #[.int .u8 255] 5))
    have kb2 := Lib.hid ((Blk.new A 5 #[.int .u8 1]).alloc (.cells #[.int .u8 255] 5))
    have kr2 := Blk.new (A.alloc (.cells #[.int .u8 1] 5)) 5 #[.int .u8 255]
    simp only [World.size_alloc] at kr2
    have KR2 := Lib.hid kr2
    have hl2 : ((A.alloc (.cells #[.int .u8 1] 5)).alloc (.cells #[.int .u8 255] 5)).heap[w4.heap.size + 1]? = some (.loop lr) := by
      have h0 := (Array.getElem?_eq_some_iff.1 HR.out).1
      exact (Below.heap_alloc _ _ _ (by simp; omega)).trans ((Below.heap_alloc _ _ _ h0).trans HR.out)
    have HAz := Lib.hid (show ((A.alloc (.cells #[.int .u8 1] 5)).alloc (.cells #[.int .u8 255] 5)).heap.size = A.heap.size + 2 by simp)
    have HB2 := Lib.hid (show Below A.heap.size A ((A.alloc (.cells #[.int .u8 1] 5)).alloc (.cells #[.int .u8 255] 5)) from ((Below.refl _ _).alloc (Nat.le_refl _) _).alloc (by simp) _)
    clear kr2
    generalize (A.alloc (.cells #[.int .u8 1] 5)).alloc (.cells #[.int .u8 255] 5) = A2 at *
    obtain ⟨m, hm⟩ : ∃ m, m = A.heap.size := ⟨_, rfl⟩
    rw [← hm] at hlx kb2 KR2 HAz HB2 ⊢
    have HM := Lib.hid hm
    clear hm
    refine range_inner hl2 (gf := 30) (lb := #[.pointer (some ⟨m + 1, 0, none⟩)]) rfl (enters_of Tryd.func30 (by kernel_rfl) rfl)
      (encs := fun x : ByteArray => #[.string x]) (fun _ => rfl) nameB (fun k => k = m + 1 ∨ (m + 3 ≤ k ∧ k < m + 10)) ?iseq ?ihX
      (fun pre2 B => pre2.length ≤ 8 ∧ Blk B n 5 #[.int .u8 (outStep (outL pre) x pre2.length)] ∧ Blk B m 5 #[.int .u8 ((2 ^ pre2.length % 256 : Nat) : Int)] ∧ Blk B kx 9 #[.string x] ∧ (∀ k, k < m → k ≠ n → B.heap[k]? = A.heap[k]?) ∧ m + 2 ≤ B.heap.size ∧ Below n w B) ?ihI ?ih0
      (fun y => { tmps := #[.string s, undef, .int .u8 0, .int .i64 0, .pointer (some ⟨n, 0, none⟩), .pointer (some ⟨kx, 0, none⟩), .pointer (some ⟨m, 0, none⟩), .string y, .string s,
        .func (.func 34) #[] #[.pointer (some ⟨n + 1 + 1, 0, none⟩), .pointer (some ⟨n + 1, 0, none⟩), .pointer (some ⟨n + 1 + 2, 0, none⟩)], .string x, .func (.func 30) #[] #[.pointer (some ⟨m + 1, 0, none⟩)], .string y, undef, undef, undef, undef, undef, undef, undef, undef, undef, undef, undef, undef, undef], defers := [] }) ?iassign ?ibody ?idone
    case iseq =>
      intro W1 hb1 hz1
      have h := words_seq (m + 1) 255 (by decide) W1 (KR2.out.keep hb1)
      rw [words_all] at h
      have e := HAz.out
      rwa [hz1, e] at h
    case ihX =>
      have e := HAz.out
      intro k hk; omega
    case ihI =>
      have e := HAz.out
      have e2 := HM.out
      have e3 := HA.out
      have e4 := HZ.out
      rintro t B C row ⟨h1, h2, h3, h4, h5, h6, h7⟩ hg hrow
      exact ⟨h1, h2.grown hg (fun e => by have := hrow _ e.symm; omega), h3.grown hg (fun e => by have := hrow _ e.symm; omega), h4.grown hg (fun e => by have := hrow _ e.symm; omega),
        fun k hk hkn => (hg.block _ (by omega) (fun e => by have := hrow _ e.symm; omega)).trans (h5 k hk hkn), Nat.le_trans h6 hg.size, h7.grown hg (by omega) (fun k e => by have := hrow k e; omega)⟩
    case ih0 => exact ⟨by simp, kn2.out, kb2.out, kx2.out, fun k hk _ => HB2.out.block _ hk, Nat.le_of_eq HAz.out.symm, H2.out.trans (HB2.out.mono (by have := HM.out; have := HA.out; have := HZ.out; omega))⟩
    case iassign =>
      intro y B K hK
      gi_wp2
      exact hK
    case ibody =>
      rintro pre2 y rest2 B hxs ⟨h1, h2, h3, h4, h5, h6, h7⟩ hXB hzB
      have hk8 : pre2.length < 8 := by
        have h := congrArg List.length hxs
        simp [nameB, nameL] at h
        omega
      have hyk : nameB[pre2.length]? = some y := by rw [hxs]; simp
      have q0 := h4.cell 0
      have q1 := h3.cell 0
      have q2 := h2.cell 0
      have f1 := h3.frozen 0
      have f2 := h2.frozen 0
      simp at q0 q1 q2
      have hL : (pre2 ++ [y]).length = pre2.length + 1 := by simp
      have hlt := outStep_lt (outL pre) x (outL_lt _) pre2.length (by omega)
      have hp : 2 ^ pre2.length < 256 := (Nat.pow_lt_pow_right (by decide) hk8 : 2 ^ pre2.length < 2 ^ 8)
      have hpow : (2 ^ pre2.length % 256 * 2 % 256 : Int) = 2 ^ (pre2.length + 1) % 256 := by
        rw [Int.pow_succ]
        generalize (2 : Int) ^ pre2.length = z
        omega
      by_cases he : y = x
      · have HS := Lib.hid (show outStep (outL pre) x (pre2.length + 1) = outStep (outL pre) x pre2.length ||| 2 ^ pre2.length by rw [outStep, hyk]; exact if_pos he)
        have hor : bits .or .u8 ((outStep (outL pre) x pre2.length : Nat) : Int) (2 ^ pre2.length % 256) = ((outStep (outL pre) x pre2.length ||| 2 ^ pre2.length : Nat) : Int) := by
          have h := u8_or_nat _ _ hlt hp
          rw [← h]
          congr 1
          norm_cast
          exact Nat.mod_eq_of_lt hp
        subst he
        have H2' := Lib.hid h2
        have H3' := Lib.hid h3
        have H4' := Lib.hid h4
        have H5' := Lib.hid h5
        have H6' := Lib.hid h6
        have H7' := Lib.hid h7
        clear h2 h3 h4 h5 h6 h7 hxs hXB hlt hl2
        gi_wp2
        rw [HS.out, ← hpow]
        have z1 := HAz.out
        have z2 := H6'.out
        have hnm : n ≠ m := by omega
        refine ⟨⟨by simp, fun r hr => ?_⟩, by omega, (H2'.out.set_ 0 _).far hnm _, (H3'.out.far (Ne.symm hnm) _).set_ 0 _, (H4'.out.far (by simp; omega) _).far (by simp; omega) _, fun k hk hkn => ?_, z2, ?_⟩
        · exact (Below.heap_setCell _ _ _ _ (by simp; omega)).trans (Below.heap_setCell _ _ _ _ (by simp; omega))
        · exact (Below.heap_setCell _ _ _ _ (by simp; omega)).trans ((Below.heap_setCell _ _ _ _ hkn).trans (H5'.out k hk hkn))
        · exact (H7'.out.grown (grownBy_setCell' B n _) (by omega) (fun k e => by cases e; omega)).grown (grownBy_setCell' _ m _) (by simp; omega) (fun k e => by cases e; omega)
      · have HS := Lib.hid (show outStep (outL pre) x (pre2.length + 1) = outStep (outL pre) x pre2.length by rw [outStep, hyk]; exact if_neg he)
        have hne := bytes_ne he
        have H2' := Lib.hid h2
        have H3' := Lib.hid h3
        have H4' := Lib.hid h4
        have H5' := Lib.hid h5
        have H6' := Lib.hid h6
        have H7' := Lib.hid h7
        clear h2 h3 h4 h5 h6 h7 hxs hXB hlt hl2
        gi_wp2
        rw [HS.out, ← hpow]
        have z1 := HAz.out
        have z2 := H6'.out
        have hnm : n ≠ m := by omega
        refine ⟨⟨by simp, fun r hr => ?_⟩, by omega, H2'.out.far hnm _, H3'.out.set_ 0 _, H4'.out.far (by simp; omega) _, fun k hk hkn => ?_, z2, ?_⟩
        · exact Below.heap_setCell _ _ _ _ (by simp; omega)
        · exact (Below.heap_setCell _ _ _ _ (by simp; omega)).trans (H5'.out k hk hkn)
        · exact H7'.out.grown (grownBy_setCell' _ m _) (by omega) (fun k e => by cases e; omega)
    case idone =>
      rintro C ⟨h1, h2, h3, h4, h5, h6, h7⟩ hzC
      have e8 : nameB.length = 8 := by decide
      rw [e8] at h2
      have HC := Lib.hid (And.intro h2 (And.intro h5 (And.intro h6 h7)))
      clear h2 h3 h4 h5 h6 h7 hl2 hzC
      gi_wp2
      obtain ⟨c1, c2, c3, c4⟩ := HC.out
      have z1 := HZ.out
      have z2 := HM.out
      refine ⟨⟨by omega, fun r hr => c2 r (by omega) (by omega)⟩, ?_, c4⟩
      rw [outL_snoc]
      exact c1
  case done =>
    rintro W2 ⟨h1, h2⟩ hz2 hK
    have q0 := h1.cell 0
    simp at q0
    have H2 := Lib.hid h2
    have HK := Lib.hid hK
    have HO := Lib.hid h1
    clear h1 hK h2 hz b0 kO'
    change _ = some (Value.int .u8 (outOf s : Nat)) at q0
    gi_wp2_with fail
    refine ⟨trivial, rfl, (callsIn_wide.2 (text_any (outOf s) (outL_lt _) W2)).mono ?_⟩
    rintro e B ⟨rfl, hb⟩
    have HB := Lib.hid hb
    have q1 := (HO.out.keep hb).cell 0
    simp at q1
    change _ = some (Value.int .u8 (outOf s : Nat)) at q1
    clear hb q0
    have b3 : Below n w B := H2.out.trans (HB.out.mono (by have := HZ.out; omega))
    have HB3 := Lib.hid b3
    have HK' := Lib.hid (show B.heap[w4.heap.size]? = some (.deferred (some [])) from (HB.out.block _ (by omega)).trans HK.out)
    have HZB := Lib.hid (show n < B.heap.size by have := b3.size; have := HB.out.size; have := HZ.out; omega)
    clear b3
    by_cases he : (⟨(txt (outOf s)).toArray⟩ : ByteArray) = s
    · have HP := Lib.hid (show parsed s = .tuple #[.int .u8 (outOf s), .int .i64 0] by rw [parsed, if_pos he])
      rw [he]
      gi_wp2
      refine ⟨by simp, .inl ⟨_, _, rfl, run_takeDeferred HK'.out, ?_⟩⟩
      refine ⟨_, results_two rfl _ _ _, by rw [HP.out]; rfl, ?_⟩
      rw [← HN.out]
      exact HB3.out.grown (grownBy_putObj' B _ _) (by have := HZB.out; omega) (fun k e => by cases e; have := HZ.out; omega)
    · have HP := Lib.hid (show parsed s = .tuple #[.int .u8 0, .int .i64 9] by rw [parsed, if_neg he])
      have hne : ((⟨(txt (outOf s)).toArray⟩ : ByteArray).toList == s.toList) = false := bytes_ne he
      generalize (⟨(txt (outOf s)).toArray⟩ : ByteArray) = t at *
      gi_wp2
      refine ⟨by simp, .inl ⟨_, _, rfl, run_takeDeferred HK'.out, ?_⟩⟩
      refine ⟨_, results_two rfl _ _ _, by rw [HP.out]; rfl, ?_⟩
      rw [← HN.out]
      exact HB3.out.grown (grownBy_putObj' B _ _) (by have := HZB.out; omega) (fun k e => by cases e; have := HZ.out; omega)
end Go.Proofs.YtajgnbhcgfgjjaaDoor
