/- The reference's Split, walked. -/
import Derived.Test.YtgdnckglfhabnaaDoorRfNumW
namespace Go.Proofs.YtgdnckglfhabnaaDoor
open Go.RowKit Go.Shelf

theorem extract_mkB (s : ByteArray) (f k : Nat) : s.extract f k = mkB ((s.data.toList.drop f).take (k - f)) := by
  apply ByteArray.ext
  apply Array.toList_inj.1
  rw [Lib.extract_data]
  rfl
theorem strs_one (l : List ByteArray) : ∀ u ∈ l.map Value.string, u.oneCell' = true := by
  intro u hu
  obtain ⟨_, _, rfl⟩ := List.mem_map.1 hu
  rfl
/-- What is left to be split, from f on; k: up to where none was found. -/
def SpI (b : UInt8) (s : ByteArray) (f k : Nat) (done : List ByteArray) : Prop :=
  f ≤ k ∧ done.length ≤ f ∧ partsB b s = done ++ (spl b (s.data.toList.drop f)).map mkB ∧ b ∉ (s.data.toList.drop f).take (k - f)
theorem SpI.next {b : UInt8} {s : ByteArray} {f k : Nat} {done : List ByteArray} (h : SpI b s f k done) (hk : k < s.size) (hc : s[k] ≠ b) : SpI b s f (k + 1) done := by
  obtain ⟨h1, h2, h3, h4⟩ := h
  refine ⟨by omega, h2, h3, ?_⟩
  have hl : s.data.toList.length = s.size := rfl
  have e : (s.data.toList.drop f).take (k + 1 - f) = (s.data.toList.drop f).take (k - f) ++ [s[k]] := by
    rw [show k + 1 - f = (k - f) + 1 by omega, List.take_succ_eq_append_getElem (by rw [List.length_drop, hl]; omega), List.getElem_drop]
    congr 2
    have : s[k] = s.data.toList[k]'(by rw [hl]; exact hk) := rfl
    rw [this]
    congr 1
    omega
  rw [e, List.mem_append, List.mem_singleton]
  rintro (h | h)
  · exact h4 h
  · exact hc h.symm
theorem SpI.cut {b : UInt8} {s : ByteArray} {f k : Nat} {done : List ByteArray} (h : SpI b s f k done) (hk : k < s.size) (hc : s[k] = b) : SpI b s (k + 1) (k + 1) (done ++ [s.extract f k]) := by
  obtain ⟨h1, h2, h3, h4⟩ := h
  have hl : s.data.toList.length = s.size := rfl
  refine ⟨Nat.le_refl _, by simp; omega, ?_, by simp⟩
  have e : s.data.toList.drop f = (s.data.toList.drop f).take (k - f) ++ b :: s.data.toList.drop (k + 1) := by
    have e1 : s.data.toList.drop k = b :: s.data.toList.drop (k + 1) := by
      rw [List.drop_eq_getElem_cons (by rw [hl]; exact hk)]
      congr 1
    rw [← e1]
    have e2 := (List.take_append_drop (k - f) (s.data.toList.drop f)).symm
    rw [List.drop_drop, show f + (k - f) = k by omega] at e2
    exact e2
  rw [e, spl_at b _ _ h4] at h3
  rw [h3, extract_mkB]
  simp
theorem SpI.end_ {b : UInt8} {s : ByteArray} {f : Nat} {done : List ByteArray} (h : SpI b s f s.size done) : partsB b s = done ++ [s.extract f s.size] := by
  obtain ⟨h1, h2, h3, h4⟩ := h
  have hl : s.data.toList.length = s.size := rfl
  have e : (s.data.toList.drop f).take (s.size - f) = s.data.toList.drop f := List.take_of_length_le (by rw [List.length_drop, hl]; omega)
  rw [e] at h4
  rw [h3, spl_no b _ h4, extract_mkB, e]
  rfl

set_option maxRecDepth 100000 in
set_option maxHeartbeats 8000000 in
theorem rsplit_any (b : UInt8) (s : ByteArray) (hs : s.size < 4294967281) (w : World) :
    Calls Tryd.prog 32 #[.string s, .int .u8 (b.toNat : Int)] w fun e w' => ∃ v, e = .returned v ∧ OwnV 9 w' w.heap.size v ((partsB b s).map Value.string) ∧ Below w.heap.size w w' := by
  obtain ⟨i0, hi0, hz0, hz1, hz2⟩ := info_parts info_str
  have Hi0 := Lib.hid hi0
  have Hz0 := Lib.hid hz0
  have Hz1 := Lib.hid hz1
  have Hz2 := Lib.hid hz2
  clear hi0 hz0 hz1 hz2
  go_enter Tryd.func32, Tryd.ntmps32
  go_wp2_with fail
  obtain ⟨wr0, hw0⟩ : ∃ wr0, wr0 = w := ⟨_, rfl⟩
  go_loopw [5, 6, 7] (fun v f i wr => ∃ (k fr : Nat) (done : List ByteArray), k ≤ s.size + 1 ∧ i = .int .i64 k ∧ f = .int .i64 fr ∧ Hid (done.length ≤ k) ∧ Hid ((k ≤ s.size ∧ SpI b s fr k done) ∨ (k = s.size + 1 ∧ partsB b s = done)) ∧ Hid (Below w.heap.size w wr ∧ OwnV 9 wr w.heap.size v (done.map Value.string))) (fun _ _ i _ => s.size + 1 - (intOf i).toNat)
  case atStart => exact ⟨0, 0, [], by omega, rfl, rfl, Lib.hid (by simp), Lib.hid (.inl ⟨by omega, by omega, by simp, by simp [partsB], by simp⟩), Lib.hid ⟨Below.refl _ _, OwnV.nil _ _⟩⟩
  case round =>
    obtain ⟨k, fr, done, hk, rfl, rfl, HD, HS, I⟩ := hrel
    by_cases hle : k ≤ s.size
    · have hsp : SpI b s fr k done := by
        rcases HS.out with h | h
        · exact h.2
        · omega
      have hfr : fr ≤ k := hsp.1
      have hle' : (k : Int) ≤ (s.size : Int) := by omega
      have hdl := HD.out
      by_cases hlt : k < s.size
      · have c1 : ((k : Int) == (s.size : Int)) = false := by rw [beq_eq_false_iff_ne]; omega
        by_cases hc : s[k] = b
        · have c2 : ((s[k].toNat : Int) == (b.toNat : Int)) = true := by rw [hc]; exact beq_self_eq_true _
          have HN := Lib.hid (hsp.cut hlt hc)
          clear hsp HS hc
          go_wp2_with (at_builtin; refine wpList_append_lit wr (by rfl) (.tmp 25) (.tmp 30) 51 9 (by rfl) w.heap.size i0 _ 16 Tryd.underlying51 Hi0.out Hz0.out Hz1.out Hz2.out rfl _ (done.map Value.string) (by rfl) I.out.2 [Value.string (s.extract fr k)] 1 rfl (by rfl) (strs_one [s.extract fr k]) _ (by rfl) (by rw [List.length_map]; omega) (by omega) I.out.1.size ?_; intro v' w5 ho hb5 hg5; have I5 := Lib.hid (And.intro (I.out.1.trans (((Below.refl _ wr).alloc I.out.1.size _).trans hb5)) ho); clear ho hb5 hg5)
          go_roundw
          case rel => exact ⟨k + 1, k + 1, done ++ [s.extract fr k], by omega, by go_num, by go_num, Lib.hid (by simp; omega), Lib.hid (.inl ⟨by omega, HN.out⟩), Lib.hid ⟨I5.out.1, by rw [List.map_append]; exact I5.out.2⟩⟩
          case measure => simp [intOf]; omega
        · have c2 : ((s[k].toNat : Int) == (b.toNat : Int)) = false := by
            rw [beq_eq_false_iff_ne]
            intro e
            exact hc (UInt8.toNat_inj.1 (by omega))
          have HN := Lib.hid (hsp.next hlt hc)
          clear hsp HS hc
          go_wp2_with fail
          go_roundw
          case rel => exact ⟨k + 1, fr, done, by omega, by go_num, rfl, Lib.hid (by omega), Lib.hid (.inl ⟨by omega, HN.out⟩), I⟩
          case measure => simp [intOf]; omega
      · obtain rfl : k = s.size := by omega
        have HN := Lib.hid (hsp.end_)
        clear hsp HS
        go_wp2_with (at_builtin; refine wpList_append_lit wr (by rfl) (.tmp 25) (.tmp 30) 51 9 (by rfl) w.heap.size i0 _ 16 Tryd.underlying51 Hi0.out Hz0.out Hz1.out Hz2.out rfl _ (done.map Value.string) (by rfl) I.out.2 [Value.string (s.extract fr s.size)] 1 rfl (by rfl) (strs_one [s.extract fr s.size]) _ (by rfl) (by rw [List.length_map]; omega) (by omega) I.out.1.size ?_; intro v' w5 ho hb5 hg5; have I5 := Lib.hid (And.intro (I.out.1.trans (((Below.refl _ wr).alloc I.out.1.size _).trans hb5)) ho); clear ho hb5 hg5)
        go_roundw
        case rel => exact ⟨s.size + 1, s.size + 1, done ++ [s.extract fr s.size], by omega, by go_num, by go_num, Lib.hid (by simp; omega), Lib.hid (.inr ⟨rfl, HN.out⟩), Lib.hid ⟨I5.out.1, by rw [List.map_append]; exact I5.out.2⟩⟩
        case measure => simp [intOf]
    · obtain rfl : k = s.size + 1 := by omega
      have HP := Lib.hid (show partsB b s = done by
        rcases HS.out with h | h
        · omega
        · exact h.2)
      clear HS
      go_wp2_with fail
      go_ret
      exact ⟨_, rfl, by rw [HP.out]; exact I.out.2, I.out.1⟩

/-! ### four -/
theorem byteOf_num (x : ByteArray) : byteOf x = match numL x.data.toList 255 with | some n => some (UInt8.ofNat n) | none => none := by
  rw [num_unum _ 255 (by omega), mkB_of, byteOf]
  cases unum x with
  | none => rfl
  | some n =>
    by_cases h : n ≤ 255
    · simp [h]
    · simp [h]
theorem f4L_all {ps : List ByteArray} {done : List UInt8} (h4 : ps.length = 4) (h : ps.map byteOf = done.map some) : f4L ps = some done := by
  obtain ⟨x0, x1, x2, x3, rfl⟩ := len4 h4
  match done, h with
  | [b0, b1, b2, b3], h =>
    simp only [List.map_cons, List.map_nil, List.cons.injEq] at h
    simp only [f4L, h.1, h.2.1, h.2.2.1, h.2.2.2.1]
  | [], h => simp at h
  | [_], h => simp at h
  | [_, _], h => simp at h
  | [_, _, _], h => simp at h
  | _ :: _ :: _ :: _ :: _ :: _, h => simp at h
theorem f4L_bad {ps : List ByteArray} {k : Nat} (h4 : ps.length = 4) (hk : k < ps.length) (h : byteOf ps[k] = none) : f4L ps = none := by
  obtain ⟨x0, x1, x2, x3, rfl⟩ := len4 h4
  match k, hk, h with
  | 0, _, h => simp only [List.getElem_cons_zero] at h; simp only [f4L, h]
  | 1, _, h => simp only [List.getElem_cons_succ, List.getElem_cons_zero] at h; simp only [f4L, h]; cases byteOf x0 <;> rfl
  | 2, _, h => simp only [List.getElem_cons_succ, List.getElem_cons_zero] at h; simp only [f4L, h]; cases byteOf x0 <;> cases byteOf x1 <;> rfl
  | 3, _, h => simp only [List.getElem_cons_succ, List.getElem_cons_zero] at h; simp only [f4L, h]; cases byteOf x0 <;> cases byteOf x1 <;> cases byteOf x2 <;> rfl
  | k + 4, hk, _ => simp at hk; omega

theorem info_u8p : (Tryd.prog.info? 5).map (fun i => (i.zero, i.size, i.bytes)) = some (some (.int .u8 0), 1, 1) := by kernel_rfl
/-- What the reference's four returns. -/
def RFour (s : ByteArray) (base : Nat) (e : Ending) (w' : World) : Prop := ∃ v, e = .returned v ∧ OwnV 5 w' base v (bv ((f4 s).getD [])) ∧ (f4 s = none → v = .slice none 0 0)

set_option maxRecDepth 100000 in
set_option maxHeartbeats 8000000 in
theorem rfour_any (s : ByteArray) (hs : s.size < 4294967281) (w : World) :
    Calls Tryd.prog 31 #[.string s] w fun e w' => RFour s w.heap.size e w' ∧ Below w.heap.size w w' := by
  obtain ⟨i0, hi0, hz0, hz1, hz2⟩ := info_parts info_u8p
  have Hi0 := Lib.hid hi0
  have Hz0 := Lib.hid hz0
  have Hz1 := Lib.hid hz1
  have Hz2 := Lib.hid hz2
  clear hi0 hz0 hz1 hz2
  have HSp := Lib.hid (fun W => rsplit_any 46 s hs W)
  have HF := Lib.hid (show f4 s = f4L (partsB 46 s) from rfl)
  have HPs := Lib.hid (show ∀ x ∈ partsB 46 s, x.size < 4294967281 from fun x hx => by
    have := parts_size 46 s x hx
    omega)
  have hpl := parts_len 46 s
  have hpc := parts_count 46 s
  go_enter Tryd.func31, Tryd.ntmps31
  go_wp2_with fail
  refine (HSp.out _).mono ?_
  rintro e w2 ⟨v, rfl, ho, b⟩
  obtain ⟨g, c, rfl, hgb⟩ := own_at ho (n := (partsB 46 s).length) (by simp) (by omega)
  have HC := Lib.hid (fun (k : Nat) (hk : k < (partsB 46 s).length) => ho.cellAt k hk)
  have hcc : (partsB 46 s).length ≤ c ∧ c ≤ 9223372036854775807 := ⟨ho.rdv.2.1, ho.rdv.2.2.1⟩
  have B2 := Lib.hid b
  clear b ho HSp
  have hp1 : 1 ≤ (partsB 46 s).length := by omega
  generalize partsB 46 s = ps at *
  clear hpc
  by_cases h4 : ps.length = 4
  · have HN4 := Lib.hid h4
    rw [h4]
    clear h4 hpl hcc hp1
    go_wp2_with fail
    go_loopw [4, 5] (fun v i wr => ∃ (k : Nat) (done : List UInt8), k ≤ 4 ∧ i = .int .i64 k ∧ Hid ((ps.take k).map byteOf = done.map some) ∧ Hid (Below w2.heap.size w2 wr ∧ OwnV 5 wr w2.heap.size v (bv done))) (fun _ i _ => 4 - (intOf i).toNat)
    case atStart => exact ⟨0, [], by omega, rfl, Lib.hid rfl, Lib.hid ⟨Below.refl _ _, OwnV.nil _ _⟩⟩
    case round =>
      obtain ⟨k, done, hk, rfl, H, I⟩ := hrel
      have hdl : done.length = k := by
        have := congrArg List.length H.out
        have h4 := HN4.out
        rw [List.length_map, List.length_map, List.length_take] at this
        omega
      by_cases hlt : k < 4
      · have hltp : k < ps.length := by have h4 := HN4.out; omega
        have q : wr.cell? ⟨g, k, none⟩ = some (.string ps[k]) := by
          have e := HC.out k hltp
          rw [List.getElem?_map, List.getElem?_eq_getElem hltp] at e
          exact cell_later I.out.1 e
        have HNu := Lib.hid (fun W => number_any ps[k] 255 (by omega) (HPs.out _ (List.getElem_mem _)) W)
        have HBy := Lib.hid (byteOf_num ps[k])
        have HNext := Lib.hid (fun (c : UInt8) (h : byteOf ps[k] = some c) => show (ps.take (k + 1)).map byteOf = (done ++ [c]).map some by
          rw [List.take_add_one, List.getElem?_eq_getElem hltp, List.map_append, H.out]
          simp [h])
        have HBad := Lib.hid (fun (h : byteOf ps[k] = none) => f4L_bad HN4.out hltp h)
        generalize ps[k] = x at *
        go_wp2_with fail
        refine (HNu.out _).mono ?_
        rintro e w3 ⟨rfl, hw3⟩
        obtain rfl := hw3.symm
        clear HNu
        cases hn : numL x.data.toList 255 with
        | none =>
          have hby : byteOf x = none := by rw [HBy.out, hn]
          have HR := Lib.hid (show f4 s = none by rw [HF.out]; exact HBad.out hby)
          rw [show numV none = .int .i64 (-1) from rfl]
          clear hn hby HBy HNext HBad
          go_wp2_with fail
          go_ret
          exact ⟨⟨_, rfl, by rw [HR.out]; exact OwnV.nil _ _, fun _ => rfl⟩, B2.out.trans (I.out.1.mono B2.out.size)⟩
        | some n =>
          have hnl : n ≤ 255 := by
            have h1 := hn
            rw [num_unum _ 255 (by omega)] at h1
            split at h1
            · split at h1
              · injection h1 with h1; omega
              · cases h1
            · cases h1
          have hby : byteOf x = some (UInt8.ofNat n) := by rw [HBy.out, hn]
          have HN := Lib.hid (HNext.out _ hby)
          rw [show numV (some n) = .int .i64 (n : Int) from rfl]
          clear hn hby HBy HNext HBad
          have hw : IntKind.u8.wrap (n : Int) = ((UInt8.ofNat n).toNat : Int) := by
            rw [UInt8.toNat_ofNat']
            simp [IntKind.wrap, IntKind.bits, IntKind.signed]
          generalize UInt8.ofNat n = cb at *
          go_wp2_with (at_builtin; refine wpList_append_lit wr (by rfl) (.tmp 27) (.tmp 30) 33 5 (by rfl) w2.heap.size i0 _ 1 Tryd.underlying33 Hi0.out Hz0.out Hz1.out Hz2.out rfl _ (bv done) (by rfl) I.out.2 (bv [cb]) 1 rfl (by rfl) (bv_one _) _ (by rfl) (by rw [bv_length]; omega) (by omega) I.out.1.size ?_; intro v' w5 ho hb5 hg5; have I5 := Lib.hid (And.intro (I.out.1.trans (((Below.refl _ wr).alloc I.out.1.size _).trans hb5)) ho); clear ho hb5 hg5)
          go_roundw
          case rel => exact ⟨k + 1, done ++ [cb], by omega, by go_num, HN, Lib.hid ⟨I5.out.1, by rw [bv_append]; exact I5.out.2⟩⟩
          case measure => simp [intOf]; omega
      · obtain rfl : k = 4 := by omega
        have HR := Lib.hid (show f4 s = some done by
          rw [HF.out]
          have := H.out
          rw [List.take_of_length_le (by rw [HN4.out]; exact Nat.le_refl _)] at this
          exact f4L_all HN4.out this)
        go_wp2_with fail
        go_ret
        exact ⟨⟨_, rfl, by rw [HR.out]; exact I.out.2.mono B2.out.size, fun h => by rw [HR.out] at h; cases h⟩, B2.out.trans (I.out.1.mono B2.out.size)⟩

  · have HN4 := Lib.hid h4
    clear h4
    obtain ⟨N, hN⟩ : ∃ N, N = ps.length := ⟨_, rfl⟩
    rw [← hN] at hp1 hpl hcc ⊢
    have HNN := Lib.hid hN
    rw [← hN] at HN4
    have HN4' := Lib.hid (show ps.length ≠ 4 by rw [← hN]; exact HN4.out)
    clear hN
    have HR := Lib.hid (show f4 s = none by rw [HF.out]; exact f4L_no HN4'.out)
    have c4 : ((N : Int) == 4) = false := by rw [beq_eq_false_iff_ne]; have h4 := HN4.out; omega
    have c5 : ((N : Int) != 4) = true := by rw [bne, c4]; rfl
    have c6 : decide ((N : Int) = 4) = false := by rw [decide_eq_false_iff_not]; have h4 := HN4.out; omega
    have c7 : ¬ N = 4 := HN4.out
    go_wp2_with fail
    go_loopw [4, 5] (fun v i wr => i = .int .i64 0 ∧ wr = w2) (fun _ i _ => N - (intOf i).toNat)
    case atStart => exact ⟨rfl, rfl⟩
    case round =>
      obtain ⟨rfl, rfl⟩ := hrel
      have hltp : 0 < ps.length := by have := HNN.out; omega
      have q : wr.cell? ⟨g, 0, none⟩ = some (.string ps[0]) := by
        have e := HC.out 0 hltp
        rw [List.getElem?_map, List.getElem?_eq_getElem hltp] at e
        exact e
      have hN0 : (0 : Int) < (N : Int) := by omega
      have HNu := Lib.hid (fun W => number_any ps[0] 255 (by omega) (HPs.out _ (List.getElem_mem _)) W)
      generalize ps[0] = x at *
      go_wp2_with fail
      refine (HNu.out _).mono ?_
      rintro e w3 ⟨rfl, hw3⟩
      obtain rfl := hw3.symm
      clear HNu
      cases hn : numL x.data.toList 255 with
      | none =>
        rw [show numV none = .int .i64 (-1) from rfl]
        clear hn
        go_wp2_with fail
        go_ret
        exact ⟨⟨_, rfl, by rw [HR.out]; exact OwnV.nil _ _, fun _ => rfl⟩, B2.out⟩
      | some n =>
        rw [show numV (some n) = .int .i64 (n : Int) from rfl]
        clear hn
        go_wp2_with fail
        go_ret
        exact ⟨⟨_, rfl, by rw [HR.out]; exact OwnV.nil _ _, fun _ => rfl⟩, B2.out⟩

end Go.Proofs.YtgdnckglfhabnaaDoor
