/- flow.Of: the keys of one flow, with their places; the loop over them may be left. -/
import Derived.Test.YtonafonhadocgaaDoorQL
import Derived.Test.YtonafonhadocgaaDoorRangeS
import Derived.Test.YtonafonhadocgaaDoorFlEq
namespace Go.Proofs.YtonafonhadocgaaDoor
open Go.RowKit Go.Shelf

/-- The pairs that Of hands out. -/
def ofK (ks : List Ky) (f : En × En) : List (Nat × Ky) := (iks ks).filter fun x => decide (x.2.1 = f)
theorem of_split {ks : List Ky} {f : En × En} {i : Nat} {k : Ky} (h : ks[i]? = some k) (hf : k.1 = f) : ofK ks f = ((iks ks).take i).filter (fun x => decide (x.2.1 = f)) ++ (i, k) :: ((iks ks).drop (i + 1)).filter fun x => decide (x.2.1 = f) := by
  have hd : (fun x : Nat × Ky => decide (x.2.1 = f)) (i, k) = true := decide_eq_true hf
  unfold ofK
  rw [iks_split h, List.filter_append, List.filter_cons_of_pos (p := fun x : Nat × Ky => decide (x.2.1 = f)) hd, ← iks_split h]
theorem of_next {ks : List Ky} {f : En × En} {i : Nat} {k : Ky} (h : ks[i]? = some k) : ((iks ks).take (i + 1)).filter (fun x => decide (x.2.1 = f)) = ((iks ks).take i).filter (fun x => decide (x.2.1 = f)) ++ if k.1 = f then [(i, k)] else [] := by
  rw [iks_next h, List.filter_append]
  by_cases hf : k.1 = f
  · have hd : (fun x : Nat × Ky => decide (x.2.1 = f)) (i, k) = true := decide_eq_true hf
    rw [if_pos hf, List.filter_cons_of_pos (p := fun x : Nat × Ky => decide (x.2.1 = f)) hd]
    rfl
  · have hd : ¬ (fun x : Nat × Ky => decide (x.2.1 = f)) (i, k) = true := by simp [hf]
    rw [if_neg hf, List.filter_cons_of_neg (p := fun x : Nat × Ky => decide (x.2.1 = f)) hd]
    rfl

set_option maxRecDepth 100000 in
set_option maxHeartbeats 4000000 in
theorem of_seq (bs bf : Nat) (A : Option Addr) (n c : Nat) (ks : List Ky) (f : En × En) (W : World) (hs : Blk W bs 42 #[.slice A n c]) (hf : Blk W bf 29 (flC f.1 f.2)) (hlen : ks.length = n) (hok : ∀ k ∈ ks, KyOk k) (hfo : FlOk f) (hn : n ≤ 1099511627776) :
    SeqXS Tryd.prog 24 #[.pointer (some ⟨bs, 0, none⟩), .pointer (some ⟨bf, 0, none⟩)] (fun x : Nat × Ky => #[.int .i64 (x.1 : Int), .int .u64 (x.2.2 : Int)]) (ofK ks f) (fun r => r = bs ∨ r = bf) (fun W' => RdK W' A n c ks) W := by
  intro l J Jx hJ hJx hRR hY h0
  refine callsIn_of_wp Tryd.func24 rfl trivial ?_ rfl
  simp only [Tryd.ntmps24, List.size_toArray, List.length_cons, List.length_nil, Nat.reduceAdd, Nat.reduceSub, Array.replicate_succ, Array.replicate_zero, List.push_toArray, List.append_toArray, List.nil_append, List.cons_append]
  have q0 := hs.cell 0
  simp at q0
  have HS := Lib.hid hs
  have HF := Lib.hid hf
  have HOK := Lib.hid hok
  have HFO := Lib.hid hfo
  have HL := hlen
  obtain ⟨F2, hF2⟩ : ∃ F2, F2 = flC f.1 f.2 := ⟨_, rfl⟩
  have HIF := Lib.hid (show (Tryd.prog.info? 29).map (·.size) = some F2.toList.length by rw [hF2, Array.length_toList, flC_size _ _ hfo.la hfo.lb]; exact flSize)
  rw [← hF2] at HF
  have HF2 := Lib.hid hF2
  clear hs hf hok hlen hfo hF2
  gi_wp2_with fail
  gi_loopw [8] (fun v wr => ∃ k : Nat, k ≤ n ∧ v = .int .i64 k ∧ Hid (J (((iks ks).take k).filter fun x => decide (x.2.1 = f)) wr ∧ Blk wr bs 42 #[.slice A n c] ∧ Blk wr bf 29 F2)) (fun i _ => n - (intOf i).toNat)
  case atStart => exact ⟨0, by omega, rfl, Lib.hid ⟨h0, HS.out, HF.out⟩⟩
  case round =>
    clear q0
    obtain ⟨k, hk, rfl, I⟩ := hrel
    by_cases hlt : k < n
    · obtain ⟨x, hx⟩ : ∃ x, ks[k]? = some x := ⟨ks[k]'(by omega), List.getElem?_eq_getElem (by omega)⟩
      have hxo := HOK.out x (List.mem_of_getElem? hx)
      obtain ⟨b, off, hA, hbl, hrow⟩ := (hRR _ _ I.out.1).2.2 (by omega)
      subst hA
      have HRW := Lib.hid (hrow k x hx)
      have HXI := Lib.hid (show (Tryd.prog.info? 32).map (·.size) = some (kyC x).toList.length by rw [kySize, Array.length_toList, kyC_size hxo])
      clear hrow
      have HSZ := Lib.hid (show (Tryd.prog.info? 32).map (·.size) = some (kyC x).size by rw [kySize, kyC_size hxo])
      have HEQ := Lib.hid (show (kyC zK).size = (kyC x).size by rw [kyC_size hxo]; rfl)
      obtain ⟨F1, hF1⟩ : ∃ F1, F1 = flC x.1.1 x.1.2 := ⟨_, rfl⟩
      have HI1 := Lib.hid (show (Tryd.prog.info? 29).map (·.size) = some F1.toList.length by rw [hF1, Array.length_toList, flC_size _ _ hxo.la hxo.lb]; exact flSize)
      have hq : ∀ W, (Op.equalIn 10000 29 (.agg F1) (.agg F2)).run Tryd.prog W = .ok (decide (x.1 = f)) W := fun W => by rw [hF1, HF2.out]; exact eq_flow x.1 f hxo.la hxo.lb HFO.out.la HFO.out.lb W
      have HKL := Lib.hid (show (kyC x).toList = F1.toList ++ [Value.int .u64 (x.2 : Int)] by rw [hF1]; rfl)
      have HF1L := Lib.hid (show F1.toList.length = 36 by rw [hF1, Array.length_toList, flC_size _ _ hxo.la hxo.lb])
      have HXL := Lib.hid hx
      have hbs := I.out.2.1.lt
      have hbf := I.out.2.2.lt
      clear hx hxo hF1
      by_cases hxf : x.1 = f
      · have HSP := Lib.hid (of_split HXL.out hxf)
        have HNX := Lib.hid (of_next (f := f) HXL.out)
        rw [if_pos hxf] at HNX
        rw [decide_eq_true hxf] at hq
        clear hxf
        gi_wp2_with (first
        | ((with_reducible refine at_loadIn 32 (.tmp 11) ?_); refine wpListIn_load_rng 32 (.tmp 11) b (off + k * 37) (kyC x).toList _ HRW.out (by rfl) (by rfl) Tryd.underlying32 rfl HXI.out (by rfl) ?_)
        | ((with_reducible refine at_storeIn 32 (.tmp 5) (.tmp 12) ?_); refine wpListIn_store_blk 32 (.tmp 5) (.tmp 12) wr.heap.size 32 (kyC zK) (kyC x) (Blk.new wr 32 (kyC zK)) (by rfl) (by rfl) (by rfl) (by rfl) HSZ.out HEQ.out (kyC_one x) (by rfl) ?_; intro w2 hk2 hg2 hz2; have K4 := Lib.hid (show w2.rangeAt wr.heap.size 0 F1.toList from fun i v hv => hk2.whole i v (by rw [HKL.out, List.getElem?_append_left (List.getElem?_eq_some_iff.1 hv).1]; exact hv)); have q36 : w2.cell? ⟨wr.heap.size, 36, none⟩ = some (.int .u64 (x.2 : Int)) := (by have := hk2.whole 36 (.int .u64 (x.2 : Int)) (by rw [HKL.out, List.getElem?_append_right (by rw [HF1L.out]; omega), HF1L.out]; rfl); simpa using this); have HK2 := Lib.hid (And.intro ((grown_fresh hg2).block bs hbs (by simp)) ((grown_fresh hg2).block bf hbf (by simp))); have HFR := Lib.hid (show w2.rangeAt bf 0 F2.toList from fun i v hv => (Blk.whole (show Blk w2 bf 29 F2 from HK2.out.2.trans I.out.2.2)) i v hv); obtain ⟨fn, tmps, assign, body, hy, hR⟩ := hY _ (k, x) _ w2 HSP.out (hJ _ _ _ none I.out.1 (grown_fresh hg2) (fun r e => by cases e)) (fun r hr => by have hs2 := hz2; rw [World.size_alloc] at hs2; rcases hr with rfl | rfl <;> omega); clear hk2 hg2 hz2)
        | ((with_reducible refine at_loadIn 29 (.tmp 13) ?_); refine wpListIn_load_rng 29 (.tmp 13) wr.heap.size 0 F1.toList _ K4.out (by rfl) (by rfl) Tryd.underlying29 rfl HI1.out (by rfl) ?_)
        | ((with_reducible refine at_loadIn 29 (.tmp 2) ?_); refine wpListIn_load_rng 29 (.tmp 2) bf 0 F2.toList _ HFR.out (by rfl) (by rfl) Tryd.underlying29 rfl HIF.out (by rfl) ?_))
        refine ⟨rfl, hR.mono ?_⟩
        rintro e B (⟨rfl, hJ2, hsz, hkp⟩ | ⟨rfl, hJ2⟩)
        · have HJ2 := Lib.hid hJ2
          have HB := Lib.hid (show Blk B bs 42 #[.slice (some ⟨b, off, none⟩) n c] from ((hkp bs (.inl rfl)).trans HK2.out.1).trans I.out.2.1)
          have HB2 := Lib.hid (show Blk B bf 29 F2 from ((hkp bf (.inr rfl)).trans HK2.out.2).trans I.out.2.2)
          clear hJ2 hkp hR hy I HRW HSP K4 hsz hq
          gi_wp2_with fail
          go_roundw
          case rel => exact ⟨k + 1, by omega, by go_num, Lib.hid ⟨by rw [HNX.out]; exact HJ2.out, HB.out, HB2.out⟩⟩
          case measure => simp [intOf]; omega
        · have HJ2 := Lib.hid hJ2
          clear hJ2 hR hy I HRW K4 hq
          gi_wp2_with fail
          refine bodyPost_ret (results_none rfl _ _ _) rfl ?_
          exact ⟨⟨_, rfl⟩, .inr ⟨_, _, by rw [HSP.out, List.append_cons], HJ2.out⟩⟩
      · have HNX := Lib.hid (of_next (f := f) HXL.out)
        rw [if_neg hxf, List.append_nil] at HNX
        rw [decide_eq_false hxf] at hq
        clear hxf
        gi_wp2_with (first
        | ((with_reducible refine at_loadIn 32 (.tmp 11) ?_); refine wpListIn_load_rng 32 (.tmp 11) b (off + k * 37) (kyC x).toList _ HRW.out (by rfl) (by rfl) Tryd.underlying32 rfl HXI.out (by rfl) ?_)
        | ((with_reducible refine at_storeIn 32 (.tmp 5) (.tmp 12) ?_); refine wpListIn_store_blk 32 (.tmp 5) (.tmp 12) wr.heap.size 32 (kyC zK) (kyC x) (Blk.new wr 32 (kyC zK)) (by rfl) (by rfl) (by rfl) (by rfl) HSZ.out HEQ.out (kyC_one x) (by rfl) ?_; intro w2 hk2 hg2 hz2; have K4 := Lib.hid (show w2.rangeAt wr.heap.size 0 F1.toList from fun i v hv => hk2.whole i v (by rw [HKL.out, List.getElem?_append_left (List.getElem?_eq_some_iff.1 hv).1]; exact hv)); have q36 : w2.cell? ⟨wr.heap.size, 36, none⟩ = some (.int .u64 (x.2 : Int)) := (by have := hk2.whole 36 (.int .u64 (x.2 : Int)) (by rw [HKL.out, List.getElem?_append_right (by rw [HF1L.out]; omega), HF1L.out]; rfl); simpa using this); have HK2 := Lib.hid (And.intro ((grown_fresh hg2).block bs hbs (by simp)) ((grown_fresh hg2).block bf hbf (by simp))); have HFR := Lib.hid (show w2.rangeAt bf 0 F2.toList from fun i v hv => (Blk.whole (show Blk w2 bf 29 F2 from HK2.out.2.trans I.out.2.2)) i v hv); have HJ2 := Lib.hid (hJ _ _ _ none I.out.1 (grown_fresh hg2) (fun r e => by cases e)); have HB := Lib.hid (show Blk w2 bs 42 #[.slice (some ⟨b, off, none⟩) n c] from HK2.out.1.trans I.out.2.1); have HB2 := Lib.hid (show Blk w2 bf 29 F2 from HK2.out.2.trans I.out.2.2); clear hk2 hg2 hz2)
        | ((with_reducible refine at_loadIn 29 (.tmp 13) ?_); refine wpListIn_load_rng 29 (.tmp 13) wr.heap.size 0 F1.toList _ K4.out (by rfl) (by rfl) Tryd.underlying29 rfl HI1.out (by rfl) ?_)
        | ((with_reducible refine at_loadIn 29 (.tmp 2) ?_); refine wpListIn_load_rng 29 (.tmp 2) bf 0 F2.toList _ HFR.out (by rfl) (by rfl) Tryd.underlying29 rfl HIF.out (by rfl) ?_))
        refine ⟨fun f h => (by cases h), ?_⟩
        gi_wp2_with fail
        go_roundw
        case rel => exact ⟨k + 1, by omega, by go_num, Lib.hid ⟨by rw [HNX.out]; exact HJ2.out, HB.out, HB2.out⟩⟩
        case measure => simp [intOf]; omega
    · obtain rfl : k = n := by omega
      have HJ := Lib.hid (show J (ofK ks f) wr by
        have h := I.out.1
        rwa [List.take_of_length_le (by rw [iks_len]; omega)] at h)
      clear I
      gi_wp2_with fail
      go_end0
      exact ⟨⟨_, rfl⟩, .inl HJ.out⟩

theorem of_make (A : Option Addr) (n c : Nat) (F : Array Value) (w : World) :
    Calls Tryd.prog 15 #[.slice A n c, .agg F] w fun e w' => e = .returned (.func (.func 24) #[] #[.pointer (some ⟨w.heap.size, 0, none⟩), .pointer (some ⟨w.heap.size + 1, 0, none⟩)]) ∧ (w.alloc (.cells #[.slice A n c] 42)).alloc (.cells F 29) = w' := by
  go_enter Tryd.func15, Tryd.ntmps15
  go_wp2
  go_ret
  exact ⟨rfl, rfl⟩
end Go.Proofs.YtonafonhadocgaaDoor
