/- text.digit, text.Unhex. -/
import Derived.Test.YtonafonhadocgaaDoorQG
import Derived.Test.YtonafonhadocgaaDoorFlUnhexP
import Derived.Laws.RangeAny
import Derived.Lib.OthersKept
namespace Go.Proofs.YtonafonhadocgaaDoor
open Go.RowKit Go.Shelf

set_option maxRecDepth 100000 in
theorem digit_any (c : Nat) (hc : c ≤ 2147483647) (w : World) :
    Calls Tryd.prog 38 #[.int .i32 (c : Int)] w fun e w' => e = .returned (.tuple #[.int .i64 (dgN c : Int), .bool (dgB c)]) ∧ w' = w := by
  by_cases h1 : c < 48
  · have e1 : dgB c = false := by unfold dgB; simp; omega
    have e2 : dgN c = 0 := by unfold dgN; rw [e1]; rfl
    rw [e1, e2]
    go_enter Tryd.func38, Tryd.ntmps38
    go_wp2_with fail
    go_ret2
    exact ⟨rfl, rfl⟩
  by_cases h2 : c ≤ 57
  · have e1 : dgB c = true := by unfold dgB; simp; omega
    have e2 : dgN c = c - 48 := by unfold dgN; rw [e1, if_pos rfl, if_pos h2]
    have e3 : ((c - 48 : Nat) : Int) = (c : Int) - 48 := by omega
    rw [e1, e2, e3]
    go_enter Tryd.func38, Tryd.ntmps38
    go_wp2_with fail
    go_ret2
    exact ⟨rfl, rfl⟩
  by_cases h3 : c < 97
  · have e1 : dgB c = false := by unfold dgB; simp; omega
    have e2 : dgN c = 0 := by unfold dgN; rw [e1]; rfl
    rw [e1, e2]
    go_enter Tryd.func38, Tryd.ntmps38
    go_wp2_with fail
    go_ret2
    exact ⟨rfl, rfl⟩
  by_cases h4 : c ≤ 102
  · have e1 : dgB c = true := by unfold dgB; simp; omega
    have e2 : dgN c = c - 87 := by unfold dgN; rw [e1, if_pos rfl, if_neg h2]
    have e3 : ((c - 87 : Nat) : Int) = (c : Int) - 97 + 10 := by omega
    rw [e1, e2, e3]
    go_enter Tryd.func38, Tryd.ntmps38
    go_wp2_with fail
    go_ret2
    exact ⟨rfl, rfl⟩
  · have e1 : dgB c = false := by unfold dgB; simp; omega
    have e2 : dgN c = 0 := by unfold dgN; rw [e1]; rfl
    rw [e1, e2]
    go_enter Tryd.func38, Tryd.ntmps38
    go_wp2_with fail
    go_ret2
    exact ⟨rfl, rfl⟩

theorem Own.grown {w w' : World} {base : Nat} {v : Value} {l : List UInt8} (h : Own w base v l) {row : Option Nat} (hg : w.grownBy w' row) (hr : ∀ g, v.ownBlock = some g → some g ≠ row) : Own w' base v l := by
  refine ⟨h.1, ?_⟩
  rcases h.2 with hn | ⟨g, cap, cur, rfl, hb', hgg, rest⟩
  · exact .inl hn
  · exact .inr ⟨g, cap, cur, rfl, hb', by rw [hg.block g (Array.getElem?_eq_some_iff.1 hgg).1 (hr g rfl)]; exact hgg, rest⟩
theorem grown_iterAt (w : World) (k : Nat) (s : ByteArray) (pos : Nat) : w.grownBy (w.iterAt k s pos) (some k) :=
  ⟨rfl, rfl, rfl, by rw [Lib.iterAt_size]; exact Nat.le_refl _, fun j _ hj => Lib.iterAt_other w k j s pos (fun e => hj (by rw [e]))⟩
theorem nib_or : ∀ a b : Fin 16, bits BinOp.or IntKind.i64 ((a.val * 16 : Nat) : Int) (b.val : Int) = ((a.val * 16 + b.val : Nat) : Int) := by decide +kernel
theorem nib_or' {a b : Nat} (ha : a < 16) (hb : b < 16) : bits BinOp.or IntKind.i64 ((a : Int) * 16) (b : Int) = ((a * 16 + b : Nat) : Int) := nib_or ⟨a, ha⟩ ⟨b, hb⟩

set_option maxRecDepth 100000 in
set_option maxHeartbeats 8000000 in
theorem unhex_any (s : ByteArray) (hs : s.size ≤ 4294967281) (w : World) :
    Calls Tryd.prog 26 #[.string s] w fun e w' => Below w.heap.size w w' ∧
      ((unhexL s.data.toList = none ∧ e = .returned (.tuple #[.slice none 0 0, .bool false])) ∨
       ∃ bs A c, unhexL s.data.toList = some bs ∧ e = .returned (.tuple #[.slice A bs.length c, .bool true]) ∧ Rd w' A bs.length c bs) := by
  have hsl : s.data.toList.length = s.size := rfl
  obtain ⟨i0, hi0, hz0, hz1, hz2⟩ := info_parts info_u8
  go_enter Tryd.func26, Tryd.ntmps26
  go_wp2_with fail
  go_loopw [4, 5] (fun v hi wr => ∃ (k h : Nat) (pre : List UInt8) (A : Option Addr) (c : Nat), k ≤ s.size ∧ hi = .int .i64 (h : Int) ∧ v = .slice A (k / 2) c ∧ Hid (UnSt s.data.toList k pre h ∧ Own wr (w.heap.size + 1) (.slice A (k / 2) c) pre ∧ wr.heap[w.heap.size]? = some (.stringIter s k) ∧ Below w.heap.size w wr)) (fun _ _ wr => s.size - wr.iterPos w.heap.size)
  case atStart => exact ⟨0, 0, [], none, 0, Nat.zero_le _, rfl, rfl, Lib.hid ⟨UnSt.start _, Own.nil _ _, World.iter_heap w s 0, (Below.refl _ w).alloc (Nat.le_refl _) _⟩⟩
  case round =>
    obtain ⟨k, h, pre, A, c, hk, rfl, rfl, I⟩ := hrel
    have hit := I.out.2.2.1
    have hsz : w.heap.size < wr.heap.size := (Array.getElem?_eq_some_iff.1 hit).1
    have IS := Lib.hid I.out.1
    have HIO := Lib.hid I.out.2.1
    have IB := Lib.hid I.out.2.2.2
    clear I
    by_cases hp : k < s.size
    · obtain ⟨x, hx⟩ : ∃ x, x = s[k]'hp := ⟨_, rfl⟩
      have HL := Lib.hid (show s.data.toList[k]? = some x by rw [hx, List.getElem?_eq_getElem (by exact hp)]; rfl)
      have hnx : ∀ ty, (Instr.next (.pointer (some ⟨w.heap.size, 0, none⟩)) true ty).run Tryd.prog wr = _ := fun ty => Lib.run_next_any_at wr w.heap.size s k ty hit hp
      by_cases ha : x.toNat < 128
      · have hd := decode_ascii s k hp (by rw [← hx]; exact ha)
        rw [← hx] at hd
        rw [hd] at hnx
        have HIO2 := Lib.hid (HIO.out.grown (grown_iterAt wr w.heap.size s (k + 1)) (fun g hg e => by have := HIO.out.lt g hg; injection e with e; omega))
        have IB2 := Lib.hid (Lib.below_iterAt IB.out (k := w.heap.size) (Nat.le_refl _) s (k + 1))
        have IT2 := Lib.hid (Lib.iterAt_heap wr w.heap.size s k (k + 1) hit)
        have hsz2 : w.heap.size < (wr.iterAt w.heap.size s (k + 1)).heap.size := by rw [Lib.iterAt_size]; exact hsz
        have HIT := Lib.hid hit
        clear hit hd hx hsz HIO IB
        have hpar := Nat.mod_two_eq_zero_or_one k
        go_wp2_with fail
        refine (digit_any x.toNat (by omega) _).mono ?_
        rintro e w2 ⟨rfl, rfl⟩
        cases hg : dgB x.toNat with
        | false =>
          have HN := Lib.hid (IS.out.bad HL.out hg)
          clear hpar
          go_wp2_with fail
          go_ret2
          exact ⟨IB2.out, .inl ⟨HN.out, rfl⟩⟩
        | true =>
          have HD := Lib.hid (loN_dg (c := x) hg)
          rcases hpar with he | ho
          · have hm : (k : Int) % 2 = 0 := by omega
            have HS := Lib.hid (IS.out.even he HL.out hg)
            have HK := Lib.hid (show (k + 1) / 2 = k / 2 by omega)
            clear he hg
            go_wp2_with fail
            go_roundw
            case rel => exact ⟨k + 1, dgN x.toNat, pre, A, c, hp, rfl, by rw [HK.out], Lib.hid ⟨by rw [← HD.out]; exact HS.out, by rw [HK.out]; exact HIO2.out, IT2.out, IB2.out⟩⟩
            case measure =>
              simp only [World.iterPos, IT2.out, HIT.out]
              omega
          · have hm : (k : Int) % 2 = 1 := by omega
            have HS := Lib.hid (IS.out.more ho HL.out hg)
            have HK := Lib.hid (show (k + 1) / 2 = k / 2 + 1 by omega)
            have hor := nib_or' IS.out.hi16 (lo_hxd' (c := x) hg).1
            have hlo := (lo_hxd' (c := x) hg).1
            have hhi := IS.out.hi16
            have HPL := Lib.hid IS.out.len
            have HKS := Lib.hid (show k / 2 + 1 ≤ 140737488355328 by omega)
            rw [HD.out] at hor hlo HS
            clear ho hg IS HD
            go_wp2_with (at_builtin; refine wpList_append_rd _ rfl (.tmp 27) (.tmp 33) 57 rfl (w.heap.size + 1) i0 _ Tryd.underlying57 hi0 hz0 hz1 hz2 rfl _ pre rfl (HIO2.out.alloc _) _ _ _ [UInt8.ofNat (h * 16 + dgN x.toNat)] rfl (lit_rd _ [UInt8.ofNat (h * 16 + dgN x.toNat)] _ 1 (by simp [bv]; omega) rfl (by omega)) (by rw [HPL.out]; exact HKS.out) (by rw [World.size_alloc]; omega) (k / 2 + 1) (by rw [HPL.out]) ?_; intro A1 c1 w1 ho hb hg hat; have HX := Lib.hid (And.intro ho hb); clear ho hb hg hat)
            have HB1 := Lib.hid (((IB2.out.alloc (by omega) (.cells #[.int .u8 ((h : Int) * 16 + (dgN x.toNat : Int))] 5)).trans (HX.out.2.mono (Nat.le_succ _))))
            have HT1 := Lib.hid (((HX.out.2.block w.heap.size (Nat.lt_succ_self _)).trans (Below.heap_alloc _ _ _ hsz2)).trans IT2.out)
            go_roundw
            case rel => exact ⟨k + 1, h, pre ++ [UInt8.ofNat (h * 16 + dgN x.toNat)], A1, c1, hp, rfl, by rw [HK.out], Lib.hid ⟨HS.out, by rw [HK.out]; exact HX.out.1, HT1.out, HB1.out⟩⟩
            case measure =>
              simp only [World.iterPos, HT1.out, HIT.out]
              omega
      · have hhi := Go.decode_high s k hp (by rw [← hx]; omega)
        have hle := decode_le s k
        have IB2 := Lib.hid (Lib.below_iterAt IB.out (k := w.heap.size) (Nat.le_refl _) s (k + (Utf8.decode s k).2))
        obtain ⟨r, hr⟩ : ∃ r, r = (Utf8.decode s k).1 := ⟨_, rfl⟩
        rw [← hr] at hnx hhi hle
        have hz : dgB r = false := by
          unfold dgB
          simp
          omega
        have HN := Lib.hid (IS.out.bad HL.out (show isLo x = false by rw [isLo_dg]; unfold dgB; simp; omega))
        generalize wr.iterAt w.heap.size s (k + (Utf8.decode s k).2) = W2 at *
        clear hit hx hsz HIO IB hr hhi ha
        go_wp2_with fail
        refine (digit_any r hle _).mono ?_
        rintro e w2 ⟨rfl, rfl⟩
        rw [hz]
        go_wp2_with fail
        go_ret2
        exact ⟨IB2.out, .inl ⟨HN.out, rfl⟩⟩
    · have hnx : ∀ ty, (Instr.next (.pointer (some ⟨w.heap.size, 0, none⟩)) true ty).run Tryd.prog wr = _ := fun ty => Lib.run_next_end_at wr w.heap.size s k ty hit hp
      obtain rfl : k = s.size := by omega
      rcases Nat.mod_two_eq_zero_or_one s.size with he | ho
      · have hm : (s.size : Int) % 2 = 0 := by omega
        have HN := Lib.hid (IS.out.done he (by omega))
        have HP := Lib.hid IS.out.len
        clear he
        go_wp2_with fail
        go_ret2
        exact ⟨IB.out, .inr ⟨pre, A, c, HN.out, by rw [HP.out]; rfl, by rw [HP.out]; exact HIO.out.rd⟩⟩
      · have hm : (s.size : Int) % 2 = 1 := by omega
        have HN := Lib.hid (IS.out.half ho hsl)
        clear ho
        go_wp2_with fail
        go_ret2
        exact ⟨IB.out, .inl ⟨HN.out, rfl⟩⟩
end Go.Proofs.YtonafonhadocgaaDoor
