/- Laws and walks that the claim's last text leans on, joined: each part says above itself what it proves. -/
import Derived.Test.YtonafonhadocgaaDoorQM
import Derived.Deep.LoopGhost
import Derived.Test.YtonafonhadocgaaDoorQJ

/- The reference's Print of an IPv6 address. -/
namespace Go.Proofs.YtonafonhadocgaaDoor
open Go.RowKit Go.Shelf

theorem zrun_at (gs : List Nat) (k : Nat) (h : k < gs.length) : zrun (gs.drop k) = if gs[k] = 0 then zrun (gs.drop (k + 1)) + 1 else 0 := by
  rw [List.drop_eq_getElem_cons h, zrun]

theorem last_index (s : ByteArray) (t : List UInt8) (c : UInt8) (h : s.data.toList = t ++ [c]) (W : World) :
    (Instr.index 9 (.string s) (.int .i64 ((s.size : Int) - 1))).run Tryd.prog W = .ok (.int .u8 (c.toNat : Int)) W := by
  have hs : s.size = t.length + 1 := by
    show s.data.toList.length = _
    rw [h]; simp
  rw [run_index_string W _ _ _ _ Tryd.underlying9, dif_pos ⟨by omega, by omega⟩]
  have e : ∀ (j : Nat) (hj : j < s.size), j = t.length → s[j]'hj = c := fun j hj e => by
    subst e
    have : s[t.length]'hj = s.data.toList[t.length]'hj := rfl
    rw [this]
    simp only [h]
    simp
  rw [e _ _ (by omega)]

set_option maxRecDepth 100000 in
set_option maxHeartbeats 16000000 in
theorem rprint_six (l : List UInt8) (hl : l.length = 16) (w : World) :
    Calls Tryd.prog 33 #[.agg (adC true l)] w fun e w' => e = .returned (.string ⟨(printT true l).toArray⟩) ∧ Below w.heap.size w w' := by
  have HEnd := Lib.hid (rpT_end l hl)
  have hul := unflat_len l 8 hl
  have hult := unflat_lt l
  have HG := Lib.hid (fun (i : Nat) (h : i < 8) W => group_at true l i hl h W)
  have B := Lib.hid ((Below.refl _ w).alloc (Nat.le_refl _) (.cells (adC true l) 24))
  have K := Lib.hid (Blk.new w 24 (adC true l))
  have hs := Lib.hid (show (Tryd.prog.info? 24).map (·.size) = some (adC true l).size by rw [adC_size _ _ hl]; exact adSize)
  have q0 : (w.alloc (.cells (adC true l) 24)).cell? ⟨w.heap.size, 0, none⟩ = some (.bool true) := by rw [K.out.cell]; rfl
  have HH := Lib.hid (fun (n : Nat) (h : n < 65536) W => digits16 n h W)
  obtain ⟨cs, hcs⟩ : ∃ cs, cs = adC true l := ⟨_, rfl⟩
  rw [← hcs] at B K hs q0 HG ⊢
  generalize printT true l = pt at *
  generalize unflat l = gs at *
  clear hcs hl
  go_enter Tryd.func33, Tryd.ntmps33
  go_wp2_with fail
  have I0 := Lib.hid (And.intro B.out K.out)
  generalize w.alloc (.cells cs 24) = w1 at *
  clear B K q0
  go_loopg [3, 4, 5] 8 (fun g a m i wr => ∃ k : Nat, k + g = 8 ∧ i = .int .i64 k ∧ Hid (a = .int .i64 (rrun gs k).1 ∧ m = .int .i64 (rrun gs k).2) ∧ Hid (Below w.heap.size w wr ∧ Blk wr w.heap.size 24 cs))
  case atStart => exact ⟨0, by omega, rfl, Lib.hid ⟨rfl, rfl⟩, I0⟩
  case round =>
    clear I0
    obtain ⟨k, hkg, rfl, HV, I⟩ := hrel
    obtain ⟨rfl, rfl⟩ := HV.out
    clear HV
    cases gk with
    | zero =>
      obtain rfl : k = 8 := by omega
      have hroom := rrun_room gs hul 8 (by omega)
      generalize rrun gs 8 = r at *
      obtain ⟨ra, rm⟩ := r
      dsimp only at *
      go_wp2_with fail
      go_loopg [7, 8] 8 (fun g s i wr2 => ∃ k : Nat, k + g = 8 ∧ i = .int .i64 k ∧ s = .string ⟨(rpT gs ra rm k).toArray⟩ ∧ Hid (Below w.heap.size w wr2 ∧ Blk wr2 w.heap.size 24 cs))
      case atStart => exact ⟨0, by omega, rfl, by
        rw [show rpT gs ra rm 0 = [] by rw [rpT, if_pos (.inr (by omega)), List.take_zero]; rfl], I⟩
      case round =>
        clear I
        obtain ⟨k, hkg, rfl, rfl, I⟩ := hrel
        have hlen := rpT_len gs hul ra rm k
        cases gk with
        | zero =>
          obtain rfl : k = 8 := by omega
          rw [HEnd.out]
          go_wp2_with fail
          go_ret
          exact ⟨rfl, I.out.1⟩
        | succ g2 =>
          have hk8 : k < 8 := by omega
          have hkl : k < gs.length := by omega
          have HC := Lib.hid (HG.out k hk8)
          rw [List.getElem?_eq_getElem hkl, Option.getD_some] at HC
          have hxk := hult _ (List.getElem_mem hkl)
          have HD := Lib.hid (HH.out (gs[k]'hkl) hxk)
          have hhl := hex_len (gs[k]'hkl)
          by_cases hm : 1 < rm
          · have hm' : (1 : Int) < (rm : Int) := by omega
            rcases Nat.lt_trichotomy k ra with hlt | heq | hgt
            · have hmode : rm ≤ 1 ∨ k < ra ∨ ra + rm ≤ k := .inr (.inl hlt)
              have f1 : ((k : Int) == (ra : Int)) = false := by rw [beq_eq_false_iff_ne]; omega
              have f2 : ¬ (ra : Int) ≤ (k : Int) := by omega
              rcases rpT_step gs hul hult ra rm k hk8 hmode with ⟨e1, e2⟩ | ⟨t, e1, e2⟩ | ⟨t, c, e1, hc, e2⟩
              · rw [e1]
                have HE := Lib.hid e2
                clear e1 e2 hlen
                go_wp2_with (refine wpList_load_blk 24 (.tmp 1) w.heap.size 24 cs _ I.out.2 (by rfl) (by rfl) Tryd.underlying24 rfl hs.out (by rfl) ?_)
                refine (HC.out _).mono ?_
                rintro e w3 ⟨rfl, b⟩
                have I2 := Lib.hid (And.intro (I.out.1.trans (b.mono I.out.1.size)) (I.out.2.keep b))
                clear b I
                go_wp2_with fail
                refine (HD.out _).mono ?_
                rintro e w4 ⟨rfl, b⟩
                have I3 := Lib.hid (And.intro (I2.out.1.trans (b.mono I2.out.1.size)) (I2.out.2.keep b))
                clear b I2
                go_wp2_with fail
                go_roundg g2
                case measure => omega
                case rel => exact ⟨k + 1, by omega, by go_num, by rw [HE.out]; rfl, I3⟩
              · have HE := Lib.hid (show (⟨(rpT gs ra rm k).toArray⟩ : ByteArray) ++ ⟨(hex (gs[k]'hkl)).toArray⟩ = ⟨(rpT gs ra rm (k + 1)).toArray⟩ by rw [ByteArray.mk_append_mk, e2])
                have hsz : (⟨(rpT gs ra rm k).toArray⟩ : ByteArray).size = t.length + 1 := by show (rpT gs ra rm k).length = _; rw [e1]; simp
                have hI := fun W => last_index (⟨(rpT gs ra rm k).toArray⟩ : ByteArray) t 58 e1 W
                have htl : t.length ≤ 81 := by rw [e1] at hlen; simp at hlen; omega
                generalize (⟨(rpT gs ra rm k).toArray⟩ : ByteArray) = s at *
                generalize hex (gs[k]'hkl) = hx at *
                have hs0 : (0 : Int) < (s.size : Int) := by omega
                have hs1 : ¬ 9223372036854775807 < s.size + hx.length := by omega
                have hs2 : ¬ 9223372036854775807 < s.size + 1 := by omega
                have hs3 : ¬ 9223372036854775807 < s.size + 1 + hx.length := by omega
                have hs4 : (s.size : Int) ≤ 1000 := by omega
                clear e1 e2 hlen hsz htl
                go_wp2_with (refine wpList_load_blk 24 (.tmp 1) w.heap.size 24 cs _ I.out.2 (by rfl) (by rfl) Tryd.underlying24 rfl hs.out (by rfl) ?_)
                refine (HC.out _).mono ?_
                rintro e w3 ⟨rfl, b⟩
                have I2 := Lib.hid (And.intro (I.out.1.trans (b.mono I.out.1.size)) (I.out.2.keep b))
                clear b I
                go_wp2_with fail
                refine (HD.out _).mono ?_
                rintro e w4 ⟨rfl, b⟩
                have I3 := Lib.hid (And.intro (I2.out.1.trans (b.mono I2.out.1.size)) (I2.out.2.keep b))
                clear b I2
                go_wp2_with fail
                go_roundg g2
                case measure => omega
                case rel => exact ⟨k + 1, by omega, by go_num, by rw [← HE.out], I3⟩
              · have HE := Lib.hid (show (⟨(rpT gs ra rm k).toArray⟩ : ByteArray) ++ ⟨#[58]⟩ ++ ⟨(hex (gs[k]'hkl)).toArray⟩ = ⟨(rpT gs ra rm (k + 1)).toArray⟩ by rw [show (⟨#[58]⟩ : ByteArray) = ⟨([58] : List UInt8).toArray⟩ from rfl, ByteArray.mk_append_mk, ByteArray.mk_append_mk, e2])
                have hcn : ((c.toNat : Int) == 58) = false := by rw [beq_eq_false_iff_ne]; intro e; exact hc (UInt8.toNat_inj.1 (by show _ = 58; omega))
                have hsz : (⟨(rpT gs ra rm k).toArray⟩ : ByteArray).size = t.length + 1 := by show (rpT gs ra rm k).length = _; rw [e1]; simp
                have hI := fun W => last_index (⟨(rpT gs ra rm k).toArray⟩ : ByteArray) t c e1 W
                have htl : t.length ≤ 81 := by rw [e1] at hlen; simp at hlen; omega
                generalize (⟨(rpT gs ra rm k).toArray⟩ : ByteArray) = s at *
                generalize hex (gs[k]'hkl) = hx at *
                have hs0 : (0 : Int) < (s.size : Int) := by omega
                have hs1 : ¬ 9223372036854775807 < s.size + hx.length := by omega
                have hs2 : ¬ 9223372036854775807 < s.size + 1 := by omega
                have hs3 : ¬ 9223372036854775807 < s.size + 1 + hx.length := by omega
                have hs4 : (s.size : Int) ≤ 1000 := by omega
                clear e1 e2 hlen hsz htl
                go_wp2_with (refine wpList_load_blk 24 (.tmp 1) w.heap.size 24 cs _ I.out.2 (by rfl) (by rfl) Tryd.underlying24 rfl hs.out (by rfl) ?_)
                refine (HC.out _).mono ?_
                rintro e w3 ⟨rfl, b⟩
                have I2 := Lib.hid (And.intro (I.out.1.trans (b.mono I.out.1.size)) (I.out.2.keep b))
                clear b I
                go_wp2_with fail
                refine (HD.out _).mono ?_
                rintro e w4 ⟨rfl, b⟩
                have I3 := Lib.hid (And.intro (I2.out.1.trans (b.mono I2.out.1.size)) (I2.out.2.keep b))
                clear b I2
                go_wp2_with fail
                go_roundg g2
                case measure => omega
                case rel => exact ⟨k + 1, by omega, by go_num, by rw [← HE.out], I3⟩
            · subst heq
              have HE := Lib.hid (show (⟨(rpT gs k rm k).toArray⟩ : ByteArray) ++ ⟨#[58, 58]⟩ = ⟨(rpT gs k rm (k + 1)).toArray⟩ by rw [← rpT_at gs k rm hm, ← ByteArray.mk_append_mk])
              have hsz : (⟨(rpT gs k rm k).toArray⟩ : ByteArray).size ≤ 82 := hlen
              generalize (⟨(rpT gs k rm k).toArray⟩ : ByteArray) = s at *
              have hs2 : ¬ 9223372036854775807 < s.size + 2 := by omega
              have f3 : (k : Int) < (k : Int) + (rm : Int) := by omega
              clear hlen hsz HC HD
              go_wp2_with fail
              go_roundg g2
              case measure => omega
              case rel => exact ⟨k + 1, by omega, by go_num, by rw [← HE.out], I⟩
            · by_cases hin : k < ra + rm
              · have f1 : ((k : Int) == (ra : Int)) = false := by rw [beq_eq_false_iff_ne]; omega
                have f2 : (ra : Int) ≤ (k : Int) := by omega
                have f3 : (k : Int) < (ra : Int) + (rm : Int) := by omega
                have HE := Lib.hid (rpT_in gs ra rm k hm hgt hin)
                clear hlen HC HD
                go_wp2_with fail
                go_roundg g2
                case measure => omega
                case rel => exact ⟨k + 1, by omega, by go_num, by rw [HE.out], I⟩
              · have hmode : rm ≤ 1 ∨ k < ra ∨ ra + rm ≤ k := .inr (.inr (by omega))
                have f1 : ((k : Int) == (ra : Int)) = false := by rw [beq_eq_false_iff_ne]; omega
                have f2 : (ra : Int) ≤ (k : Int) := by omega
                have f3 : ¬ (k : Int) < (ra : Int) + (rm : Int) := by omega
                rcases rpT_step gs hul hult ra rm k hk8 hmode with ⟨e1, e2⟩ | ⟨t, e1, e2⟩ | ⟨t, c, e1, hc, e2⟩
                · rw [e1]
                  have HE := Lib.hid e2
                  clear e1 e2 hlen
                  go_wp2_with (refine wpList_load_blk 24 (.tmp 1) w.heap.size 24 cs _ I.out.2 (by rfl) (by rfl) Tryd.underlying24 rfl hs.out (by rfl) ?_)
                  refine (HC.out _).mono ?_
                  rintro e w3 ⟨rfl, b⟩
                  have I2 := Lib.hid (And.intro (I.out.1.trans (b.mono I.out.1.size)) (I.out.2.keep b))
                  clear b I
                  go_wp2_with fail
                  refine (HD.out _).mono ?_
                  rintro e w4 ⟨rfl, b⟩
                  have I3 := Lib.hid (And.intro (I2.out.1.trans (b.mono I2.out.1.size)) (I2.out.2.keep b))
                  clear b I2
                  go_wp2_with fail
                  go_roundg g2
                  case measure => omega
                  case rel => exact ⟨k + 1, by omega, by go_num, by rw [HE.out]; rfl, I3⟩
                · have HE := Lib.hid (show (⟨(rpT gs ra rm k).toArray⟩ : ByteArray) ++ ⟨(hex (gs[k]'hkl)).toArray⟩ = ⟨(rpT gs ra rm (k + 1)).toArray⟩ by rw [ByteArray.mk_append_mk, e2])
                  have hsz : (⟨(rpT gs ra rm k).toArray⟩ : ByteArray).size = t.length + 1 := by show (rpT gs ra rm k).length = _; rw [e1]; simp
                  have hI := fun W => last_index (⟨(rpT gs ra rm k).toArray⟩ : ByteArray) t 58 e1 W
                  have htl : t.length ≤ 81 := by rw [e1] at hlen; simp at hlen; omega
                  generalize (⟨(rpT gs ra rm k).toArray⟩ : ByteArray) = s at *
                  generalize hex (gs[k]'hkl) = hx at *
                  have hs0 : (0 : Int) < (s.size : Int) := by omega
                  have hs1 : ¬ 9223372036854775807 < s.size + hx.length := by omega
                  have hs2 : ¬ 9223372036854775807 < s.size + 1 := by omega
                  have hs3 : ¬ 9223372036854775807 < s.size + 1 + hx.length := by omega
                  have hs4 : (s.size : Int) ≤ 1000 := by omega
                  clear e1 e2 hlen hsz htl
                  go_wp2_with (refine wpList_load_blk 24 (.tmp 1) w.heap.size 24 cs _ I.out.2 (by rfl) (by rfl) Tryd.underlying24 rfl hs.out (by rfl) ?_)
                  refine (HC.out _).mono ?_
                  rintro e w3 ⟨rfl, b⟩
                  have I2 := Lib.hid (And.intro (I.out.1.trans (b.mono I.out.1.size)) (I.out.2.keep b))
                  clear b I
                  go_wp2_with fail
                  refine (HD.out _).mono ?_
                  rintro e w4 ⟨rfl, b⟩
                  have I3 := Lib.hid (And.intro (I2.out.1.trans (b.mono I2.out.1.size)) (I2.out.2.keep b))
                  clear b I2
                  go_wp2_with fail
                  go_roundg g2
                  case measure => omega
                  case rel => exact ⟨k + 1, by omega, by go_num, by rw [← HE.out], I3⟩
                · have HE := Lib.hid (show (⟨(rpT gs ra rm k).toArray⟩ : ByteArray) ++ ⟨#[58]⟩ ++ ⟨(hex (gs[k]'hkl)).toArray⟩ = ⟨(rpT gs ra rm (k + 1)).toArray⟩ by rw [show (⟨#[58]⟩ : ByteArray) = ⟨([58] : List UInt8).toArray⟩ from rfl, ByteArray.mk_append_mk, ByteArray.mk_append_mk, e2])
                  have hcn : ((c.toNat : Int) == 58) = false := by rw [beq_eq_false_iff_ne]; intro e; exact hc (UInt8.toNat_inj.1 (by show _ = 58; omega))
                  have hsz : (⟨(rpT gs ra rm k).toArray⟩ : ByteArray).size = t.length + 1 := by show (rpT gs ra rm k).length = _; rw [e1]; simp
                  have hI := fun W => last_index (⟨(rpT gs ra rm k).toArray⟩ : ByteArray) t c e1 W
                  have htl : t.length ≤ 81 := by rw [e1] at hlen; simp at hlen; omega
                  generalize (⟨(rpT gs ra rm k).toArray⟩ : ByteArray) = s at *
                  generalize hex (gs[k]'hkl) = hx at *
                  have hs0 : (0 : Int) < (s.size : Int) := by omega
                  have hs1 : ¬ 9223372036854775807 < s.size + hx.length := by omega
                  have hs2 : ¬ 9223372036854775807 < s.size + 1 := by omega
                  have hs3 : ¬ 9223372036854775807 < s.size + 1 + hx.length := by omega
                  have hs4 : (s.size : Int) ≤ 1000 := by omega
                  clear e1 e2 hlen hsz htl
                  go_wp2_with (refine wpList_load_blk 24 (.tmp 1) w.heap.size 24 cs _ I.out.2 (by rfl) (by rfl) Tryd.underlying24 rfl hs.out (by rfl) ?_)
                  refine (HC.out _).mono ?_
                  rintro e w3 ⟨rfl, b⟩
                  have I2 := Lib.hid (And.intro (I.out.1.trans (b.mono I.out.1.size)) (I.out.2.keep b))
                  clear b I
                  go_wp2_with fail
                  refine (HD.out _).mono ?_
                  rintro e w4 ⟨rfl, b⟩
                  have I3 := Lib.hid (And.intro (I2.out.1.trans (b.mono I2.out.1.size)) (I2.out.2.keep b))
                  clear b I2
                  go_wp2_with fail
                  go_roundg g2
                  case measure => omega
                  case rel => exact ⟨k + 1, by omega, by go_num, by rw [← HE.out], I3⟩
          · have hmode : rm ≤ 1 ∨ k < ra ∨ ra + rm ≤ k := .inl (by omega)
            have hm' : ¬ (1 : Int) < (rm : Int) := by omega
            rcases rpT_step gs hul hult ra rm k hk8 hmode with ⟨e1, e2⟩ | ⟨t, e1, e2⟩ | ⟨t, c, e1, hc, e2⟩
            · rw [e1]
              have HE := Lib.hid e2
              clear e1 e2 hlen
              go_wp2_with (refine wpList_load_blk 24 (.tmp 1) w.heap.size 24 cs _ I.out.2 (by rfl) (by rfl) Tryd.underlying24 rfl hs.out (by rfl) ?_)
              refine (HC.out _).mono ?_
              rintro e w3 ⟨rfl, b⟩
              have I2 := Lib.hid (And.intro (I.out.1.trans (b.mono I.out.1.size)) (I.out.2.keep b))
              clear b I
              go_wp2_with fail
              refine (HD.out _).mono ?_
              rintro e w4 ⟨rfl, b⟩
              have I3 := Lib.hid (And.intro (I2.out.1.trans (b.mono I2.out.1.size)) (I2.out.2.keep b))
              clear b I2
              go_wp2_with fail
              go_roundg g2
              case measure => omega
              case rel => exact ⟨k + 1, by omega, by go_num, by rw [HE.out]; rfl, I3⟩
            · have HE := Lib.hid (show (⟨(rpT gs ra rm k).toArray⟩ : ByteArray) ++ ⟨(hex (gs[k]'hkl)).toArray⟩ = ⟨(rpT gs ra rm (k + 1)).toArray⟩ by rw [ByteArray.mk_append_mk, e2])
              have hsz : (⟨(rpT gs ra rm k).toArray⟩ : ByteArray).size = t.length + 1 := by show (rpT gs ra rm k).length = _; rw [e1]; simp
              have hI := fun W => last_index (⟨(rpT gs ra rm k).toArray⟩ : ByteArray) t 58 e1 W
              have htl : t.length ≤ 81 := by rw [e1] at hlen; simp at hlen; omega
              generalize (⟨(rpT gs ra rm k).toArray⟩ : ByteArray) = s at *
              generalize hex (gs[k]'hkl) = hx at *
              have hs0 : (0 : Int) < (s.size : Int) := by omega
              have hs1 : ¬ 9223372036854775807 < s.size + hx.length := by omega
              have hs2 : ¬ 9223372036854775807 < s.size + 1 := by omega
              have hs3 : ¬ 9223372036854775807 < s.size + 1 + hx.length := by omega
              have hs4 : (s.size : Int) ≤ 1000 := by omega
              clear e1 e2 hlen hsz htl
              go_wp2_with (refine wpList_load_blk 24 (.tmp 1) w.heap.size 24 cs _ I.out.2 (by rfl) (by rfl) Tryd.underlying24 rfl hs.out (by rfl) ?_)
              refine (HC.out _).mono ?_
              rintro e w3 ⟨rfl, b⟩
              have I2 := Lib.hid (And.intro (I.out.1.trans (b.mono I.out.1.size)) (I.out.2.keep b))
              clear b I
              go_wp2_with fail
              refine (HD.out _).mono ?_
              rintro e w4 ⟨rfl, b⟩
              have I3 := Lib.hid (And.intro (I2.out.1.trans (b.mono I2.out.1.size)) (I2.out.2.keep b))
              clear b I2
              go_wp2_with fail
              go_roundg g2
              case measure => omega
              case rel => exact ⟨k + 1, by omega, by go_num, by rw [← HE.out], I3⟩
            · have HE := Lib.hid (show (⟨(rpT gs ra rm k).toArray⟩ : ByteArray) ++ ⟨#[58]⟩ ++ ⟨(hex (gs[k]'hkl)).toArray⟩ = ⟨(rpT gs ra rm (k + 1)).toArray⟩ by rw [show (⟨#[58]⟩ : ByteArray) = ⟨([58] : List UInt8).toArray⟩ from rfl, ByteArray.mk_append_mk, ByteArray.mk_append_mk, e2])
              have hcn : ((c.toNat : Int) == 58) = false := by rw [beq_eq_false_iff_ne]; intro e; exact hc (UInt8.toNat_inj.1 (by show _ = 58; omega))
              have hsz : (⟨(rpT gs ra rm k).toArray⟩ : ByteArray).size = t.length + 1 := by show (rpT gs ra rm k).length = _; rw [e1]; simp
              have hI := fun W => last_index (⟨(rpT gs ra rm k).toArray⟩ : ByteArray) t c e1 W
              have htl : t.length ≤ 81 := by rw [e1] at hlen; simp at hlen; omega
              generalize (⟨(rpT gs ra rm k).toArray⟩ : ByteArray) = s at *
              generalize hex (gs[k]'hkl) = hx at *
              have hs0 : (0 : Int) < (s.size : Int) := by omega
              have hs1 : ¬ 9223372036854775807 < s.size + hx.length := by omega
              have hs2 : ¬ 9223372036854775807 < s.size + 1 := by omega
              have hs3 : ¬ 9223372036854775807 < s.size + 1 + hx.length := by omega
              have hs4 : (s.size : Int) ≤ 1000 := by omega
              clear e1 e2 hlen hsz htl
              go_wp2_with (refine wpList_load_blk 24 (.tmp 1) w.heap.size 24 cs _ I.out.2 (by rfl) (by rfl) Tryd.underlying24 rfl hs.out (by rfl) ?_)
              refine (HC.out _).mono ?_
              rintro e w3 ⟨rfl, b⟩
              have I2 := Lib.hid (And.intro (I.out.1.trans (b.mono I.out.1.size)) (I.out.2.keep b))
              clear b I
              go_wp2_with fail
              refine (HD.out _).mono ?_
              rintro e w4 ⟨rfl, b⟩
              have I3 := Lib.hid (And.intro (I2.out.1.trans (b.mono I2.out.1.size)) (I2.out.2.keep b))
              clear b I2
              go_wp2_with fail
              go_roundg g2
              case measure => omega
              case rel => exact ⟨k + 1, by omega, by go_num, by rw [← HE.out], I3⟩
    | succ g =>
      have hk8 : k < 8 := by omega
      have hk8' : (k : Int) < 8 := by omega
      have hkl : k < gs.length := by omega
      have HN := Lib.hid (show rrun gs (k + 1) = if (rrun gs k).2 < zrun (gs.drop k) then (k, zrun (gs.drop k)) else rrun gs k from rfl)
      generalize rrun gs k = r at *
      obtain ⟨ra, rm⟩ := r
      dsimp only at *
      go_wp2_with fail
      go_loopg [6] (8 - k) (fun g2 n wr2 => ∃ j : Nat, k + j + g2 = 8 ∧ n = .int .i64 j ∧ Hid (zrun (gs.drop k) = j + zrun (gs.drop (k + j))) ∧ Hid (Below w.heap.size w wr2 ∧ Blk wr2 w.heap.size 24 cs))
      case atStart => exact ⟨0, by omega, rfl, Lib.hid (by simp), I⟩
      case round =>
        clear I
        obtain ⟨j, hjg, rfl, HZ, I⟩ := hrel
        -- the rest of the outer round, once the count is known
        cases gk with
        | zero =>
          have hz : zrun (gs.drop k) = j := by
            rw [HZ.out, show k + j = 8 by omega, List.drop_eq_nil_of_le (by omega)]
            rfl
          rw [hz] at HN
          have hkj' : ¬ (k : Int) + (j : Int) < 8 := by omega
          clear HZ hz
          by_cases hlt : rm < j
          · rw [if_pos hlt] at HN
            have hlt' : (rm : Int) < (j : Int) := by omega
            go_wp2_with fail
            go_roundg g
            case measure => omega
            case rel => exact ⟨k + 1, by omega, by go_num, Lib.hid (by rw [HN.out]; exact ⟨rfl, rfl⟩), I⟩
          · rw [if_neg hlt] at HN
            have hlt' : ¬ (rm : Int) < (j : Int) := by omega
            go_wp2_with fail
            go_roundg g
            case measure => omega
            case rel => exact ⟨k + 1, by omega, by go_num, Lib.hid (by rw [HN.out]; exact ⟨rfl, rfl⟩), I⟩
        | succ g2 =>
          have hkj : k + j < 8 := by omega
          have hkj' : (k : Int) + (j : Int) < 8 := by omega
          have hz1 := zrun_at gs (k + j) (by omega)
          have HC := Lib.hid (HG.out (k + j) hkj)
          rw [List.getElem?_eq_getElem (by omega : k + j < gs.length), Option.getD_some] at HC
          by_cases hx : gs[k + j]'(by omega) = 0
          · rw [if_pos hx] at hz1
            rw [hx] at HC
            have HZ2 := Lib.hid (show zrun (gs.drop k) = (j + 1) + zrun (gs.drop (k + (j + 1))) by rw [HZ.out, hz1, Nat.add_assoc k j 1]; omega)
            clear hz1 hx HZ
            go_wp2_with (refine wpList_load_blk 24 (.tmp 1) w.heap.size 24 cs _ I.out.2 (by rfl) (by rfl) Tryd.underlying24 rfl hs.out (by rfl) ?_)
            refine (HC.out _).mono ?_
            rintro e w3 ⟨rfl, b⟩
            have I2 := Lib.hid (And.intro (I.out.1.trans (b.mono I.out.1.size)) (I.out.2.keep b))
            clear b I
            go_wp2_with fail
            go_roundg g2
            case measure => omega
            case rel => exact ⟨j + 1, by omega, by go_num, HZ2, I2⟩
          · rw [if_neg hx] at hz1
            have hne : ((gs[k + j]'(by omega) : Int) == 0) = false := by rw [beq_eq_false_iff_ne]; omega
            have hz : zrun (gs.drop k) = j := by rw [HZ.out, hz1]; rfl
            rw [hz] at HN
            generalize gs[k + j]'(by omega) = x at *
            clear HZ hz hz1
            by_cases hlt : rm < j
            · rw [if_pos hlt] at HN
              have hlt' : (rm : Int) < (j : Int) := by omega
              go_wp2_with (refine wpList_load_blk 24 (.tmp 1) w.heap.size 24 cs _ I.out.2 (by rfl) (by rfl) Tryd.underlying24 rfl hs.out (by rfl) ?_)
              refine (HC.out _).mono ?_
              rintro e w3 ⟨rfl, b⟩
              have I2 := Lib.hid (And.intro (I.out.1.trans (b.mono I.out.1.size)) (I.out.2.keep b))
              clear b I
              go_wp2_with fail
              go_roundg g
              case measure => omega
              case rel => exact ⟨k + 1, by omega, by go_num, Lib.hid (by rw [HN.out]; exact ⟨rfl, rfl⟩), I2⟩
            · rw [if_neg hlt] at HN
              have hlt' : ¬ (rm : Int) < (j : Int) := by omega
              go_wp2_with (refine wpList_load_blk 24 (.tmp 1) w.heap.size 24 cs _ I.out.2 (by rfl) (by rfl) Tryd.underlying24 rfl hs.out (by rfl) ?_)
              refine (HC.out _).mono ?_
              rintro e w3 ⟨rfl, b⟩
              have I2 := Lib.hid (And.intro (I.out.1.trans (b.mono I.out.1.size)) (I.out.2.keep b))
              clear b I
              go_wp2_with fail
              go_roundg g
              case measure => omega
              case rel => exact ⟨k + 1, by omega, by go_num, Lib.hid (by rw [HN.out]; exact ⟨rfl, rfl⟩), I2⟩
end Go.Proofs.YtonafonhadocgaaDoor

/- The reference's Ends. -/
namespace Go.Proofs.YtonafonhadocgaaDoor
open Go.RowKit Go.Shelf

theorem rprint_any (v6 : Bool) (l : List UInt8) (hl : l.length = 16) (w : World) :
    Calls Tryd.prog 33 #[.agg (adC v6 l)] w fun e w' => e = .returned (.string ⟨(printT v6 l).toArray⟩) ∧ Below w.heap.size w w' := by
  cases v6 with
  | true => exact rprint_six l hl w
  | false => exact rprint_four l hl w

/-- In a region that draws its order: a load of a part of a block may be taken first. -/
theorem yieldsIf_load_part {P : Program} {ops : Array Oper} {o : Oper} {a : Act} {S : World → Prop} (ty : TypeId) (x : Operand) (g i : Nat) (t : TypeId) (all : Array Value) (cs : List Value) (d : TypeDesc) (hS : ∀ w, S w → Blk w g t all) (hp : (all.toList.drop i).take cs.length = cs)
    (ho : o.op = .load ty x) (hx : a.eval x = .pointer (some ⟨g, i, none⟩))
    (hu : P.underlying ty = some d) (hd : d.isRow = true) (hi : (P.info? ty).map (·.size) = some cs.length)
    (hw : Region.wanted o (yielded ops a.tmps) = true) : YieldsIf P ops S o (.agg cs.toArray) a :=
  .inl ⟨hw, fun w hw' => by
    unfold execOp
    simp only [ho, hx, Instr.loadAt, Instr.sureAddr, Sem.run_bind, Sem.run_pure, Result.andThen_ok, run_loadVar_mid w g i ty cs d ((hS w hw').range i cs hp) hu hd hi]⟩

/-- What the region reads. -/
def EHeld (g : Nat) (cs : Array Value) (p : Nat) (w : World) : Prop := Blk w g 27 cs ∧ w.cell? ⟨g, 17, none⟩ = some (.int .u16 (p : Int))
theorem EHeld.keep {g : Nat} {cs : Array Value} {p : Nat} {w w' : World} (h : EHeld g cs p w) (hb : Below w.heap.size w w') : EHeld g cs p w' := ⟨h.1.keep hb, cell_later hb h.2⟩

theorem rends_cat6 (t d : List UInt8) : (⟨#[91]⟩ : ByteArray) ++ ⟨t.toArray⟩ ++ ⟨#[93, 58]⟩ ++ ⟨d.toArray⟩ = ⟨(91 :: (t ++ 93 :: 58 :: d)).toArray⟩ := by
  rw [show (⟨#[91]⟩ : ByteArray) = ⟨([91] : List UInt8).toArray⟩ from rfl, show (⟨#[93, 58]⟩ : ByteArray) = ⟨([93, 58] : List UInt8).toArray⟩ from rfl, ByteArray.mk_append_mk, ByteArray.mk_append_mk, ByteArray.mk_append_mk]
  simp

set_option maxRecDepth 100000 in
set_option maxHeartbeats 8000000 in
theorem rends_any (v6 : Bool) (l : List UInt8) (p : Nat) (hl : l.length = 16) (hp : p < 65536) (w : World) :
    Calls Tryd.prog 22 #[.agg (enC v6 l p)] w fun e w' => e = .returned (.string ⟨(endsT v6 l p).toArray⟩) ∧ Below w.heap.size w w' := by
  have k := Blk.new w 27 (enC v6 l p)
  have B := Lib.hid ((Below.refl _ w).alloc (Nat.le_refl _) (.cells (enC v6 l p) 27))
  have HK := Lib.hid (show EHeld w.heap.size (enC v6 l p) p (w.alloc (.cells (enC v6 l p) 27)) from ⟨k, (k.cell 17).trans (enC_port v6 l p hl)⟩)
  have q0 : (w.alloc (.cells (enC v6 l p) 27)).cell? ⟨w.heap.size, 0, none⟩ = some (.bool v6) := k.cell 0
  clear k
  have HP := Lib.hid (fun W => rprint_any v6 l hl W)
  have HU := Lib.hid (fun W => digits10 p hp W)
  have HA := Lib.hid (enC_ad v6 l p hl)
  have HAI := Lib.hid (show (Tryd.prog.info? 24).map (·.size) = some (adC v6 l).toList.length by rw [adSize, Array.length_toList, adC_size _ _ hl])
  have hT := printT_len v6 l hl
  have hD := dec_len16 p hp
  have hpw : IntKind.i64.wrap (p : Int) = (p : Int) := by rw [IntKind.wrap_i64]; omega
  have HEV := Lib.hid (show endsT v6 l p = (if v6 then 91 :: (printT v6 l ++ [93]) else printT v6 l) ++ 58 :: dec p from rfl)
  generalize enC v6 l p = cs at *
  generalize adC v6 l = ac at *
  generalize printT v6 l = t at *
  generalize dec p = d at *
  generalize endsT v6 l p = ev at *
  clear hl
  have c1 : ¬ 9223372036854775807 < 1 + t.length := by omega
  have c2 : ¬ 9223372036854775807 < 1 + t.length + 2 := by omega
  have c3 : ¬ 9223372036854775807 < 1 + t.length + 2 + d.length := by omega
  have c4 : ¬ 9223372036854775807 < t.length + 1 := by omega
  have c5 : ¬ 9223372036854775807 < t.length + 1 + d.length := by omega
  have C := Lib.hid (And.intro c1 (And.intro c2 (And.intro c3 (And.intro c4 c5))))
  clear hT hD c1 c2 c3 c4 c5 hp
  cases v6 with
  | true =>
    go_enter Tryd.func22, Tryd.ntmps22
    go_upto_region 2 with fail
    clear q0
    refine wp_region_held_drew (S := EHeld w.heap.size cs p) (by kernel_rfl) (⟨HK.out.1, HK.out.2⟩) (fun hHeld => ?_)
    have BB := Lib.hid (below_drew B.out)
    clear B HK
    refine wpAnyH_take (i := 0) (oi := _) (v := ?_) rfl (by kernel_rfl) (by kernel_rfl) (by kernel_rfl) (fun _ _ _ h => h) (Or.inl ⟨by rfl, ?_⟩) (by assumption) ?_
    case refine_2 => (intro w hSw; (try unfold EHeld at hSw); go_simp <;> with_reducible rfl)
    try simp only [List.getElem_toArray, List.getElem_cons_zero, Act.put, List.setIfInBounds_toArray, List.set_cons_zero, List.set_cons_succ]
    refine wpAnyH_take (i := 1) (oi := _) (v := .agg ac.toList.toArray) rfl (by kernel_rfl) (by kernel_rfl) (by kernel_rfl) (fun _ _ _ h => h) (yieldsIf_load_part 24 (.tmp 6) w.heap.size 0 27 cs ac.toList _ (fun w h => h.1) HA.out (by rfl) (by rfl) Tryd.underlying24 rfl HAI.out (by rfl)) (by assumption) ?_
    try simp only [List.getElem_toArray, List.getElem_cons_zero, List.getElem_cons_succ, Act.put, List.setIfInBounds_toArray, List.set_cons_zero, List.set_cons_succ]
    refine wpAnyH_take (i := 5) (oi := _) (v := ?_) rfl (by kernel_rfl) (by kernel_rfl) (by kernel_rfl) (fun _ _ _ h => h) (Or.inl ⟨by rfl, ?_⟩) (by assumption) ?_
    case refine_2 => (intro w hSw; (try unfold EHeld at hSw); go_simp <;> with_reducible rfl)
    try simp only [List.getElem_toArray, List.getElem_cons_zero, List.getElem_cons_succ, Act.put, List.setIfInBounds_toArray, List.set_cons_zero, List.set_cons_succ]
    refine wpAnyH_take (i := 6) (oi := _) (v := ?_) rfl (by kernel_rfl) (by kernel_rfl) (by kernel_rfl) (fun _ _ _ h => h) (Or.inl ⟨by rfl, ?_⟩) (by assumption) ?_
    case refine_2 => (intro w hSw; (try unfold EHeld at hSw); go_simp <;> with_reducible rfl)
    try simp only [List.getElem_toArray, List.getElem_cons_zero, List.getElem_cons_succ, Act.put, List.setIfInBounds_toArray, List.set_cons_zero, List.set_cons_succ]
    refine wpAnyH_take (i := 7) (oi := _) (v := ?_) rfl (by kernel_rfl) (by kernel_rfl) (by kernel_rfl) (fun _ _ _ h => h) (Or.inl ⟨by rfl, ?_⟩) (by assumption) ?_
    case refine_2 => (intro w hSw; (try unfold EHeld at hSw); go_simp <;> with_reducible rfl)
    try simp only [List.getElem_toArray, List.getElem_cons_zero, List.getElem_cons_succ, Act.put, List.setIfInBounds_toArray, List.set_cons_zero, List.set_cons_succ]
    refine wpAnyH_ready (rs := [2]) (by kernel_rfl) (by simp) ?_
    refine AllReadyH.cons (o := _) rfl (fun K hK => ?_) AllReadyH.nil
    simp only [List.getElem_toArray, List.getElem_cons_zero, List.getElem_cons_succ]
    go_simp
    refine (HP.out _).mono ?_
    rintro e wn ⟨rfl, b⟩
    have Bn := Lib.hid (BB.out.trans (b.mono BB.out.size))
    have hH := hHeld.keep b
    clear b BB
    go_simp
    refine hK.out _ _ hH (fun hHeld2 => ?_)
    clear hK K hHeld hH
    have hHeld := hHeld2
    have BB := Bn
    clear hHeld2 Bn
    try simp only [List.getElem_toArray, List.getElem_cons_zero, List.getElem_cons_succ, Act.put, List.setIfInBounds_toArray, List.set_cons_zero, List.set_cons_succ]
    obtain ⟨c1, c2, c3, c4, c5⟩ := C.out
    refine wpAnyH_take (i := 3) (oi := _) (v := ?_) rfl (by kernel_rfl) (by kernel_rfl) (by kernel_rfl) (fun _ _ _ h => h) (Or.inl ⟨by rfl, ?_⟩) (by assumption) ?_
    case refine_2 => (intro w hSw; (try unfold EHeld at hSw); go_simp <;> with_reducible rfl)
    try simp only [List.getElem_toArray, List.getElem_cons_zero, List.getElem_cons_succ, Act.put, List.setIfInBounds_toArray, List.set_cons_zero, List.set_cons_succ]
    refine wpAnyH_take (i := 4) (oi := _) (v := ?_) rfl (by kernel_rfl) (by kernel_rfl) (by kernel_rfl) (fun _ _ _ h => h) (Or.inl ⟨by rfl, ?_⟩) (by assumption) ?_
    case refine_2 => (intro w hSw; (try unfold EHeld at hSw); go_simp <;> with_reducible rfl)
    try simp only [List.getElem_toArray, List.getElem_cons_zero, List.getElem_cons_succ, Act.put, List.setIfInBounds_toArray, List.set_cons_zero, List.set_cons_succ]
    clear c1 c2 c3 c4 c5
    refine wpAnyH_ready (rs := [8]) (by kernel_rfl) (by simp) ?_
    refine AllReadyH.cons (o := _) rfl (fun K hK => ?_) AllReadyH.nil
    simp only [List.getElem_toArray, List.getElem_cons_zero, List.getElem_cons_succ]
    go_simp
    refine (HU.out _).mono ?_
    rintro e wn ⟨rfl, b⟩
    have Bn := Lib.hid (BB.out.trans (b.mono BB.out.size))
    have hH := hHeld.keep b
    clear b BB
    go_simp
    refine hK.out _ _ hH (fun hHeld2 => ?_)
    clear hK K hHeld hH
    have hHeld := hHeld2
    have BB := Bn
    clear hHeld2 Bn
    try simp only [List.getElem_toArray, List.getElem_cons_zero, List.getElem_cons_succ, Act.put, List.setIfInBounds_toArray, List.set_cons_zero, List.set_cons_succ]
    obtain ⟨c1, c2, c3, c4, c5⟩ := C.out
    refine wpAnyH_take (i := 9) (oi := _) (v := ?_) rfl (by kernel_rfl) (by kernel_rfl) (by kernel_rfl) (fun _ _ _ h => h) (Or.inl ⟨by rfl, ?_⟩) (by assumption) ?_
    case refine_2 => (intro w hSw; (try unfold EHeld at hSw); go_simp <;> with_reducible rfl)
    try simp only [List.getElem_toArray, List.getElem_cons_zero, List.getElem_cons_succ, Act.put, List.setIfInBounds_toArray, List.set_cons_zero, List.set_cons_succ]
    clear c1 c2 c3 c4 c5
    refine wpAnyH_take (i := 10) (oi := _) (v := ?_) rfl (by kernel_rfl) (by kernel_rfl) (by kernel_rfl) (fun _ _ _ h => h) (Or.inl ⟨by rfl, ?_⟩) (by assumption) ?_
    case refine_2 => (intro w hSw; (try unfold EHeld at hSw); go_simp <;> with_reducible rfl)
    try simp only [List.getElem_toArray, List.getElem_cons_zero, List.getElem_cons_succ, Act.put, List.setIfInBounds_toArray, List.set_cons_zero, List.set_cons_succ]
    refine wpAnyH_done (by kernel_rfl) ?_ _
    clear hHeld
    go_wp2_with fail
    all_goals (go_ret; exact ⟨congrArg (fun x => Ending.returned (.string x)) (rends_cat6 t d) |>.trans (by rw [HEV.out]; simp), BB.out⟩)
  | false =>
    go_enter Tryd.func22, Tryd.ntmps22
    go_upto_region 3 with fail
    clear q0
    refine wp_region_held_drew (S := EHeld w.heap.size cs p) (by kernel_rfl) (⟨HK.out.1, HK.out.2⟩) (fun hHeld => ?_)
    have BB := Lib.hid (below_drew B.out)
    clear B HK
    refine wpAnyH_take (i := 0) (oi := _) (v := ?_) rfl (by kernel_rfl) (by kernel_rfl) (by kernel_rfl) (fun _ _ _ h => h) (Or.inl ⟨by rfl, ?_⟩) (by assumption) ?_
    case refine_2 => (intro w hSw; (try unfold EHeld at hSw); go_simp <;> with_reducible rfl)
    try simp only [List.getElem_toArray, List.getElem_cons_zero, Act.put, List.setIfInBounds_toArray, List.set_cons_zero, List.set_cons_succ]
    refine wpAnyH_take (i := 1) (oi := _) (v := .agg ac.toList.toArray) rfl (by kernel_rfl) (by kernel_rfl) (by kernel_rfl) (fun _ _ _ h => h) (yieldsIf_load_part 24 (.tmp 16) w.heap.size 0 27 cs ac.toList _ (fun w h => h.1) HA.out (by rfl) (by rfl) Tryd.underlying24 rfl HAI.out (by rfl)) (by assumption) ?_
    try simp only [List.getElem_toArray, List.getElem_cons_zero, List.getElem_cons_succ, Act.put, List.setIfInBounds_toArray, List.set_cons_zero, List.set_cons_succ]
    refine wpAnyH_take (i := 4) (oi := _) (v := ?_) rfl (by kernel_rfl) (by kernel_rfl) (by kernel_rfl) (fun _ _ _ h => h) (Or.inl ⟨by rfl, ?_⟩) (by assumption) ?_
    case refine_2 => (intro w hSw; (try unfold EHeld at hSw); go_simp <;> with_reducible rfl)
    try simp only [List.getElem_toArray, List.getElem_cons_zero, List.getElem_cons_succ, Act.put, List.setIfInBounds_toArray, List.set_cons_zero, List.set_cons_succ]
    refine wpAnyH_take (i := 5) (oi := _) (v := ?_) rfl (by kernel_rfl) (by kernel_rfl) (by kernel_rfl) (fun _ _ _ h => h) (Or.inl ⟨by rfl, ?_⟩) (by assumption) ?_
    case refine_2 => (intro w hSw; (try unfold EHeld at hSw); go_simp <;> with_reducible rfl)
    try simp only [List.getElem_toArray, List.getElem_cons_zero, List.getElem_cons_succ, Act.put, List.setIfInBounds_toArray, List.set_cons_zero, List.set_cons_succ]
    refine wpAnyH_take (i := 6) (oi := _) (v := ?_) rfl (by kernel_rfl) (by kernel_rfl) (by kernel_rfl) (fun _ _ _ h => h) (Or.inl ⟨by rfl, ?_⟩) (by assumption) ?_
    case refine_2 => (intro w hSw; (try unfold EHeld at hSw); go_simp <;> with_reducible rfl)
    try simp only [List.getElem_toArray, List.getElem_cons_zero, List.getElem_cons_succ, Act.put, List.setIfInBounds_toArray, List.set_cons_zero, List.set_cons_succ]
    refine wpAnyH_ready (rs := [2]) (by kernel_rfl) (by simp) ?_
    refine AllReadyH.cons (o := _) rfl (fun K hK => ?_) AllReadyH.nil
    simp only [List.getElem_toArray, List.getElem_cons_zero, List.getElem_cons_succ]
    go_simp
    refine (HP.out _).mono ?_
    rintro e wn ⟨rfl, b⟩
    have Bn := Lib.hid (BB.out.trans (b.mono BB.out.size))
    have hH := hHeld.keep b
    clear b BB
    go_simp
    refine hK.out _ _ hH (fun hHeld2 => ?_)
    clear hK K hHeld hH
    have hHeld := hHeld2
    have BB := Bn
    clear hHeld2 Bn
    try simp only [List.getElem_toArray, List.getElem_cons_zero, List.getElem_cons_succ, Act.put, List.setIfInBounds_toArray, List.set_cons_zero, List.set_cons_succ]
    obtain ⟨c1, c2, c3, c4, c5⟩ := C.out
    refine wpAnyH_take (i := 3) (oi := _) (v := ?_) rfl (by kernel_rfl) (by kernel_rfl) (by kernel_rfl) (fun _ _ _ h => h) (Or.inl ⟨by rfl, ?_⟩) (by assumption) ?_
    case refine_2 => (intro w hSw; (try unfold EHeld at hSw); go_simp <;> with_reducible rfl)
    try simp only [List.getElem_toArray, List.getElem_cons_zero, List.getElem_cons_succ, Act.put, List.setIfInBounds_toArray, List.set_cons_zero, List.set_cons_succ]
    clear c1 c2 c3 c4 c5
    refine wpAnyH_ready (rs := [7]) (by kernel_rfl) (by simp) ?_
    refine AllReadyH.cons (o := _) rfl (fun K hK => ?_) AllReadyH.nil
    simp only [List.getElem_toArray, List.getElem_cons_zero, List.getElem_cons_succ]
    go_simp
    refine (HU.out _).mono ?_
    rintro e wn ⟨rfl, b⟩
    have Bn := Lib.hid (BB.out.trans (b.mono BB.out.size))
    have hH := hHeld.keep b
    clear b BB
    go_simp
    refine hK.out _ _ hH (fun hHeld2 => ?_)
    clear hK K hHeld hH
    have hHeld := hHeld2
    have BB := Bn
    clear hHeld2 Bn
    try simp only [List.getElem_toArray, List.getElem_cons_zero, List.getElem_cons_succ, Act.put, List.setIfInBounds_toArray, List.set_cons_zero, List.set_cons_succ]
    obtain ⟨c1, c2, c3, c4, c5⟩ := C.out
    refine wpAnyH_take (i := 8) (oi := _) (v := ?_) rfl (by kernel_rfl) (by kernel_rfl) (by kernel_rfl) (fun _ _ _ h => h) (Or.inl ⟨by rfl, ?_⟩) (by assumption) ?_
    case refine_2 => (intro w hSw; (try unfold EHeld at hSw); go_simp <;> with_reducible rfl)
    try simp only [List.getElem_toArray, List.getElem_cons_zero, List.getElem_cons_succ, Act.put, List.setIfInBounds_toArray, List.set_cons_zero, List.set_cons_succ]
    clear c1 c2 c3 c4 c5
    refine wpAnyH_take (i := 9) (oi := _) (v := ?_) rfl (by kernel_rfl) (by kernel_rfl) (by kernel_rfl) (fun _ _ _ h => h) (Or.inl ⟨by rfl, ?_⟩) (by assumption) ?_
    case refine_2 => (intro w hSw; (try unfold EHeld at hSw); go_simp <;> with_reducible rfl)
    try simp only [List.getElem_toArray, List.getElem_cons_zero, List.getElem_cons_succ, Act.put, List.setIfInBounds_toArray, List.set_cons_zero, List.set_cons_succ]
    refine wpAnyH_done (by kernel_rfl) ?_ _
    clear hHeld
    go_wp2_with fail
    all_goals (go_ret; exact ⟨congrArg (fun x => Ending.returned (.string x)) (ends_cat4 t d) |>.trans (by rw [HEV.out]; simp), BB.out⟩)
end Go.Proofs.YtonafonhadocgaaDoor
