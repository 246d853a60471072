/- Laws and walks that the claim's last text leans on, joined: each part says above itself what it proves. -/
import Derived.Test.YtonafonhadocgaaGreatDoorQQ
import Derived.Deep.LoopGhost
import Derived.Test.YtonafonhadocgaaGreatDoorQJ
import Derived.Test.YtonafonhadocgaaGreatDoorQM
import Derived.Test.YtonafonhadocgaaGreatDoorQN
import Derived.Test.YtonafonhadocgaaGreatDoorQO
import Derived.Test.YtonafonhadocgaaGreatDoorQP

/- The reference's Print of an IPv6 address. -/
namespace Go.Proofs.YtonafonhadocgaaGreatDoor
open Go.RowKit Go.Shelf

theorem zrun_at (gs : List Nat) (k : Nat) (h : k < gs.length) : zrun (gs.drop k) = if gs[k] = 0 then zrun (gs.drop (k + 1)) + 1 else 0 := by
  rw [List.drop_eq_getElem_cons h, zrun]

theorem last_index (s : ByteArray) (t : List UInt8) (c : UInt8) (h : s.data.toList = t ++ [c]) (W : World) :
    (Instr.index 9 (.string s) (.int .i64 ((s.size : Int) - 1))).run Tryz.prog W = .ok (.int .u8 (c.toNat : Int)) W := by
  have hs : s.size = t.length + 1 := by
    show s.data.toList.length = _
    rw [h]; simp
  rw [run_index_string W _ _ _ _ Tryz.underlying9, dif_pos ⟨by omega, by omega⟩]
  have e : ∀ (j : Nat) (hj : j < s.size), j = t.length → s[j]'hj = c := fun j hj e => by
    subst e
    have : s[t.length]'hj = s.data.toList[t.length]'hj := rfl
    rw [this]
    simp only [h]
    simp
  rw [e _ _ (by omega)]

set_option maxRecDepth 100000 in
set_option maxHeartbeats 16000000 in
theorem rprint_six (l : List UInt8) (hl : l.length = 16) (w : World) :
    Calls Tryz.prog 64 #[.agg (adC true l)] w fun e w' => e = .returned (.string ⟨(printT true l).toArray⟩) ∧ Below w.heap.size w w' := by
  have HEnd := Lib.hid (rpT_end l hl)
  have hul := unflat_len l 8 hl
  have hult := unflat_lt l
  have HG := Lib.hid (fun (i : Nat) (h : i < 8) W => group_at true l i hl h W)
  have B := Lib.hid ((Below.refl _ w).alloc (Nat.le_refl _) (.cells (adC true l) 25))
  have K := Lib.hid (Blk.new w 25 (adC true l))
  have hs := Lib.hid (show (Tryz.prog.info? 25).map (·.size) = some (adC true l).size by rw [adC_size _ _ hl]; exact adSize)
  have q0 : (w.alloc (.cells (adC true l) 25)).cell? ⟨w.heap.size, 0, none⟩ = some (.bool true) := by rw [K.out.cell]; rfl
  have HH := Lib.hid (fun (n : Nat) (h : n < 65536) W => digits16 n h W)
  obtain ⟨cs, hcs⟩ : ∃ cs, cs = adC true l := ⟨_, rfl⟩
  rw [← hcs] at B K hs q0 HG ⊢
  generalize printT true l = pt at *
  generalize unflat l = gs at *
  clear hcs hl
  go_enter Tryz.func64, Tryz.ntmps64
  go_wp2_with fail
  have I0 := Lib.hid (And.intro B.out K.out)
  generalize w.alloc (.cells cs 25) = w1 at *
  clear B K q0
  go_loopg [3, 4, 5] 8 (fun g a m i wr => ∃ k : Nat, k + g = 8 ∧ i = .int .i64 k ∧ Hid (a = .int .i64 (rrun gs k).1 ∧ m = .int .i64 (rrun gs k).2) ∧ Hid (Below w.heap.size w wr ∧ Blk wr w.heap.size 25 cs))
  case atStart => exact ⟨0, by omega, rfl, Lib.hid ⟨rfl, rfl⟩, I0⟩
  case round =>
    clear I0
    obtain ⟨k, hkg, rfl, HV, I⟩ := hrel
    obtain ⟨rfl, rfl⟩ := HV.out
    clear HV
    cases gk with
    | zero =>
      obtain rfl : k = 8 := by omega
      have hroom := rrun_room gs hul 8 (by omega)
      generalize rrun gs 8 = r at *
      obtain ⟨ra, rm⟩ := r
      dsimp only at *
      go_wp2_with fail
      go_loopg [7, 8] 8 (fun g s i wr2 => ∃ k : Nat, k + g = 8 ∧ i = .int .i64 k ∧ s = .string ⟨(rpT gs ra rm k).toArray⟩ ∧ Hid (Below w.heap.size w wr2 ∧ Blk wr2 w.heap.size 25 cs))
      case atStart => exact ⟨0, by omega, rfl, by
        rw [show rpT gs ra rm 0 = [] by rw [rpT, if_pos (.inr (by omega)), List.take_zero]; rfl], I⟩
      case round =>
        clear I
        obtain ⟨k, hkg, rfl, rfl, I⟩ := hrel
        have hlen := rpT_len gs hul ra rm k
        cases gk with
        | zero =>
          obtain rfl : k = 8 := by omega
          rw [HEnd.out]
          go_wp2_with fail
          go_ret
          exact ⟨rfl, I.out.1⟩
        | succ g2 =>
          have hk8 : k < 8 := by omega
          have hkl : k < gs.length := by omega
          have HC := Lib.hid (HG.out k hk8)
          rw [List.getElem?_eq_getElem hkl, Option.getD_some] at HC
          have hxk := hult _ (List.getElem_mem hkl)
          have HD := Lib.hid (HH.out (gs[k]'hkl) hxk)
          have hhl := hex_len (gs[k]'hkl)
          by_cases hm : 1 < rm
          · have hm' : (1 : Int) < (rm : Int) := by omega
            rcases Nat.lt_trichotomy k ra with hlt | heq | hgt
            · have hmode : rm ≤ 1 ∨ k < ra ∨ ra + rm ≤ k := .inr (.inl hlt)
              have f1 : ((k : Int) == (ra : Int)) = false := by rw [beq_eq_false_iff_ne]; omega
              have f2 : ¬ (ra : Int) ≤ (k : Int) := by omega
              rcases rpT_step gs hul hult ra rm k hk8 hmode with ⟨e1, e2⟩ | ⟨t, e1, e2⟩ | ⟨t, c, e1, hc, e2⟩
              · rw [e1]
                have HE := Lib.hid e2
                clear e1 e2 hlen
                go_wp2_with (refine wpList_load_blk 25 (.tmp 1) w.heap.size 25 cs _ I.out.2 (by rfl) (by rfl) Tryz.underlying25 rfl hs.out (by rfl) ?_)
                refine (HC.out _).mono ?_
                rintro e w3 ⟨rfl, b⟩
                have I2 := Lib.hid (And.intro (I.out.1.trans (b.mono I.out.1.size)) (I.out.2.keep b))
                clear b I
                go_wp2_with fail
                refine (HD.out _).mono ?_
                rintro e w4 ⟨rfl, b⟩
                have I3 := Lib.hid (And.intro (I2.out.1.trans (b.mono I2.out.1.size)) (I2.out.2.keep b))
                clear b I2
                go_wp2_with fail
                go_roundg g2
                case measure => omega
                case rel => exact ⟨k + 1, by omega, by go_num, by rw [HE.out]; rfl, I3⟩
              · have HE := Lib.hid (show (⟨(rpT gs ra rm k).toArray⟩ : ByteArray) ++ ⟨(hex (gs[k]'hkl)).toArray⟩ = ⟨(rpT gs ra rm (k + 1)).toArray⟩ by rw [ByteArray.mk_append_mk, e2])
                have hsz : (⟨(rpT gs ra rm k).toArray⟩ : ByteArray).size = t.length + 1 := by show (rpT gs ra rm k).length = _; rw [e1]; simp
                have hI := fun W => last_index (⟨(rpT gs ra rm k).toArray⟩ : ByteArray) t 58 e1 W
                have htl : t.length ≤ 81 := by rw [e1] at hlen; simp at hlen; omega
                generalize (⟨(rpT gs ra rm k).toArray⟩ : ByteArray) = s at *
                generalize hex (gs[k]'hkl) = hx at *
                have hs0 : (0 : Int) < (s.size : Int) := by omega
                have hs1 : ¬ 9223372036854775807 < s.size + hx.length := by omega
                have hs2 : ¬ 9223372036854775807 < s.size + 1 := by omega
                have hs3 : ¬ 9223372036854775807 < s.size + 1 + hx.length := by omega
                have hs4 : (s.size : Int) ≤ 1000 := by omega
                clear e1 e2 hlen hsz htl
                go_wp2_with (refine wpList_load_blk 25 (.tmp 1) w.heap.size 25 cs _ I.out.2 (by rfl) (by rfl) Tryz.underlying25 rfl hs.out (by rfl) ?_)
                refine (HC.out _).mono ?_
                rintro e w3 ⟨rfl, b⟩
                have I2 := Lib.hid (And.intro (I.out.1.trans (b.mono I.out.1.size)) (I.out.2.keep b))
                clear b I
                go_wp2_with fail
                refine (HD.out _).mono ?_
                rintro e w4 ⟨rfl, b⟩
                have I3 := Lib.hid (And.intro (I2.out.1.trans (b.mono I2.out.1.size)) (I2.out.2.keep b))
                clear b I2
                go_wp2_with fail
                go_roundg g2
                case measure => omega
                case rel => exact ⟨k + 1, by omega, by go_num, by rw [← HE.out], I3⟩
              · have HE := Lib.hid (show (⟨(rpT gs ra rm k).toArray⟩ : ByteArray) ++ ⟨#[58]⟩ ++ ⟨(hex (gs[k]'hkl)).toArray⟩ = ⟨(rpT gs ra rm (k + 1)).toArray⟩ by rw [show (⟨#[58]⟩ : ByteArray) = ⟨([58] : List UInt8).toArray⟩ from rfl, ByteArray.mk_append_mk, ByteArray.mk_append_mk, e2])
                have hcn : ((c.toNat : Int) == 58) = false := by rw [beq_eq_false_iff_ne]; intro e; exact hc (UInt8.toNat_inj.1 (by show _ = 58; omega))
                have hsz : (⟨(rpT gs ra rm k).toArray⟩ : ByteArray).size = t.length + 1 := by show (rpT gs ra rm k).length = _; rw [e1]; simp
                have hI := fun W => last_index (⟨(rpT gs ra rm k).toArray⟩ : ByteArray) t c e1 W
                have htl : t.length ≤ 81 := by rw [e1] at hlen; simp at hlen; omega
                generalize (⟨(rpT gs ra rm k).toArray⟩ : ByteArray) = s at *
                generalize hex (gs[k]'hkl) = hx at *
                have hs0 : (0 : Int) < (s.size : Int) := by omega
                have hs1 : ¬ 9223372036854775807 < s.size + hx.length := by omega
                have hs2 : ¬ 9223372036854775807 < s.size + 1 := by omega
                have hs3 : ¬ 9223372036854775807 < s.size + 1 + hx.length := by omega
                have hs4 : (s.size : Int) ≤ 1000 := by omega
                clear e1 e2 hlen hsz htl
                go_wp2_with (refine wpList_load_blk 25 (.tmp 1) w.heap.size 25 cs _ I.out.2 (by rfl) (by rfl) Tryz.underlying25 rfl hs.out (by rfl) ?_)
                refine (HC.out _).mono ?_
                rintro e w3 ⟨rfl, b⟩
                have I2 := Lib.hid (And.intro (I.out.1.trans (b.mono I.out.1.size)) (I.out.2.keep b))
                clear b I
                go_wp2_with fail
                refine (HD.out _).mono ?_
                rintro e w4 ⟨rfl, b⟩
                have I3 := Lib.hid (And.intro (I2.out.1.trans (b.mono I2.out.1.size)) (I2.out.2.keep b))
                clear b I2
                go_wp2_with fail
                go_roundg g2
                case measure => omega
                case rel => exact ⟨k + 1, by omega, by go_num, by rw [← HE.out], I3⟩
            · subst heq
              have HE := Lib.hid (show (⟨(rpT gs k rm k).toArray⟩ : ByteArray) ++ ⟨#[58, 58]⟩ = ⟨(rpT gs k rm (k + 1)).toArray⟩ by rw [← rpT_at gs k rm hm, ← ByteArray.mk_append_mk])
              have hsz : (⟨(rpT gs k rm k).toArray⟩ : ByteArray).size ≤ 82 := hlen
              generalize (⟨(rpT gs k rm k).toArray⟩ : ByteArray) = s at *
              have hs2 : ¬ 9223372036854775807 < s.size + 2 := by omega
              have f3 : (k : Int) < (k : Int) + (rm : Int) := by omega
              clear hlen hsz HC HD
              go_wp2_with fail
              go_roundg g2
              case measure => omega
              case rel => exact ⟨k + 1, by omega, by go_num, by rw [← HE.out], I⟩
            · by_cases hin : k < ra + rm
              · have f1 : ((k : Int) == (ra : Int)) = false := by rw [beq_eq_false_iff_ne]; omega
                have f2 : (ra : Int) ≤ (k : Int) := by omega
                have f3 : (k : Int) < (ra : Int) + (rm : Int) := by omega
                have HE := Lib.hid (rpT_in gs ra rm k hm hgt hin)
                clear hlen HC HD
                go_wp2_with fail
                go_roundg g2
                case measure => omega
                case rel => exact ⟨k + 1, by omega, by go_num, by rw [HE.out], I⟩
              · have hmode : rm ≤ 1 ∨ k < ra ∨ ra + rm ≤ k := .inr (.inr (by omega))
                have f1 : ((k : Int) == (ra : Int)) = false := by rw [beq_eq_false_iff_ne]; omega
                have f2 : (ra : Int) ≤ (k : Int) := by omega
                have f3 : ¬ (k : Int) < (ra : Int) + (rm : Int) := by omega
                rcases rpT_step gs hul hult ra rm k hk8 hmode with ⟨e1, e2⟩ | ⟨t, e1, e2⟩ | ⟨t, c, e1, hc, e2⟩
                · rw [e1]
                  have HE := Lib.hid e2
                  clear e1 e2 hlen
                  go_wp2_with (refine wpList_load_blk 25 (.tmp 1) w.heap.size 25 cs _ I.out.2 (by rfl) (by rfl) Tryz.underlying25 rfl hs.out (by rfl) ?_)
                  refine (HC.out _).mono ?_
                  rintro e w3 ⟨rfl, b⟩
                  have I2 := Lib.hid (And.intro (I.out.1.trans (b.mono I.out.1.size)) (I.out.2.keep b))
                  clear b I
                  go_wp2_with fail
                  refine (HD.out _).mono ?_
                  rintro e w4 ⟨rfl, b⟩
                  have I3 := Lib.hid (And.intro (I2.out.1.trans (b.mono I2.out.1.size)) (I2.out.2.keep b))
                  clear b I2
                  go_wp2_with fail
                  go_roundg g2
                  case measure => omega
                  case rel => exact ⟨k + 1, by omega, by go_num, by rw [HE.out]; rfl, I3⟩
                · have HE := Lib.hid (show (⟨(rpT gs ra rm k).toArray⟩ : ByteArray) ++ ⟨(hex (gs[k]'hkl)).toArray⟩ = ⟨(rpT gs ra rm (k + 1)).toArray⟩ by rw [ByteArray.mk_append_mk, e2])
                  have hsz : (⟨(rpT gs ra rm k).toArray⟩ : ByteArray).size = t.length + 1 := by show (rpT gs ra rm k).length = _; rw [e1]; simp
                  have hI := fun W => last_index (⟨(rpT gs ra rm k).toArray⟩ : ByteArray) t 58 e1 W
                  have htl : t.length ≤ 81 := by rw [e1] at hlen; simp at hlen; omega
                  generalize (⟨(rpT gs ra rm k).toArray⟩ : ByteArray) = s at *
                  generalize hex (gs[k]'hkl) = hx at *
                  have hs0 : (0 : Int) < (s.size : Int) := by omega
                  have hs1 : ¬ 9223372036854775807 < s.size + hx.length := by omega
                  have hs2 : ¬ 9223372036854775807 < s.size + 1 := by omega
                  have hs3 : ¬ 9223372036854775807 < s.size + 1 + hx.length := by omega
                  have hs4 : (s.size : Int) ≤ 1000 := by omega
                  clear e1 e2 hlen hsz htl
                  go_wp2_with (refine wpList_load_blk 25 (.tmp 1) w.heap.size 25 cs _ I.out.2 (by rfl) (by rfl) Tryz.underlying25 rfl hs.out (by rfl) ?_)
                  refine (HC.out _).mono ?_
                  rintro e w3 ⟨rfl, b⟩
                  have I2 := Lib.hid (And.intro (I.out.1.trans (b.mono I.out.1.size)) (I.out.2.keep b))
                  clear b I
                  go_wp2_with fail
                  refine (HD.out _).mono ?_
                  rintro e w4 ⟨rfl, b⟩
                  have I3 := Lib.hid (And.intro (I2.out.1.trans (b.mono I2.out.1.size)) (I2.out.2.keep b))
                  clear b I2
                  go_wp2_with fail
                  go_roundg g2
                  case measure => omega
                  case rel => exact ⟨k + 1, by omega, by go_num, by rw [← HE.out], I3⟩
                · have HE := Lib.hid (show (⟨(rpT gs ra rm k).toArray⟩ : ByteArray) ++ ⟨#[58]⟩ ++ ⟨(hex (gs[k]'hkl)).toArray⟩ = ⟨(rpT gs ra rm (k + 1)).toArray⟩ by rw [show (⟨#[58]⟩ : ByteArray) = ⟨([58] : List UInt8).toArray⟩ from rfl, ByteArray.mk_append_mk, ByteArray.mk_append_mk, e2])
                  have hcn : ((c.toNat : Int) == 58) = false := by rw [beq_eq_false_iff_ne]; intro e; exact hc (UInt8.toNat_inj.1 (by show _ = 58; omega))
                  have hsz : (⟨(rpT gs ra rm k).toArray⟩ : ByteArray).size = t.length + 1 := by show (rpT gs ra rm k).length = _; rw [e1]; simp
                  have hI := fun W => last_index (⟨(rpT gs ra rm k).toArray⟩ : ByteArray) t c e1 W
                  have htl : t.length ≤ 81 := by rw [e1] at hlen; simp at hlen; omega
                  generalize (⟨(rpT gs ra rm k).toArray⟩ : ByteArray) = s at *
                  generalize hex (gs[k]'hkl) = hx at *
                  have hs0 : (0 : Int) < (s.size : Int) := by omega
                  have hs1 : ¬ 9223372036854775807 < s.size + hx.length := by omega
                  have hs2 : ¬ 9223372036854775807 < s.size + 1 := by omega
                  have hs3 : ¬ 9223372036854775807 < s.size + 1 + hx.length := by omega
                  have hs4 : (s.size : Int) ≤ 1000 := by omega
                  clear e1 e2 hlen hsz htl
                  go_wp2_with (refine wpList_load_blk 25 (.tmp 1) w.heap.size 25 cs _ I.out.2 (by rfl) (by rfl) Tryz.underlying25 rfl hs.out (by rfl) ?_)
                  refine (HC.out _).mono ?_
                  rintro e w3 ⟨rfl, b⟩
                  have I2 := Lib.hid (And.intro (I.out.1.trans (b.mono I.out.1.size)) (I.out.2.keep b))
                  clear b I
                  go_wp2_with fail
                  refine (HD.out _).mono ?_
                  rintro e w4 ⟨rfl, b⟩
                  have I3 := Lib.hid (And.intro (I2.out.1.trans (b.mono I2.out.1.size)) (I2.out.2.keep b))
                  clear b I2
                  go_wp2_with fail
                  go_roundg g2
                  case measure => omega
                  case rel => exact ⟨k + 1, by omega, by go_num, by rw [← HE.out], I3⟩
          · have hmode : rm ≤ 1 ∨ k < ra ∨ ra + rm ≤ k := .inl (by omega)
            have hm' : ¬ (1 : Int) < (rm : Int) := by omega
            rcases rpT_step gs hul hult ra rm k hk8 hmode with ⟨e1, e2⟩ | ⟨t, e1, e2⟩ | ⟨t, c, e1, hc, e2⟩
            · rw [e1]
              have HE := Lib.hid e2
              clear e1 e2 hlen
              go_wp2_with (refine wpList_load_blk 25 (.tmp 1) w.heap.size 25 cs _ I.out.2 (by rfl) (by rfl) Tryz.underlying25 rfl hs.out (by rfl) ?_)
              refine (HC.out _).mono ?_
              rintro e w3 ⟨rfl, b⟩
              have I2 := Lib.hid (And.intro (I.out.1.trans (b.mono I.out.1.size)) (I.out.2.keep b))
              clear b I
              go_wp2_with fail
              refine (HD.out _).mono ?_
              rintro e w4 ⟨rfl, b⟩
              have I3 := Lib.hid (And.intro (I2.out.1.trans (b.mono I2.out.1.size)) (I2.out.2.keep b))
              clear b I2
              go_wp2_with fail
              go_roundg g2
              case measure => omega
              case rel => exact ⟨k + 1, by omega, by go_num, by rw [HE.out]; rfl, I3⟩
            · have HE := Lib.hid (show (⟨(rpT gs ra rm k).toArray⟩ : ByteArray) ++ ⟨(hex (gs[k]'hkl)).toArray⟩ = ⟨(rpT gs ra rm (k + 1)).toArray⟩ by rw [ByteArray.mk_append_mk, e2])
              have hsz : (⟨(rpT gs ra rm k).toArray⟩ : ByteArray).size = t.length + 1 := by show (rpT gs ra rm k).length = _; rw [e1]; simp
              have hI := fun W => last_index (⟨(rpT gs ra rm k).toArray⟩ : ByteArray) t 58 e1 W
              have htl : t.length ≤ 81 := by rw [e1] at hlen; simp at hlen; omega
              generalize (⟨(rpT gs ra rm k).toArray⟩ : ByteArray) = s at *
              generalize hex (gs[k]'hkl) = hx at *
              have hs0 : (0 : Int) < (s.size : Int) := by omega
              have hs1 : ¬ 9223372036854775807 < s.size + hx.length := by omega
              have hs2 : ¬ 9223372036854775807 < s.size + 1 := by omega
              have hs3 : ¬ 9223372036854775807 < s.size + 1 + hx.length := by omega
              have hs4 : (s.size : Int) ≤ 1000 := by omega
              clear e1 e2 hlen hsz htl
              go_wp2_with (refine wpList_load_blk 25 (.tmp 1) w.heap.size 25 cs _ I.out.2 (by rfl) (by rfl) Tryz.underlying25 rfl hs.out (by rfl) ?_)
              refine (HC.out _).mono ?_
              rintro e w3 ⟨rfl, b⟩
              have I2 := Lib.hid (And.intro (I.out.1.trans (b.mono I.out.1.size)) (I.out.2.keep b))
              clear b I
              go_wp2_with fail
              refine (HD.out _).mono ?_
              rintro e w4 ⟨rfl, b⟩
              have I3 := Lib.hid (And.intro (I2.out.1.trans (b.mono I2.out.1.size)) (I2.out.2.keep b))
              clear b I2
              go_wp2_with fail
              go_roundg g2
              case measure => omega
              case rel => exact ⟨k + 1, by omega, by go_num, by rw [← HE.out], I3⟩
            · have HE := Lib.hid (show (⟨(rpT gs ra rm k).toArray⟩ : ByteArray) ++ ⟨#[58]⟩ ++ ⟨(hex (gs[k]'hkl)).toArray⟩ = ⟨(rpT gs ra rm (k + 1)).toArray⟩ by rw [show (⟨#[58]⟩ : ByteArray) = ⟨([58] : List UInt8).toArray⟩ from rfl, ByteArray.mk_append_mk, ByteArray.mk_append_mk, e2])
              have hcn : ((c.toNat : Int) == 58) = false := by rw [beq_eq_false_iff_ne]; intro e; exact hc (UInt8.toNat_inj.1 (by show _ = 58; omega))
              have hsz : (⟨(rpT gs ra rm k).toArray⟩ : ByteArray).size = t.length + 1 := by show (rpT gs ra rm k).length = _; rw [e1]; simp
              have hI := fun W => last_index (⟨(rpT gs ra rm k).toArray⟩ : ByteArray) t c e1 W
              have htl : t.length ≤ 81 := by rw [e1] at hlen; simp at hlen; omega
              generalize (⟨(rpT gs ra rm k).toArray⟩ : ByteArray) = s at *
              generalize hex (gs[k]'hkl) = hx at *
              have hs0 : (0 : Int) < (s.size : Int) := by omega
              have hs1 : ¬ 9223372036854775807 < s.size + hx.length := by omega
              have hs2 : ¬ 9223372036854775807 < s.size + 1 := by omega
              have hs3 : ¬ 9223372036854775807 < s.size + 1 + hx.length := by omega
              have hs4 : (s.size : Int) ≤ 1000 := by omega
              clear e1 e2 hlen hsz htl
              go_wp2_with (refine wpList_load_blk 25 (.tmp 1) w.heap.size 25 cs _ I.out.2 (by rfl) (by rfl) Tryz.underlying25 rfl hs.out (by rfl) ?_)
              refine (HC.out _).mono ?_
              rintro e w3 ⟨rfl, b⟩
              have I2 := Lib.hid (And.intro (I.out.1.trans (b.mono I.out.1.size)) (I.out.2.keep b))
              clear b I
              go_wp2_with fail
              refine (HD.out _).mono ?_
              rintro e w4 ⟨rfl, b⟩
              have I3 := Lib.hid (And.intro (I2.out.1.trans (b.mono I2.out.1.size)) (I2.out.2.keep b))
              clear b I2
              go_wp2_with fail
              go_roundg g2
              case measure => omega
              case rel => exact ⟨k + 1, by omega, by go_num, by rw [← HE.out], I3⟩
    | succ g =>
      have hk8 : k < 8 := by omega
      have hk8' : (k : Int) < 8 := by omega
      have hkl : k < gs.length := by omega
      have HN := Lib.hid (show rrun gs (k + 1) = if (rrun gs k).2 < zrun (gs.drop k) then (k, zrun (gs.drop k)) else rrun gs k from rfl)
      generalize rrun gs k = r at *
      obtain ⟨ra, rm⟩ := r
      dsimp only at *
      go_wp2_with fail
      go_loopg [6] (8 - k) (fun g2 n wr2 => ∃ j : Nat, k + j + g2 = 8 ∧ n = .int .i64 j ∧ Hid (zrun (gs.drop k) = j + zrun (gs.drop (k + j))) ∧ Hid (Below w.heap.size w wr2 ∧ Blk wr2 w.heap.size 25 cs))
      case atStart => exact ⟨0, by omega, rfl, Lib.hid (by simp), I⟩
      case round =>
        clear I
        obtain ⟨j, hjg, rfl, HZ, I⟩ := hrel
        -- the rest of the outer round, once the count is known
        cases gk with
        | zero =>
          have hz : zrun (gs.drop k) = j := by
            rw [HZ.out, show k + j = 8 by omega, List.drop_eq_nil_of_le (by omega)]
            rfl
          rw [hz] at HN
          have hkj' : ¬ (k : Int) + (j : Int) < 8 := by omega
          clear HZ hz
          by_cases hlt : rm < j
          · rw [if_pos hlt] at HN
            have hlt' : (rm : Int) < (j : Int) := by omega
            go_wp2_with fail
            go_roundg g
            case measure => omega
            case rel => exact ⟨k + 1, by omega, by go_num, Lib.hid (by rw [HN.out]; exact ⟨rfl, rfl⟩), I⟩
          · rw [if_neg hlt] at HN
            have hlt' : ¬ (rm : Int) < (j : Int) := by omega
            go_wp2_with fail
            go_roundg g
            case measure => omega
            case rel => exact ⟨k + 1, by omega, by go_num, Lib.hid (by rw [HN.out]; exact ⟨rfl, rfl⟩), I⟩
        | succ g2 =>
          have hkj : k + j < 8 := by omega
          have hkj' : (k : Int) + (j : Int) < 8 := by omega
          have hz1 := zrun_at gs (k + j) (by omega)
          have HC := Lib.hid (HG.out (k + j) hkj)
          rw [List.getElem?_eq_getElem (by omega : k + j < gs.length), Option.getD_some] at HC
          by_cases hx : gs[k + j]'(by omega) = 0
          · rw [if_pos hx] at hz1
            rw [hx] at HC
            have HZ2 := Lib.hid (show zrun (gs.drop k) = (j + 1) + zrun (gs.drop (k + (j + 1))) by rw [HZ.out, hz1, Nat.add_assoc k j 1]; omega)
            clear hz1 hx HZ
            go_wp2_with (refine wpList_load_blk 25 (.tmp 1) w.heap.size 25 cs _ I.out.2 (by rfl) (by rfl) Tryz.underlying25 rfl hs.out (by rfl) ?_)
            refine (HC.out _).mono ?_
            rintro e w3 ⟨rfl, b⟩
            have I2 := Lib.hid (And.intro (I.out.1.trans (b.mono I.out.1.size)) (I.out.2.keep b))
            clear b I
            go_wp2_with fail
            go_roundg g2
            case measure => omega
            case rel => exact ⟨j + 1, by omega, by go_num, HZ2, I2⟩
          · rw [if_neg hx] at hz1
            have hne : ((gs[k + j]'(by omega) : Int) == 0) = false := by rw [beq_eq_false_iff_ne]; omega
            have hz : zrun (gs.drop k) = j := by rw [HZ.out, hz1]; rfl
            rw [hz] at HN
            generalize gs[k + j]'(by omega) = x at *
            clear HZ hz hz1
            by_cases hlt : rm < j
            · rw [if_pos hlt] at HN
              have hlt' : (rm : Int) < (j : Int) := by omega
              go_wp2_with (refine wpList_load_blk 25 (.tmp 1) w.heap.size 25 cs _ I.out.2 (by rfl) (by rfl) Tryz.underlying25 rfl hs.out (by rfl) ?_)
              refine (HC.out _).mono ?_
              rintro e w3 ⟨rfl, b⟩
              have I2 := Lib.hid (And.intro (I.out.1.trans (b.mono I.out.1.size)) (I.out.2.keep b))
              clear b I
              go_wp2_with fail
              go_roundg g
              case measure => omega
              case rel => exact ⟨k + 1, by omega, by go_num, Lib.hid (by rw [HN.out]; exact ⟨rfl, rfl⟩), I2⟩
            · rw [if_neg hlt] at HN
              have hlt' : ¬ (rm : Int) < (j : Int) := by omega
              go_wp2_with (refine wpList_load_blk 25 (.tmp 1) w.heap.size 25 cs _ I.out.2 (by rfl) (by rfl) Tryz.underlying25 rfl hs.out (by rfl) ?_)
              refine (HC.out _).mono ?_
              rintro e w3 ⟨rfl, b⟩
              have I2 := Lib.hid (And.intro (I.out.1.trans (b.mono I.out.1.size)) (I.out.2.keep b))
              clear b I
              go_wp2_with fail
              go_roundg g
              case measure => omega
              case rel => exact ⟨k + 1, by omega, by go_num, Lib.hid (by rw [HN.out]; exact ⟨rfl, rfl⟩), I2⟩
end Go.Proofs.YtonafonhadocgaaGreatDoor

/- The reference's Ends. -/
namespace Go.Proofs.YtonafonhadocgaaGreatDoor
open Go.RowKit Go.Shelf

theorem rprint_any (v6 : Bool) (l : List UInt8) (hl : l.length = 16) (w : World) :
    Calls Tryz.prog 64 #[.agg (adC v6 l)] w fun e w' => e = .returned (.string ⟨(printT v6 l).toArray⟩) ∧ Below w.heap.size w w' := by
  cases v6 with
  | true => exact rprint_six l hl w
  | false => exact rprint_four l hl w

/-- In a region that draws its order: a load of a part of a block may be taken first. -/
theorem yieldsIf_load_part {P : Program} {ops : Array Oper} {o : Oper} {a : Act} {S : World → Prop} (ty : TypeId) (x : Operand) (g i : Nat) (t : TypeId) (all : Array Value) (cs : List Value) (d : TypeDesc) (hS : ∀ w, S w → Blk w g t all) (hp : (all.toList.drop i).take cs.length = cs)
    (ho : o.op = .load ty x) (hx : a.eval x = .pointer (some ⟨g, i, none⟩))
    (hu : P.underlying ty = some d) (hd : d.isRow = true) (hi : (P.info? ty).map (·.size) = some cs.length)
    (hw : Region.wanted o (yielded ops a.tmps) = true) : YieldsIf P ops S o (.agg cs.toArray) a :=
  .inl ⟨hw, fun w hw' => by
    unfold execOp
    simp only [ho, hx, Instr.loadAt, Instr.sureAddr, Sem.run_bind, Sem.run_pure, Result.andThen_ok, run_loadVar_mid w g i ty cs d ((hS w hw').range i cs hp) hu hd hi]⟩

/-- What the region reads. -/
def EHeld (g : Nat) (cs : Array Value) (p : Nat) (w : World) : Prop := Blk w g 28 cs ∧ w.cell? ⟨g, 17, none⟩ = some (.int .u16 (p : Int))
theorem EHeld.keep {g : Nat} {cs : Array Value} {p : Nat} {w w' : World} (h : EHeld g cs p w) (hb : Below w.heap.size w w') : EHeld g cs p w' := ⟨h.1.keep hb, cell_later hb h.2⟩

theorem rends_cat6 (t d : List UInt8) : (⟨#[91]⟩ : ByteArray) ++ ⟨t.toArray⟩ ++ ⟨#[93, 58]⟩ ++ ⟨d.toArray⟩ = ⟨(91 :: (t ++ 93 :: 58 :: d)).toArray⟩ := by
  rw [show (⟨#[91]⟩ : ByteArray) = ⟨([91] : List UInt8).toArray⟩ from rfl, show (⟨#[93, 58]⟩ : ByteArray) = ⟨([93, 58] : List UInt8).toArray⟩ from rfl, ByteArray.mk_append_mk, ByteArray.mk_append_mk, ByteArray.mk_append_mk]
  simp

set_option maxRecDepth 100000 in
set_option maxHeartbeats 8000000 in
theorem rends_any (v6 : Bool) (l : List UInt8) (p : Nat) (hl : l.length = 16) (hp : p < 65536) (w : World) :
    Calls Tryz.prog 45 #[.agg (enC v6 l p)] w fun e w' => e = .returned (.string ⟨(endsT v6 l p).toArray⟩) ∧ Below w.heap.size w w' := by
  have k := Blk.new w 28 (enC v6 l p)
  have B := Lib.hid ((Below.refl _ w).alloc (Nat.le_refl _) (.cells (enC v6 l p) 28))
  have HK := Lib.hid (show EHeld w.heap.size (enC v6 l p) p (w.alloc (.cells (enC v6 l p) 28)) from ⟨k, (k.cell 17).trans (enC_port v6 l p hl)⟩)
  have q0 : (w.alloc (.cells (enC v6 l p) 28)).cell? ⟨w.heap.size, 0, none⟩ = some (.bool v6) := k.cell 0
  clear k
  have HP := Lib.hid (fun W => rprint_any v6 l hl W)
  have HU := Lib.hid (fun W => digits10 p hp W)
  have HA := Lib.hid (enC_ad v6 l p hl)
  have HAI := Lib.hid (show (Tryz.prog.info? 25).map (·.size) = some (adC v6 l).toList.length by rw [adSize, Array.length_toList, adC_size _ _ hl])
  have hT := printT_len v6 l hl
  have hD := dec_len16 p hp
  have hpw : IntKind.i64.wrap (p : Int) = (p : Int) := by rw [IntKind.wrap_i64]; omega
  have HEV := Lib.hid (show endsT v6 l p = (if v6 then 91 :: (printT v6 l ++ [93]) else printT v6 l) ++ 58 :: dec p from rfl)
  generalize enC v6 l p = cs at *
  generalize adC v6 l = ac at *
  generalize printT v6 l = t at *
  generalize dec p = d at *
  generalize endsT v6 l p = ev at *
  clear hl
  have c1 : ¬ 9223372036854775807 < 1 + t.length := by omega
  have c2 : ¬ 9223372036854775807 < 1 + t.length + 2 := by omega
  have c3 : ¬ 9223372036854775807 < 1 + t.length + 2 + d.length := by omega
  have c4 : ¬ 9223372036854775807 < t.length + 1 := by omega
  have c5 : ¬ 9223372036854775807 < t.length + 1 + d.length := by omega
  have C := Lib.hid (And.intro c1 (And.intro c2 (And.intro c3 (And.intro c4 c5))))
  clear hT hD c1 c2 c3 c4 c5 hp
  cases v6 with
  | true =>
    go_enter Tryz.func45, Tryz.ntmps45
    go_upto_region 2 with fail
    clear q0
    refine wp_region_held_drew (S := EHeld w.heap.size cs p) (by kernel_rfl) (⟨HK.out.1, HK.out.2⟩) (fun hHeld => ?_)
    have BB := Lib.hid (below_drew B.out)
    clear B HK
    refine wpAnyH_take (i := 0) (oi := _) (v := ?_) rfl (by kernel_rfl) (by kernel_rfl) (by kernel_rfl) (fun _ _ _ h => h) (Or.inl ⟨by rfl, ?_⟩) (by assumption) ?_
    case refine_2 => (intro w hSw; (try unfold EHeld at hSw); go_simp <;> with_reducible rfl)
    try simp only [List.getElem_toArray, List.getElem_cons_zero, Act.put, List.setIfInBounds_toArray, List.set_cons_zero, List.set_cons_succ]
    refine wpAnyH_take (i := 1) (oi := _) (v := .agg ac.toList.toArray) rfl (by kernel_rfl) (by kernel_rfl) (by kernel_rfl) (fun _ _ _ h => h) (yieldsIf_load_part 25 (.tmp 6) w.heap.size 0 28 cs ac.toList _ (fun w h => h.1) HA.out (by rfl) (by rfl) Tryz.underlying25 rfl HAI.out (by rfl)) (by assumption) ?_
    try simp only [List.getElem_toArray, List.getElem_cons_zero, List.getElem_cons_succ, Act.put, List.setIfInBounds_toArray, List.set_cons_zero, List.set_cons_succ]
    refine wpAnyH_take (i := 5) (oi := _) (v := ?_) rfl (by kernel_rfl) (by kernel_rfl) (by kernel_rfl) (fun _ _ _ h => h) (Or.inl ⟨by rfl, ?_⟩) (by assumption) ?_
    case refine_2 => (intro w hSw; (try unfold EHeld at hSw); go_simp <;> with_reducible rfl)
    try simp only [List.getElem_toArray, List.getElem_cons_zero, List.getElem_cons_succ, Act.put, List.setIfInBounds_toArray, List.set_cons_zero, List.set_cons_succ]
    refine wpAnyH_take (i := 6) (oi := _) (v := ?_) rfl (by kernel_rfl) (by kernel_rfl) (by kernel_rfl) (fun _ _ _ h => h) (Or.inl ⟨by rfl, ?_⟩) (by assumption) ?_
    case refine_2 => (intro w hSw; (try unfold EHeld at hSw); go_simp <;> with_reducible rfl)
    try simp only [List.getElem_toArray, List.getElem_cons_zero, List.getElem_cons_succ, Act.put, List.setIfInBounds_toArray, List.set_cons_zero, List.set_cons_succ]
    refine wpAnyH_take (i := 7) (oi := _) (v := ?_) rfl (by kernel_rfl) (by kernel_rfl) (by kernel_rfl) (fun _ _ _ h => h) (Or.inl ⟨by rfl, ?_⟩) (by assumption) ?_
    case refine_2 => (intro w hSw; (try unfold EHeld at hSw); go_simp <;> with_reducible rfl)
    try simp only [List.getElem_toArray, List.getElem_cons_zero, List.getElem_cons_succ, Act.put, List.setIfInBounds_toArray, List.set_cons_zero, List.set_cons_succ]
    refine wpAnyH_ready (rs := [2]) (by kernel_rfl) (by simp) ?_
    refine AllReadyH.cons (o := _) rfl (fun K hK => ?_) AllReadyH.nil
    simp only [List.getElem_toArray, List.getElem_cons_zero, List.getElem_cons_succ]
    go_simp
    refine (HP.out _).mono ?_
    rintro e wn ⟨rfl, b⟩
    have Bn := Lib.hid (BB.out.trans (b.mono BB.out.size))
    have hH := hHeld.keep b
    clear b BB
    go_simp
    refine hK.out _ _ hH (fun hHeld2 => ?_)
    clear hK K hHeld hH
    have hHeld := hHeld2
    have BB := Bn
    clear hHeld2 Bn
    try simp only [List.getElem_toArray, List.getElem_cons_zero, List.getElem_cons_succ, Act.put, List.setIfInBounds_toArray, List.set_cons_zero, List.set_cons_succ]
    obtain ⟨c1, c2, c3, c4, c5⟩ := C.out
    refine wpAnyH_take (i := 3) (oi := _) (v := ?_) rfl (by kernel_rfl) (by kernel_rfl) (by kernel_rfl) (fun _ _ _ h => h) (Or.inl ⟨by rfl, ?_⟩) (by assumption) ?_
    case refine_2 => (intro w hSw; (try unfold EHeld at hSw); go_simp <;> with_reducible rfl)
    try simp only [List.getElem_toArray, List.getElem_cons_zero, List.getElem_cons_succ, Act.put, List.setIfInBounds_toArray, List.set_cons_zero, List.set_cons_succ]
    refine wpAnyH_take (i := 4) (oi := _) (v := ?_) rfl (by kernel_rfl) (by kernel_rfl) (by kernel_rfl) (fun _ _ _ h => h) (Or.inl ⟨by rfl, ?_⟩) (by assumption) ?_
    case refine_2 => (intro w hSw; (try unfold EHeld at hSw); go_simp <;> with_reducible rfl)
    try simp only [List.getElem_toArray, List.getElem_cons_zero, List.getElem_cons_succ, Act.put, List.setIfInBounds_toArray, List.set_cons_zero, List.set_cons_succ]
    clear c1 c2 c3 c4 c5
    refine wpAnyH_ready (rs := [8]) (by kernel_rfl) (by simp) ?_
    refine AllReadyH.cons (o := _) rfl (fun K hK => ?_) AllReadyH.nil
    simp only [List.getElem_toArray, List.getElem_cons_zero, List.getElem_cons_succ]
    go_simp
    refine (HU.out _).mono ?_
    rintro e wn ⟨rfl, b⟩
    have Bn := Lib.hid (BB.out.trans (b.mono BB.out.size))
    have hH := hHeld.keep b
    clear b BB
    go_simp
    refine hK.out _ _ hH (fun hHeld2 => ?_)
    clear hK K hHeld hH
    have hHeld := hHeld2
    have BB := Bn
    clear hHeld2 Bn
    try simp only [List.getElem_toArray, List.getElem_cons_zero, List.getElem_cons_succ, Act.put, List.setIfInBounds_toArray, List.set_cons_zero, List.set_cons_succ]
    obtain ⟨c1, c2, c3, c4, c5⟩ := C.out
    refine wpAnyH_take (i := 9) (oi := _) (v := ?_) rfl (by kernel_rfl) (by kernel_rfl) (by kernel_rfl) (fun _ _ _ h => h) (Or.inl ⟨by rfl, ?_⟩) (by assumption) ?_
    case refine_2 => (intro w hSw; (try unfold EHeld at hSw); go_simp <;> with_reducible rfl)
    try simp only [List.getElem_toArray, List.getElem_cons_zero, List.getElem_cons_succ, Act.put, List.setIfInBounds_toArray, List.set_cons_zero, List.set_cons_succ]
    clear c1 c2 c3 c4 c5
    refine wpAnyH_take (i := 10) (oi := _) (v := ?_) rfl (by kernel_rfl) (by kernel_rfl) (by kernel_rfl) (fun _ _ _ h => h) (Or.inl ⟨by rfl, ?_⟩) (by assumption) ?_
    case refine_2 => (intro w hSw; (try unfold EHeld at hSw); go_simp <;> with_reducible rfl)
    try simp only [List.getElem_toArray, List.getElem_cons_zero, List.getElem_cons_succ, Act.put, List.setIfInBounds_toArray, List.set_cons_zero, List.set_cons_succ]
    refine wpAnyH_done (by kernel_rfl) ?_ _
    clear hHeld
    go_wp2_with fail
    all_goals (go_ret; exact ⟨congrArg (fun x => Ending.returned (.string x)) (rends_cat6 t d) |>.trans (by rw [HEV.out]; simp), BB.out⟩)
  | false =>
    go_enter Tryz.func45, Tryz.ntmps45
    go_upto_region 3 with fail
    clear q0
    refine wp_region_held_drew (S := EHeld w.heap.size cs p) (by kernel_rfl) (⟨HK.out.1, HK.out.2⟩) (fun hHeld => ?_)
    have BB := Lib.hid (below_drew B.out)
    clear B HK
    refine wpAnyH_take (i := 0) (oi := _) (v := ?_) rfl (by kernel_rfl) (by kernel_rfl) (by kernel_rfl) (fun _ _ _ h => h) (Or.inl ⟨by rfl, ?_⟩) (by assumption) ?_
    case refine_2 => (intro w hSw; (try unfold EHeld at hSw); go_simp <;> with_reducible rfl)
    try simp only [List.getElem_toArray, List.getElem_cons_zero, Act.put, List.setIfInBounds_toArray, List.set_cons_zero, List.set_cons_succ]
    refine wpAnyH_take (i := 1) (oi := _) (v := .agg ac.toList.toArray) rfl (by kernel_rfl) (by kernel_rfl) (by kernel_rfl) (fun _ _ _ h => h) (yieldsIf_load_part 25 (.tmp 16) w.heap.size 0 28 cs ac.toList _ (fun w h => h.1) HA.out (by rfl) (by rfl) Tryz.underlying25 rfl HAI.out (by rfl)) (by assumption) ?_
    try simp only [List.getElem_toArray, List.getElem_cons_zero, List.getElem_cons_succ, Act.put, List.setIfInBounds_toArray, List.set_cons_zero, List.set_cons_succ]
    refine wpAnyH_take (i := 4) (oi := _) (v := ?_) rfl (by kernel_rfl) (by kernel_rfl) (by kernel_rfl) (fun _ _ _ h => h) (Or.inl ⟨by rfl, ?_⟩) (by assumption) ?_
    case refine_2 => (intro w hSw; (try unfold EHeld at hSw); go_simp <;> with_reducible rfl)
    try simp only [List.getElem_toArray, List.getElem_cons_zero, List.getElem_cons_succ, Act.put, List.setIfInBounds_toArray, List.set_cons_zero, List.set_cons_succ]
    refine wpAnyH_take (i := 5) (oi := _) (v := ?_) rfl (by kernel_rfl) (by kernel_rfl) (by kernel_rfl) (fun _ _ _ h => h) (Or.inl ⟨by rfl, ?_⟩) (by assumption) ?_
    case refine_2 => (intro w hSw; (try unfold EHeld at hSw); go_simp <;> with_reducible rfl)
    try simp only [List.getElem_toArray, List.getElem_cons_zero, List.getElem_cons_succ, Act.put, List.setIfInBounds_toArray, List.set_cons_zero, List.set_cons_succ]
    refine wpAnyH_take (i := 6) (oi := _) (v := ?_) rfl (by kernel_rfl) (by kernel_rfl) (by kernel_rfl) (fun _ _ _ h => h) (Or.inl ⟨by rfl, ?_⟩) (by assumption) ?_
    case refine_2 => (intro w hSw; (try unfold EHeld at hSw); go_simp <;> with_reducible rfl)
    try simp only [List.getElem_toArray, List.getElem_cons_zero, List.getElem_cons_succ, Act.put, List.setIfInBounds_toArray, List.set_cons_zero, List.set_cons_succ]
    refine wpAnyH_ready (rs := [2]) (by kernel_rfl) (by simp) ?_
    refine AllReadyH.cons (o := _) rfl (fun K hK => ?_) AllReadyH.nil
    simp only [List.getElem_toArray, List.getElem_cons_zero, List.getElem_cons_succ]
    go_simp
    refine (HP.out _).mono ?_
    rintro e wn ⟨rfl, b⟩
    have Bn := Lib.hid (BB.out.trans (b.mono BB.out.size))
    have hH := hHeld.keep b
    clear b BB
    go_simp
    refine hK.out _ _ hH (fun hHeld2 => ?_)
    clear hK K hHeld hH
    have hHeld := hHeld2
    have BB := Bn
    clear hHeld2 Bn
    try simp only [List.getElem_toArray, List.getElem_cons_zero, List.getElem_cons_succ, Act.put, List.setIfInBounds_toArray, List.set_cons_zero, List.set_cons_succ]
    obtain ⟨c1, c2, c3, c4, c5⟩ := C.out
    refine wpAnyH_take (i := 3) (oi := _) (v := ?_) rfl (by kernel_rfl) (by kernel_rfl) (by kernel_rfl) (fun _ _ _ h => h) (Or.inl ⟨by rfl, ?_⟩) (by assumption) ?_
    case refine_2 => (intro w hSw; (try unfold EHeld at hSw); go_simp <;> with_reducible rfl)
    try simp only [List.getElem_toArray, List.getElem_cons_zero, List.getElem_cons_succ, Act.put, List.setIfInBounds_toArray, List.set_cons_zero, List.set_cons_succ]
    clear c1 c2 c3 c4 c5
    refine wpAnyH_ready (rs := [7]) (by kernel_rfl) (by simp) ?_
    refine AllReadyH.cons (o := _) rfl (fun K hK => ?_) AllReadyH.nil
    simp only [List.getElem_toArray, List.getElem_cons_zero, List.getElem_cons_succ]
    go_simp
    refine (HU.out _).mono ?_
    rintro e wn ⟨rfl, b⟩
    have Bn := Lib.hid (BB.out.trans (b.mono BB.out.size))
    have hH := hHeld.keep b
    clear b BB
    go_simp
    refine hK.out _ _ hH (fun hHeld2 => ?_)
    clear hK K hHeld hH
    have hHeld := hHeld2
    have BB := Bn
    clear hHeld2 Bn
    try simp only [List.getElem_toArray, List.getElem_cons_zero, List.getElem_cons_succ, Act.put, List.setIfInBounds_toArray, List.set_cons_zero, List.set_cons_succ]
    obtain ⟨c1, c2, c3, c4, c5⟩ := C.out
    refine wpAnyH_take (i := 8) (oi := _) (v := ?_) rfl (by kernel_rfl) (by kernel_rfl) (by kernel_rfl) (fun _ _ _ h => h) (Or.inl ⟨by rfl, ?_⟩) (by assumption) ?_
    case refine_2 => (intro w hSw; (try unfold EHeld at hSw); go_simp <;> with_reducible rfl)
    try simp only [List.getElem_toArray, List.getElem_cons_zero, List.getElem_cons_succ, Act.put, List.setIfInBounds_toArray, List.set_cons_zero, List.set_cons_succ]
    clear c1 c2 c3 c4 c5
    refine wpAnyH_take (i := 9) (oi := _) (v := ?_) rfl (by kernel_rfl) (by kernel_rfl) (by kernel_rfl) (fun _ _ _ h => h) (Or.inl ⟨by rfl, ?_⟩) (by assumption) ?_
    case refine_2 => (intro w hSw; (try unfold EHeld at hSw); go_simp <;> with_reducible rfl)
    try simp only [List.getElem_toArray, List.getElem_cons_zero, List.getElem_cons_succ, Act.put, List.setIfInBounds_toArray, List.set_cons_zero, List.set_cons_succ]
    refine wpAnyH_done (by kernel_rfl) ?_ _
    clear hHeld
    go_wp2_with fail
    all_goals (go_ret; exact ⟨congrArg (fun x => Ending.returned (.string x)) (ends_cat4 t d) |>.trans (by rw [HEV.out]; simp), BB.out⟩)
end Go.Proofs.YtonafonhadocgaaGreatDoor

/- The reference's ParseEnds. -/
namespace Go.Proofs.YtonafonhadocgaaGreatDoor
open Go.RowKit Go.Shelf

set_option maxRecDepth 100000 in
set_option maxHeartbeats 64000000 in
theorem rparse_four (s : ByteArray) (hs : s.size < 4294967281) {bb : List UInt8} (hf : f4 s = some bb) (w : World) :
    Calls Tryz.prog 44 #[.string s] w fun e w' => e = .returned (rparseV s.data.toList) ∧ Below w.heap.size w w' := by
  obtain ⟨i5, hi5, hz50, hz51, hz52⟩ := info_parts info_u8p
  have Hi5 := Lib.hid hi5
  have Hz50 := Lib.hid hz50
  have Hz51 := Lib.hid hz51
  have Hz52 := Lib.hid hz52
  clear hi5 hz50 hz51 hz52
  obtain ⟨i33, hi33, hz330, hz331, hz332⟩ := info_parts info_bs
  have Hi33 := Lib.hid hi33
  have Hz330 := Lib.hid hz330
  have Hz331 := Lib.hid hz331
  have Hz332 := Lib.hid hz332
  clear hi33 hz330 hz331 hz332
  have HFo := Lib.hid (fun W => rfour_any s hs W)
  have HBz := Lib.hid (show Tryz.prog.built 25 [] = some (adC false z16) by kernel_rfl)
  have HSz := Lib.hid (show (Tryz.prog.info? 25).map (·.size) = some (adC false z16).size by rw [adC_size _ _ rfl]; exact adSize)
  have HK4 := Lib.hid (blk_second w)
  go_enter Tryz.func44, Tryz.ntmps44
  go_upto_region 2 with (first | ((with_reducible refine at_build 25 #[] ?_); refine wpList_build_eq 25 #[] (adC false z16) (by rfl) HBz.out (by rfl) ?_) | ((with_reducible refine at_store 25 (.tmp 4) (.tmp 20) ?_); refine wpList_store_blk 25 (.tmp 4) (.tmp 20) (w.heap.size + 1) 25 (adC false z16) (adC false z16) HK4.out (by rfl) (by rfl) (by rfl) (by rfl) HSz.out (by rfl) (by rfl) (by rfl) ?_; intro w1 hk1 hg1 hs1; have I1 := Lib.hid (RInv.first hk1 hg1); clear hk1 hg1 hs1))
  clear HK4
  go_wp2_with fail
  refine (HFo.out _).mono ?_
  rintro e w2 ⟨⟨v, rfl, hov, hnv⟩, b⟩
  have I2 := Lib.hid (I1.out.next b)
  clear b I1 HFo
  have hbl := f4_len hf
  have HR := Lib.hid (show rparseV s.data.toList = .tuple #[.agg (adC false (bb ++ List.replicate 12 0)), .bool true] by
    rw [rparseV, parseA, mkB_of, hf])
  rw [hf, Option.getD_some] at hov
  obtain ⟨gv, cv, rfl, hgv⟩ := own_at hov (n := 4) (by rw [bv_length, hbl]) (by omega)
  have HC := Lib.hid (fun (k : Nat) (hk : k < 4) => hov.cellAt k hk)
  have hcv := hov.rdv.2.1
  have hcv2 := hov.rdv.2.2.1
  have hgI := hov.blk_lt (g := gv) rfl
  have hsz1 := I2.out.size1
  have hbg : w.heap.size + 1 ≠ gv := by
    intro e
    have h1 := I2.out.adr
    rcases hov.2 with ⟨e1, _⟩ | ⟨g2, c2, cur2, e1, _, hg2, _⟩
    · cases e1
    · injection e1 with e1
      injection e1 with e1
      injection e1 with e1
      subst e1
      rw [← e] at hg2
      unfold Blk at h1
      rw [h1] at hg2
      injection hg2 with hg2
      injection hg2 with _ h3 _
      exact absurd h3 (by decide)
  clear hf hnv hov
  go_wp2_with fail
  go_loopw [6] (fun i wr => ∃ k : Nat, k ≤ 4 ∧ i = .int .i64 k ∧ Hid (RInv w false (fillB bb k) wr) ∧ Hid (∀ j, j < 4 → wr.cell? ⟨gv, j, none⟩ = (bv bb)[j]?)) (fun i _ => 4 - (intOf i).toNat)
  case atStart => exact ⟨0, by omega, rfl, Lib.hid (by rw [show fillB bb 0 = z16 by rw [fillB, List.take_zero]; rfl]; exact I2.out), HC⟩
  case round =>
    clear I2 HC
    obtain ⟨k, hk, rfl, I, HC⟩ := hrel
    by_cases hlt : k < 4
    · have hkl : k < bb.length := by omega
      have q1 : wr.cell? ⟨gv, k, none⟩ = some (.int .u8 ((bb[k]'hkl).toNat : Int)) := by
        rw [HC.out k hlt, bv, List.getElem?_map, List.getElem?_eq_getElem hkl]; rfl
      have q2 := (I.out.adr.cell (1 + k)).trans (adC_get false (fillB bb k) k (by rw [fillB_len bb k (by omega) (by omega)]; omega))
      have f2 := I.out.adr.frozen (1 + k)
      have HI := Lib.hid (show RInv w false (fillB bb (k + 1)) (wr.setCell ⟨w.heap.size + 1, 1 + k, none⟩ (.int .u8 ((bb[k]'hkl).toNat : Int))) by
        rw [← fillB_step bb k hkl (by omega)]; exact I.out.set_ k _)
      have HC2 := Lib.hid (show ∀ j, j < 4 → (wr.setCell ⟨w.heap.size + 1, 1 + k, none⟩ (.int .u8 ((bb[k]'hkl).toNat : Int))).cell? ⟨gv, j, none⟩ = (bv bb)[j]? from fun j hj => by
        rw [cell_far (by show gv ≠ w.heap.size + 1; omega)]; exact HC.out j hj)
      have hcv' : (k : Int) < 4 := by omega
      clear I HC
      generalize (bb[k]'hkl).toNat = x at *
      go_wp2_with fail
      go_roundw
      case rel => exact ⟨k + 1, by omega, by go_num, HI, HC2⟩
      case measure => simp [intOf]; omega
    · obtain rfl : k = 4 := by omega
      have HL := Lib.hid (show fillB bb 4 = bb ++ List.replicate 12 0 by rw [fillB, List.take_of_length_le (by omega)])
      rw [HL.out] at I
      have HS2 := Lib.hid (show (Tryz.prog.info? 25).map (·.size) = some (adC false (bb ++ List.replicate 12 0)).size by rw [adC_size _ _ (by simp [hbl])]; exact adSize)
      have HS3 := Lib.hid (show (adC false z16).size = (adC false (bb ++ List.replicate 12 0)).size by rw [adC_size false (bb ++ List.replicate 12 0) (by simp [hbl])]; rfl)
      have HS4 := Lib.hid (adC_size false (bb ++ List.replicate 12 0) (by simp [hbl]))
      go_wp2_with (first | (refine wpList_load_blk 25 (.tmp 4) (w.heap.size + 1) 25 (adC false (bb ++ List.replicate 12 0)) _ I.out.adr (by rfl) (by rfl) Tryz.underlying25 rfl HS2.out (by rfl) ?_) | ((with_reducible refine at_store 25 (.tmp 2) (.tmp 37) ?_); refine wpList_store_blk 25 (.tmp 2) (.tmp 37) w.heap.size 25 (adC false z16) (adC false (bb ++ List.replicate 12 0)) I.out.res (by rfl) (by rfl) (by rfl) (by rfl) HS2.out HS3.out (adC_one _ _) (by rfl) ?_; intro w9 hk9 hg9 hs9; have V9 := Lib.hid hk9; have G9 := Lib.hid (And.intro hg9 hs9); clear hk9 hg9 hs9))
      exact bodyPost_ret (v := .tuple #[.agg (adC false (bb ++ List.replicate 12 0)), .bool true]) (results_rad Tryz.results44 _ _ w.heap.size (adC false (bb ++ List.replicate 12 0)) rfl V9.out HS4.out) rfl ⟨by rw [HR.out], I.out.bel.grown G9.out.1 I.out.bel.size (fun k e => by cases e; exact Nat.le_refl _)⟩
end Go.Proofs.YtonafonhadocgaaGreatDoor
namespace Go.Proofs.YtonafonhadocgaaGreatDoor
open Go.RowKit Go.Shelf

theorem rparse_any (s : ByteArray) (hs : s.size < 4294967281) (w : World) :
    Calls Tryz.prog 44 #[.string s] w fun e w' => e = .returned (rparseV s.data.toList) ∧ Below w.heap.size w w' := by
  cases hf : f4 s with
  | some bb => exact rparse_four s hs hf w
  | none =>
    cases hc : (cutL s.data.toList).2.2 with
    | false => exact rparse_one s hs hf hc w
    | true =>
      by_cases hb : (cutL s.data.toList).2.1 = []
      · exact rparse_two_b s hs hf hc hb w
      · exact rparse_two_a s hs hf hc hb w
end Go.Proofs.YtonafonhadocgaaGreatDoor
namespace Go.Proofs.YtonafonhadocgaaGreatDoor
open Go.RowKit Go.Shelf

set_option maxRecDepth 100000 in
set_option maxHeartbeats 8000000 in
theorem rparseEnds_any (s : ByteArray) (hs : s.size < 4294967281) (w : World) :
    Calls Tryz.prog 25 #[.string s] w fun e w' => e = .returned (rpeV s) ∧ Below w.heap.size w w' := by
  have hl0 : s.data.toList.length = s.size := rfl
  have HB0 := Lib.hid (show Tryz.prog.built 28 [] = some (enC false z16 0) by kernel_rfl)
  have HSE0 := Lib.hid (show (Tryz.prog.info? 28).map (·.size) = some (enC false z16 0).size by rw [enC_size _ _ _ (by rfl)]; exact enSize)
  have I0 := Lib.hid (And.intro ((Below.refl _ w).alloc (Nat.le_refl _) (.cells (enC false z16 0) 28)) (Blk.new w 28 (enC false z16 0)))
  go_enter Tryz.func25, Tryz.ntmps25
  go_wp2_with fail
  go_loopw [4] (fun i wr => ∃ k : Nat, k ≤ s.size ∧ i = .int .i64 k ∧ Hid (∀ j n, j < k → s.data.toList[j]? = some 58 → numL (s.data.toList.drop (j + 1)) 65535 = some n → rAt s.data.toList j n = none) ∧ Hid (Below w.heap.size w wr ∧ Blk wr w.heap.size 28 (enC false z16 0))) (fun i _ => s.size - (intOf i).toNat)
  case atStart => exact ⟨0, by omega, rfl, Lib.hid (fun j n hj => by omega), I0⟩
  case round =>
    clear I0
    obtain ⟨k, hk, rfl, HA, I⟩ := hrel
    by_cases hlt : k < s.size
    · have HNU := Lib.hid (fun W => number_any (s.extract (k + 1) s.size) 65535 (by omega) (by rw [ByteArray.size_extract]; omega) W)
      rw [show (s.extract (k + 1) s.size).data.toList = s.data.toList.drop (k + 1) by
        rw [extract_mkB]
        show (s.data.toList.drop (k + 1)).take (s.size - (k + 1)) = _
        rw [List.take_of_length_le (by rw [List.length_drop]; omega)]] at HNU
      have hlt' : (k : Int) < (s.size : Int) := by omega
      obtain ⟨nn, hnn⟩ : ∃ nn, nn = numL (s.data.toList.drop (k + 1)) 65535 := ⟨_, rfl⟩
      have HNN := Lib.hid hnn.symm
      rw [← hnn] at HNU
      clear hnn
      go_wp2_with fail
      refine (HNU.out _).mono ?_
      rintro e w1 ⟨rfl, rfl⟩
      clear HNU
      cases nn with
      | none =>
        rw [show numV none = .int .i64 (-1) from rfl]
        have HNX := Lib.hid (show ∀ j n, j < k + 1 → s.data.toList[j]? = some 58 → numL (s.data.toList.drop (j + 1)) 65535 = some n → rAt s.data.toList j n = none from fun j n hj h58 hnum => by
          by_cases hjk : j < k
          · exact HA.out j n hjk h58 hnum
          · obtain rfl : j = k := by omega
            rw [HNN.out] at hnum
            cases hnum)
        clear HA HNN
        by_cases hc : s[k] = 58
        · have c58 : ((s[k].toNat : Int) == 58) = true := by rw [hc]; rfl
          have c58n : ((s[k].toNat : Int) != 58) = false := by rw [bne, c58]; rfl
          clear hc
          go_wp2_with fail
          go_roundw
          case rel => exact ⟨k + 1, by omega, by go_num, HNX, I⟩
          case measure => simp [intOf]; omega
        · have c58 : ((s[k].toNat : Int) == 58) = false := by
            rw [beq_eq_false_iff_ne]
            intro e
            exact hc (UInt8.toNat_inj.1 (by show _ = 58; omega))
          have c58n : ((s[k].toNat : Int) != 58) = true := by rw [bne, c58]; rfl
          clear hc
          go_wp2_with fail
          go_roundw
          case rel => exact ⟨k + 1, by omega, by go_num, HNX, I⟩
          case measure => simp [intOf]; omega
      | some n =>
        rw [show numV (some n) = .int .i64 (n : Int) from rfl]
        by_cases hc : s[k] = 58
        rotate_left
        · have HNX := Lib.hid (show ∀ j n, j < k + 1 → s.data.toList[j]? = some 58 → numL (s.data.toList.drop (j + 1)) 65535 = some n → rAt s.data.toList j n = none from fun j n hj h58 hnum => by
            by_cases hjk : j < k
            · exact HA.out j n hjk h58 hnum
            · obtain rfl : j = k := by omega
              rw [List.getElem?_eq_getElem (by omega)] at h58
              injection h58 with h58
              exact absurd h58 hc)
          clear HA HNN
          have c58 : ((s[k].toNat : Int) == 58) = false := by
            rw [beq_eq_false_iff_ne]
            intro e
            exact hc (UInt8.toNat_inj.1 (by show _ = 58; omega))
          have c58n : ((s[k].toNat : Int) != 58) = true := by rw [bne, c58]; rfl
          clear hc
          go_wp2_with fail
          go_roundw
          case rel => exact ⟨k + 1, by omega, by go_num, HNX, I⟩
          case measure => simp [intOf]; omega
        · have c58 : ((s[k].toNat : Int) == 58) = true := by rw [hc]; rfl
          have c58n : ((s[k].toNat : Int) != 58) = false := by rw [bne, c58]; rfl
          clear hc
          have hn16 : n < 65536 := numL_lt HNN.out
          have hn0 : ¬ (n : Int) < 0 := by omega
          have HX := Lib.hid (show (s.extract 0 k).data.toList = s.data.toList.take k by rw [extract_mkB]; simp [mkB])
          have hxs : (s.extract 0 k).size = k := by rw [Lib.size_eq, HX.out, List.length_take, hl0]; omega
          have hkk : k ≤ s.size := by omega
          go_upto_region 7 with fail
          generalize s.extract 0 k = x at *
          have hxle : x.size ≤ s.size := by omega
          clear hxs
          have hxl : x.data.toList.length = x.size := rfl
          have HYN := Lib.hid (show rtrim (s.data.toList.take k) = if 1 < x.size ∧ x.data.toList[0]? = some 91 ∧ x.data.toList[x.size - 1]? = some 93 then (x.data.toList.drop 1).take (x.size - 2) else x.data.toList by rw [rtrim, ← HX.out, hxl])
          clear HX
          by_cases h1 : 1 < x.size
          rotate_left
          · have h1' : ¬ (1 : Int) < (x.size : Int) := by omega
            go_upto_region 9 with fail
            obtain ⟨y, hy⟩ : ∃ y, y = x := ⟨_, rfl⟩
            have HY := Lib.hid (show parseA y.data.toList = parseA (rtrim (s.data.toList.take k)) by rw [hy, HYN.out, if_neg (fun h => h1 h.1)])
            have hys : y.size < 4294967281 := by rw [hy]; omega
            clear HYN h1
            subst hy
            have HPJ := Lib.hid (fun W => rparse_any y hys W)
            rw [show rparseV y.data.toList = .tuple #[.agg (adC (parse3 y.data.toList).1 (parse3 y.data.toList).2.1), .bool (parseA y.data.toList).isSome] by
              unfold rparseV parse3
              cases parseA y.data.toList <;> rfl] at HPJ
            have HRA := Lib.hid (show rAt s.data.toList k n = if (parseA y.data.toList).isSome = true ∧ endsT (parse3 y.data.toList).1 (parse3 y.data.toList).2.1 n = s.data.toList then some ((parse3 y.data.toList).1, (parse3 y.data.toList).2.1, n) else none by
              rw [rAt, ← HY.out]
              unfold parse3
              cases parseA y.data.toList with
              | none => rfl
              | some x =>
                by_cases he : endsT x.1 x.2 n = s.data.toList
                · simp [he]
                · simp [he])
            have hp3 := parse3_ok y.data.toList
            generalize (parseA y.data.toList).isSome = ok at *
            generalize parse3 y.data.toList = pr at *
            obtain ⟨v6, l, er⟩ := pr
            have hl : l.length = 16 := hp3.1
            clear hp3 HY
            dsimp only at *
            have HSA := Lib.hid (show (Tryz.prog.info? 25).map (·.size) = some (adC v6 l).size by rw [adC_size _ _ hl]; exact adSize)
            have HSZ := Lib.hid (show (adC false z16).size = (adC v6 l).size by rw [adC_size _ _ hl]; rfl)
            have HS1 := Lib.hid (adC_one v6 l)
            have hw16 : IntKind.u16.wrap (n : Int) = (n : Int) := by
              simp [IntKind.wrap, IntKind.bits, IntKind.signed]; omega
            have HBU := Lib.hid (built_en v6 l n hl)
            have HSE := Lib.hid (show (Tryz.prog.info? 28).map (·.size) = some (enC v6 l n).size by rw [enC_size _ _ _ hl]; exact enSize)
            have HSF := Lib.hid (show (enC false z16 0).size = (enC v6 l n).size by rw [enC_size _ _ _ hl]; rfl)
            have HS2 := Lib.hid (enC_one v6 l n)
            have HEN := Lib.hid (fun W => rends_any v6 l n hl hn16 W)
            have HZN := Lib.hid (enC_size v6 l n hl)
            clear hl
            go_wp2_with fail
            refine (HPJ.out _).mono ?_
            rintro e w2 ⟨rfl, b⟩
            have B3 := Lib.hid (I.out.1.trans (b.mono I.out.1.size))
            have K3 := Lib.hid (I.out.2.keep b)
            clear b HPJ I
            cases ok with
            | false =>
              go_wp2_with (first | (refine wpList_load_blk 25 (.tmp 7) w2.heap.size 25 (adC v6 l) _ K5.out (by rfl) (by rfl) Tryz.underlying25 rfl HSA.out (by rfl) ?_) | ((with_reducible refine at_build 28 #[(0, .tmp 58), (1, .tmp 60)] ?_); refine wpList_build_eq 28 #[(0, .tmp 58), (1, .tmp 60)] (enC v6 l n) (by rfl) HBU.out (by rfl) ?_) | ((with_reducible refine at_store 25 (.tmp 7) (.tmp 56) ?_); refine wpList_store_blk 25 (.tmp 7) (.tmp 56) w2.heap.size 25 (adC false z16) (adC v6 l) (Blk.new w2 25 (adC false z16)) (by rfl) (by rfl) (by rfl) (by rfl) HSA.out HSZ.out HS1.out (by rfl) ?_; intro w3 hk3 hg3 hs3; have K5 := Lib.hid hk3; have B4 := Lib.hid (print_world B3.out B3.out.size hg3); have K4 := Lib.hid ((K3.out.alloc _).grown hg3 (fun e => by have := Option.some.inj e; have := K3.out.lt; omega)); clear hk3 hg3 hs3) | ((with_reducible refine at_store 28 (.tmp 9) (.tmp 61) ?_); refine wpList_store_blk 28 (.tmp 9) (.tmp 61) w3.heap.size 28 (enC false z16 0) (enC v6 l n) (Blk.new w3 28 (enC false z16 0)) (by rfl) (by rfl) (by rfl) (by rfl) HSE.out HSF.out HS2.out (by rfl) ?_; intro w5 hk5 hg5 hs5; have K9 := Lib.hid hk5; have B6 := Lib.hid (print_world B4.out B4.out.size hg5); have K6 := Lib.hid ((K4.out.alloc _).grown hg5 (fun e => by have := Option.some.inj e; have := K4.out.lt; omega)); clear hk5 hg5 hs5))
              clear K5 K9
              have HNX := Lib.hid (show ∀ j n, j < k + 1 → s.data.toList[j]? = some 58 → numL (s.data.toList.drop (j + 1)) 65535 = some n → rAt s.data.toList j n = none from fun j n hj h58 hnum => by
                by_cases hjk : j < k
                · exact HA.out j n hjk h58 hnum
                · obtain rfl : j = k := by omega
                  rw [HNN.out] at hnum
                  injection hnum with hnum
                  rw [← hnum, HRA.out, if_neg (fun h => by cases h.1)])
              clear HRA HA
              go_roundw
              case rel => exact ⟨k + 1, by omega, by go_num, HNX, Lib.hid ⟨B6.out, K6.out⟩⟩
              case measure => simp [intOf]; omega
            | true =>
              go_wp2_with (first | (refine wpList_load_blk 25 (.tmp 7) w2.heap.size 25 (adC v6 l) _ K5.out (by rfl) (by rfl) Tryz.underlying25 rfl HSA.out (by rfl) ?_) | ((with_reducible refine at_build 28 #[(0, .tmp 58), (1, .tmp 60)] ?_); refine wpList_build_eq 28 #[(0, .tmp 58), (1, .tmp 60)] (enC v6 l n) (by rfl) HBU.out (by rfl) ?_) | ((with_reducible refine at_store 25 (.tmp 7) (.tmp 56) ?_); refine wpList_store_blk 25 (.tmp 7) (.tmp 56) w2.heap.size 25 (adC false z16) (adC v6 l) (Blk.new w2 25 (adC false z16)) (by rfl) (by rfl) (by rfl) (by rfl) HSA.out HSZ.out HS1.out (by rfl) ?_; intro w3 hk3 hg3 hs3; have K5 := Lib.hid hk3; have B4 := Lib.hid (print_world B3.out B3.out.size hg3); have K4 := Lib.hid ((K3.out.alloc _).grown hg3 (fun e => by have := Option.some.inj e; have := K3.out.lt; omega)); clear hk3 hg3 hs3) | ((with_reducible refine at_store 28 (.tmp 9) (.tmp 61) ?_); refine wpList_store_blk 28 (.tmp 9) (.tmp 61) w3.heap.size 28 (enC false z16 0) (enC v6 l n) (Blk.new w3 28 (enC false z16 0)) (by rfl) (by rfl) (by rfl) (by rfl) HSE.out HSF.out HS2.out (by rfl) ?_; intro w5 hk5 hg5 hs5; have K9 := Lib.hid hk5; have B6 := Lib.hid (print_world B4.out B4.out.size hg5); have K6 := Lib.hid ((K4.out.alloc _).grown hg5 (fun e => by have := Option.some.inj e; have := K4.out.lt; omega)); clear hk5 hg5 hs5) | (refine wpList_load_blk 28 (.tmp 9) w3.heap.size 28 (enC v6 l n) _ K9.out (by rfl) (by rfl) Tryz.underlying28 rfl HSE.out (by rfl) ?_))
              refine (HEN.out _).mono ?_
              rintro e w6 ⟨rfl, b⟩
              have K7 := Lib.hid (K6.out.keep b)
              have K10 := Lib.hid (K9.out.keep b)
              have B7 := Lib.hid (B6.out.trans (b.mono B6.out.size))
              clear b K6 K9 B6 HEN
              by_cases hts : endsT v6 l n = s.data.toList
              · have HR := Lib.hid (show rpeV s = .tuple #[.agg (enC v6 l n), .bool true] by
                  have h1 := rAt_sound hn16 (show rAt s.data.toList k n = some (v6, l, n) by rw [HRA.out, if_pos ⟨by trivial, hts⟩])
                  rw [mkB_of] at h1
                  rw [rpeV, h1])
                rw [hts]
                clear HRA HA hts
                go_wp2_with (first | (refine wpList_load_blk 28 (.tmp 9) w3.heap.size 28 (enC v6 l n) _ K10.out (by rfl) (by rfl) Tryz.underlying28 rfl HSE.out (by rfl) ?_) | ((with_reducible refine at_store 28 (.tmp 2) (.tmp 69) ?_); refine wpList_store_blk 28 (.tmp 2) (.tmp 69) w.heap.size 28 (enC false z16 0) (enC v6 l n) K7.out (by rfl) (by rfl) (by rfl) (by rfl) HSE.out HSF.out HS2.out (by rfl) ?_; intro w9 hk9 hg9 hs9; have V9 := Lib.hid hk9; have G9 := Lib.hid (And.intro hg9 hs9); clear hk9 hg9 hs9))
                exact bodyPost_ret (v := .tuple #[.agg (enC v6 l n), .bool true]) (results_en Tryz.results25 _ _ w.heap.size (enC v6 l n) rfl V9.out HZN.out) rfl ⟨by rw [HR.out], B7.out.grown G9.out.1 B7.out.size (fun k e => by cases e; exact Nat.le_refl _)⟩
              · have hne : ((⟨(endsT v6 l n).toArray⟩ : ByteArray).toList == s.toList) = false := str_ne (fun e => hts (by rw [← e]))
                have hne2 : (endsT v6 l n == s.toList) = false := by
                  rw [beq_eq_false_iff_ne]
                  intro e
                  rw [ByteArray.toList_eq] at e
                  exact hts e
                have HNX := Lib.hid (show ∀ j n, j < k + 1 → s.data.toList[j]? = some 58 → numL (s.data.toList.drop (j + 1)) 65535 = some n → rAt s.data.toList j n = none from fun j n hj h58 hnum => by
                  by_cases hjk : j < k
                  · exact HA.out j n hjk h58 hnum
                  · obtain rfl : j = k := by omega
                    rw [HNN.out] at hnum
                    injection hnum with hnum
                    rw [← hnum, HRA.out, if_neg (fun h => hts h.2)])
                clear HRA HA hts
                generalize endsT v6 l n = t at *
                go_wp2_with fail
                go_roundw
                case rel => exact ⟨k + 1, by omega, by go_num, HNX, Lib.hid ⟨B7.out, K7.out⟩⟩
                case measure => simp [intOf]; omega
          by_cases h2 : x[0]'(by omega) = 91
          rotate_left
          · have h1' : (1 : Int) < (x.size : Int) := by omega
            have hx0 : 0 < x.size := by omega
            have c2 : ((x[0].toNat : Int) == 91) = false := by
              rw [beq_eq_false_iff_ne]
              intro e
              exact h2 (UInt8.toNat_inj.1 (by show _ = 91; omega))
            have H2 := Lib.hid h2
            clear h2
            go_upto_region 9 with fail
            obtain ⟨y, hy⟩ : ∃ y, y = x := ⟨_, rfl⟩
            have HY := Lib.hid (show parseA y.data.toList = parseA (rtrim (s.data.toList.take k)) by rw [hy, HYN.out, if_neg (fun h => H2.out (by have h3 := h.2.1; rw [List.getElem?_eq_getElem (by omega)] at h3; injection h3))])
            have hys : y.size < 4294967281 := by rw [hy]; omega
            clear HYN H2
            subst hy
            have HPJ := Lib.hid (fun W => rparse_any y hys W)
            rw [show rparseV y.data.toList = .tuple #[.agg (adC (parse3 y.data.toList).1 (parse3 y.data.toList).2.1), .bool (parseA y.data.toList).isSome] by
              unfold rparseV parse3
              cases parseA y.data.toList <;> rfl] at HPJ
            have HRA := Lib.hid (show rAt s.data.toList k n = if (parseA y.data.toList).isSome = true ∧ endsT (parse3 y.data.toList).1 (parse3 y.data.toList).2.1 n = s.data.toList then some ((parse3 y.data.toList).1, (parse3 y.data.toList).2.1, n) else none by
              rw [rAt, ← HY.out]
              unfold parse3
              cases parseA y.data.toList with
              | none => rfl
              | some x =>
                by_cases he : endsT x.1 x.2 n = s.data.toList
                · simp [he]
                · simp [he])
            have hp3 := parse3_ok y.data.toList
            generalize (parseA y.data.toList).isSome = ok at *
            generalize parse3 y.data.toList = pr at *
            obtain ⟨v6, l, er⟩ := pr
            have hl : l.length = 16 := hp3.1
            clear hp3 HY
            dsimp only at *
            have HSA := Lib.hid (show (Tryz.prog.info? 25).map (·.size) = some (adC v6 l).size by rw [adC_size _ _ hl]; exact adSize)
            have HSZ := Lib.hid (show (adC false z16).size = (adC v6 l).size by rw [adC_size _ _ hl]; rfl)
            have HS1 := Lib.hid (adC_one v6 l)
            have hw16 : IntKind.u16.wrap (n : Int) = (n : Int) := by
              simp [IntKind.wrap, IntKind.bits, IntKind.signed]; omega
            have HBU := Lib.hid (built_en v6 l n hl)
            have HSE := Lib.hid (show (Tryz.prog.info? 28).map (·.size) = some (enC v6 l n).size by rw [enC_size _ _ _ hl]; exact enSize)
            have HSF := Lib.hid (show (enC false z16 0).size = (enC v6 l n).size by rw [enC_size _ _ _ hl]; rfl)
            have HS2 := Lib.hid (enC_one v6 l n)
            have HEN := Lib.hid (fun W => rends_any v6 l n hl hn16 W)
            have HZN := Lib.hid (enC_size v6 l n hl)
            clear hl
            go_wp2_with fail
            refine (HPJ.out _).mono ?_
            rintro e w2 ⟨rfl, b⟩
            have B3 := Lib.hid (I.out.1.trans (b.mono I.out.1.size))
            have K3 := Lib.hid (I.out.2.keep b)
            clear b HPJ I
            cases ok with
            | false =>
              go_wp2_with (first | (refine wpList_load_blk 25 (.tmp 7) w2.heap.size 25 (adC v6 l) _ K5.out (by rfl) (by rfl) Tryz.underlying25 rfl HSA.out (by rfl) ?_) | ((with_reducible refine at_build 28 #[(0, .tmp 58), (1, .tmp 60)] ?_); refine wpList_build_eq 28 #[(0, .tmp 58), (1, .tmp 60)] (enC v6 l n) (by rfl) HBU.out (by rfl) ?_) | ((with_reducible refine at_store 25 (.tmp 7) (.tmp 56) ?_); refine wpList_store_blk 25 (.tmp 7) (.tmp 56) w2.heap.size 25 (adC false z16) (adC v6 l) (Blk.new w2 25 (adC false z16)) (by rfl) (by rfl) (by rfl) (by rfl) HSA.out HSZ.out HS1.out (by rfl) ?_; intro w3 hk3 hg3 hs3; have K5 := Lib.hid hk3; have B4 := Lib.hid (print_world B3.out B3.out.size hg3); have K4 := Lib.hid ((K3.out.alloc _).grown hg3 (fun e => by have := Option.some.inj e; have := K3.out.lt; omega)); clear hk3 hg3 hs3) | ((with_reducible refine at_store 28 (.tmp 9) (.tmp 61) ?_); refine wpList_store_blk 28 (.tmp 9) (.tmp 61) w3.heap.size 28 (enC false z16 0) (enC v6 l n) (Blk.new w3 28 (enC false z16 0)) (by rfl) (by rfl) (by rfl) (by rfl) HSE.out HSF.out HS2.out (by rfl) ?_; intro w5 hk5 hg5 hs5; have K9 := Lib.hid hk5; have B6 := Lib.hid (print_world B4.out B4.out.size hg5); have K6 := Lib.hid ((K4.out.alloc _).grown hg5 (fun e => by have := Option.some.inj e; have := K4.out.lt; omega)); clear hk5 hg5 hs5))
              clear K5 K9
              have HNX := Lib.hid (show ∀ j n, j < k + 1 → s.data.toList[j]? = some 58 → numL (s.data.toList.drop (j + 1)) 65535 = some n → rAt s.data.toList j n = none from fun j n hj h58 hnum => by
                by_cases hjk : j < k
                · exact HA.out j n hjk h58 hnum
                · obtain rfl : j = k := by omega
                  rw [HNN.out] at hnum
                  injection hnum with hnum
                  rw [← hnum, HRA.out, if_neg (fun h => by cases h.1)])
              clear HRA HA
              go_roundw
              case rel => exact ⟨k + 1, by omega, by go_num, HNX, Lib.hid ⟨B6.out, K6.out⟩⟩
              case measure => simp [intOf]; omega
            | true =>
              go_wp2_with (first | (refine wpList_load_blk 25 (.tmp 7) w2.heap.size 25 (adC v6 l) _ K5.out (by rfl) (by rfl) Tryz.underlying25 rfl HSA.out (by rfl) ?_) | ((with_reducible refine at_build 28 #[(0, .tmp 58), (1, .tmp 60)] ?_); refine wpList_build_eq 28 #[(0, .tmp 58), (1, .tmp 60)] (enC v6 l n) (by rfl) HBU.out (by rfl) ?_) | ((with_reducible refine at_store 25 (.tmp 7) (.tmp 56) ?_); refine wpList_store_blk 25 (.tmp 7) (.tmp 56) w2.heap.size 25 (adC false z16) (adC v6 l) (Blk.new w2 25 (adC false z16)) (by rfl) (by rfl) (by rfl) (by rfl) HSA.out HSZ.out HS1.out (by rfl) ?_; intro w3 hk3 hg3 hs3; have K5 := Lib.hid hk3; have B4 := Lib.hid (print_world B3.out B3.out.size hg3); have K4 := Lib.hid ((K3.out.alloc _).grown hg3 (fun e => by have := Option.some.inj e; have := K3.out.lt; omega)); clear hk3 hg3 hs3) | ((with_reducible refine at_store 28 (.tmp 9) (.tmp 61) ?_); refine wpList_store_blk 28 (.tmp 9) (.tmp 61) w3.heap.size 28 (enC false z16 0) (enC v6 l n) (Blk.new w3 28 (enC false z16 0)) (by rfl) (by rfl) (by rfl) (by rfl) HSE.out HSF.out HS2.out (by rfl) ?_; intro w5 hk5 hg5 hs5; have K9 := Lib.hid hk5; have B6 := Lib.hid (print_world B4.out B4.out.size hg5); have K6 := Lib.hid ((K4.out.alloc _).grown hg5 (fun e => by have := Option.some.inj e; have := K4.out.lt; omega)); clear hk5 hg5 hs5) | (refine wpList_load_blk 28 (.tmp 9) w3.heap.size 28 (enC v6 l n) _ K9.out (by rfl) (by rfl) Tryz.underlying28 rfl HSE.out (by rfl) ?_))
              refine (HEN.out _).mono ?_
              rintro e w6 ⟨rfl, b⟩
              have K7 := Lib.hid (K6.out.keep b)
              have K10 := Lib.hid (K9.out.keep b)
              have B7 := Lib.hid (B6.out.trans (b.mono B6.out.size))
              clear b K6 K9 B6 HEN
              by_cases hts : endsT v6 l n = s.data.toList
              · have HR := Lib.hid (show rpeV s = .tuple #[.agg (enC v6 l n), .bool true] by
                  have h1 := rAt_sound hn16 (show rAt s.data.toList k n = some (v6, l, n) by rw [HRA.out, if_pos ⟨by trivial, hts⟩])
                  rw [mkB_of] at h1
                  rw [rpeV, h1])
                rw [hts]
                clear HRA HA hts
                go_wp2_with (first | (refine wpList_load_blk 28 (.tmp 9) w3.heap.size 28 (enC v6 l n) _ K10.out (by rfl) (by rfl) Tryz.underlying28 rfl HSE.out (by rfl) ?_) | ((with_reducible refine at_store 28 (.tmp 2) (.tmp 69) ?_); refine wpList_store_blk 28 (.tmp 2) (.tmp 69) w.heap.size 28 (enC false z16 0) (enC v6 l n) K7.out (by rfl) (by rfl) (by rfl) (by rfl) HSE.out HSF.out HS2.out (by rfl) ?_; intro w9 hk9 hg9 hs9; have V9 := Lib.hid hk9; have G9 := Lib.hid (And.intro hg9 hs9); clear hk9 hg9 hs9))
                exact bodyPost_ret (v := .tuple #[.agg (enC v6 l n), .bool true]) (results_en Tryz.results25 _ _ w.heap.size (enC v6 l n) rfl V9.out HZN.out) rfl ⟨by rw [HR.out], B7.out.grown G9.out.1 B7.out.size (fun k e => by cases e; exact Nat.le_refl _)⟩
              · have hne : ((⟨(endsT v6 l n).toArray⟩ : ByteArray).toList == s.toList) = false := str_ne (fun e => hts (by rw [← e]))
                have hne2 : (endsT v6 l n == s.toList) = false := by
                  rw [beq_eq_false_iff_ne]
                  intro e
                  rw [ByteArray.toList_eq] at e
                  exact hts e
                have HNX := Lib.hid (show ∀ j n, j < k + 1 → s.data.toList[j]? = some 58 → numL (s.data.toList.drop (j + 1)) 65535 = some n → rAt s.data.toList j n = none from fun j n hj h58 hnum => by
                  by_cases hjk : j < k
                  · exact HA.out j n hjk h58 hnum
                  · obtain rfl : j = k := by omega
                    rw [HNN.out] at hnum
                    injection hnum with hnum
                    rw [← hnum, HRA.out, if_neg (fun h => hts h.2)])
                clear HRA HA hts
                generalize endsT v6 l n = t at *
                go_wp2_with fail
                go_roundw
                case rel => exact ⟨k + 1, by omega, by go_num, HNX, Lib.hid ⟨B7.out, K7.out⟩⟩
                case measure => simp [intOf]; omega
          by_cases h3 : x[x.size - 1]'(by omega) = 93
          rotate_left
          · have h1' : (1 : Int) < (x.size : Int) := by omega
            have hx0 : 0 < x.size := by omega
            have c2 : ((x[0].toNat : Int) == 91) = true := by rw [h2]; rfl
            have hxw : (x.size : Int) - 1 < (x.size : Int) := by omega
            have hxw0 : (0 : Int) ≤ (x.size : Int) - 1 := by omega
            have hxn : ((x.size : Int) - 1).toNat = x.size - 1 := by omega
            have c3 : ((x[x.size - 1].toNat : Int) == 93) = false := by
              rw [beq_eq_false_iff_ne]
              intro e
              exact h3 (UInt8.toNat_inj.1 (by show _ = 93; omega))
            have H2 := Lib.hid h2
            have H3 := Lib.hid h3
            clear h2 h3
            go_upto_region 9 with fail
            obtain ⟨y, hy⟩ : ∃ y, y = x := ⟨_, rfl⟩
            have HY := Lib.hid (show parseA y.data.toList = parseA (rtrim (s.data.toList.take k)) by rw [hy, HYN.out, if_neg (fun h => H3.out (by have h4 := h.2.2; rw [List.getElem?_eq_getElem (by omega)] at h4; injection h4))])
            have hys : y.size < 4294967281 := by rw [hy]; omega
            clear HYN H2 H3
            subst hy
            have HPJ := Lib.hid (fun W => rparse_any y hys W)
            rw [show rparseV y.data.toList = .tuple #[.agg (adC (parse3 y.data.toList).1 (parse3 y.data.toList).2.1), .bool (parseA y.data.toList).isSome] by
              unfold rparseV parse3
              cases parseA y.data.toList <;> rfl] at HPJ
            have HRA := Lib.hid (show rAt s.data.toList k n = if (parseA y.data.toList).isSome = true ∧ endsT (parse3 y.data.toList).1 (parse3 y.data.toList).2.1 n = s.data.toList then some ((parse3 y.data.toList).1, (parse3 y.data.toList).2.1, n) else none by
              rw [rAt, ← HY.out]
              unfold parse3
              cases parseA y.data.toList with
              | none => rfl
              | some x =>
                by_cases he : endsT x.1 x.2 n = s.data.toList
                · simp [he]
                · simp [he])
            have hp3 := parse3_ok y.data.toList
            generalize (parseA y.data.toList).isSome = ok at *
            generalize parse3 y.data.toList = pr at *
            obtain ⟨v6, l, er⟩ := pr
            have hl : l.length = 16 := hp3.1
            clear hp3 HY
            dsimp only at *
            have HSA := Lib.hid (show (Tryz.prog.info? 25).map (·.size) = some (adC v6 l).size by rw [adC_size _ _ hl]; exact adSize)
            have HSZ := Lib.hid (show (adC false z16).size = (adC v6 l).size by rw [adC_size _ _ hl]; rfl)
            have HS1 := Lib.hid (adC_one v6 l)
            have hw16 : IntKind.u16.wrap (n : Int) = (n : Int) := by
              simp [IntKind.wrap, IntKind.bits, IntKind.signed]; omega
            have HBU := Lib.hid (built_en v6 l n hl)
            have HSE := Lib.hid (show (Tryz.prog.info? 28).map (·.size) = some (enC v6 l n).size by rw [enC_size _ _ _ hl]; exact enSize)
            have HSF := Lib.hid (show (enC false z16 0).size = (enC v6 l n).size by rw [enC_size _ _ _ hl]; rfl)
            have HS2 := Lib.hid (enC_one v6 l n)
            have HEN := Lib.hid (fun W => rends_any v6 l n hl hn16 W)
            have HZN := Lib.hid (enC_size v6 l n hl)
            clear hl
            go_wp2_with fail
            refine (HPJ.out _).mono ?_
            rintro e w2 ⟨rfl, b⟩
            have B3 := Lib.hid (I.out.1.trans (b.mono I.out.1.size))
            have K3 := Lib.hid (I.out.2.keep b)
            clear b HPJ I
            cases ok with
            | false =>
              go_wp2_with (first | (refine wpList_load_blk 25 (.tmp 7) w2.heap.size 25 (adC v6 l) _ K5.out (by rfl) (by rfl) Tryz.underlying25 rfl HSA.out (by rfl) ?_) | ((with_reducible refine at_build 28 #[(0, .tmp 58), (1, .tmp 60)] ?_); refine wpList_build_eq 28 #[(0, .tmp 58), (1, .tmp 60)] (enC v6 l n) (by rfl) HBU.out (by rfl) ?_) | ((with_reducible refine at_store 25 (.tmp 7) (.tmp 56) ?_); refine wpList_store_blk 25 (.tmp 7) (.tmp 56) w2.heap.size 25 (adC false z16) (adC v6 l) (Blk.new w2 25 (adC false z16)) (by rfl) (by rfl) (by rfl) (by rfl) HSA.out HSZ.out HS1.out (by rfl) ?_; intro w3 hk3 hg3 hs3; have K5 := Lib.hid hk3; have B4 := Lib.hid (print_world B3.out B3.out.size hg3); have K4 := Lib.hid ((K3.out.alloc _).grown hg3 (fun e => by have := Option.some.inj e; have := K3.out.lt; omega)); clear hk3 hg3 hs3) | ((with_reducible refine at_store 28 (.tmp 9) (.tmp 61) ?_); refine wpList_store_blk 28 (.tmp 9) (.tmp 61) w3.heap.size 28 (enC false z16 0) (enC v6 l n) (Blk.new w3 28 (enC false z16 0)) (by rfl) (by rfl) (by rfl) (by rfl) HSE.out HSF.out HS2.out (by rfl) ?_; intro w5 hk5 hg5 hs5; have K9 := Lib.hid hk5; have B6 := Lib.hid (print_world B4.out B4.out.size hg5); have K6 := Lib.hid ((K4.out.alloc _).grown hg5 (fun e => by have := Option.some.inj e; have := K4.out.lt; omega)); clear hk5 hg5 hs5))
              clear K5 K9
              have HNX := Lib.hid (show ∀ j n, j < k + 1 → s.data.toList[j]? = some 58 → numL (s.data.toList.drop (j + 1)) 65535 = some n → rAt s.data.toList j n = none from fun j n hj h58 hnum => by
                by_cases hjk : j < k
                · exact HA.out j n hjk h58 hnum
                · obtain rfl : j = k := by omega
                  rw [HNN.out] at hnum
                  injection hnum with hnum
                  rw [← hnum, HRA.out, if_neg (fun h => by cases h.1)])
              clear HRA HA
              go_roundw
              case rel => exact ⟨k + 1, by omega, by go_num, HNX, Lib.hid ⟨B6.out, K6.out⟩⟩
              case measure => simp [intOf]; omega
            | true =>
              go_wp2_with (first | (refine wpList_load_blk 25 (.tmp 7) w2.heap.size 25 (adC v6 l) _ K5.out (by rfl) (by rfl) Tryz.underlying25 rfl HSA.out (by rfl) ?_) | ((with_reducible refine at_build 28 #[(0, .tmp 58), (1, .tmp 60)] ?_); refine wpList_build_eq 28 #[(0, .tmp 58), (1, .tmp 60)] (enC v6 l n) (by rfl) HBU.out (by rfl) ?_) | ((with_reducible refine at_store 25 (.tmp 7) (.tmp 56) ?_); refine wpList_store_blk 25 (.tmp 7) (.tmp 56) w2.heap.size 25 (adC false z16) (adC v6 l) (Blk.new w2 25 (adC false z16)) (by rfl) (by rfl) (by rfl) (by rfl) HSA.out HSZ.out HS1.out (by rfl) ?_; intro w3 hk3 hg3 hs3; have K5 := Lib.hid hk3; have B4 := Lib.hid (print_world B3.out B3.out.size hg3); have K4 := Lib.hid ((K3.out.alloc _).grown hg3 (fun e => by have := Option.some.inj e; have := K3.out.lt; omega)); clear hk3 hg3 hs3) | ((with_reducible refine at_store 28 (.tmp 9) (.tmp 61) ?_); refine wpList_store_blk 28 (.tmp 9) (.tmp 61) w3.heap.size 28 (enC false z16 0) (enC v6 l n) (Blk.new w3 28 (enC false z16 0)) (by rfl) (by rfl) (by rfl) (by rfl) HSE.out HSF.out HS2.out (by rfl) ?_; intro w5 hk5 hg5 hs5; have K9 := Lib.hid hk5; have B6 := Lib.hid (print_world B4.out B4.out.size hg5); have K6 := Lib.hid ((K4.out.alloc _).grown hg5 (fun e => by have := Option.some.inj e; have := K4.out.lt; omega)); clear hk5 hg5 hs5) | (refine wpList_load_blk 28 (.tmp 9) w3.heap.size 28 (enC v6 l n) _ K9.out (by rfl) (by rfl) Tryz.underlying28 rfl HSE.out (by rfl) ?_))
              refine (HEN.out _).mono ?_
              rintro e w6 ⟨rfl, b⟩
              have K7 := Lib.hid (K6.out.keep b)
              have K10 := Lib.hid (K9.out.keep b)
              have B7 := Lib.hid (B6.out.trans (b.mono B6.out.size))
              clear b K6 K9 B6 HEN
              by_cases hts : endsT v6 l n = s.data.toList
              · have HR := Lib.hid (show rpeV s = .tuple #[.agg (enC v6 l n), .bool true] by
                  have h1 := rAt_sound hn16 (show rAt s.data.toList k n = some (v6, l, n) by rw [HRA.out, if_pos ⟨by trivial, hts⟩])
                  rw [mkB_of] at h1
                  rw [rpeV, h1])
                rw [hts]
                clear HRA HA hts
                go_wp2_with (first | (refine wpList_load_blk 28 (.tmp 9) w3.heap.size 28 (enC v6 l n) _ K10.out (by rfl) (by rfl) Tryz.underlying28 rfl HSE.out (by rfl) ?_) | ((with_reducible refine at_store 28 (.tmp 2) (.tmp 69) ?_); refine wpList_store_blk 28 (.tmp 2) (.tmp 69) w.heap.size 28 (enC false z16 0) (enC v6 l n) K7.out (by rfl) (by rfl) (by rfl) (by rfl) HSE.out HSF.out HS2.out (by rfl) ?_; intro w9 hk9 hg9 hs9; have V9 := Lib.hid hk9; have G9 := Lib.hid (And.intro hg9 hs9); clear hk9 hg9 hs9))
                exact bodyPost_ret (v := .tuple #[.agg (enC v6 l n), .bool true]) (results_en Tryz.results25 _ _ w.heap.size (enC v6 l n) rfl V9.out HZN.out) rfl ⟨by rw [HR.out], B7.out.grown G9.out.1 B7.out.size (fun k e => by cases e; exact Nat.le_refl _)⟩
              · have hne : ((⟨(endsT v6 l n).toArray⟩ : ByteArray).toList == s.toList) = false := str_ne (fun e => hts (by rw [← e]))
                have hne2 : (endsT v6 l n == s.toList) = false := by
                  rw [beq_eq_false_iff_ne]
                  intro e
                  rw [ByteArray.toList_eq] at e
                  exact hts e
                have HNX := Lib.hid (show ∀ j n, j < k + 1 → s.data.toList[j]? = some 58 → numL (s.data.toList.drop (j + 1)) 65535 = some n → rAt s.data.toList j n = none from fun j n hj h58 hnum => by
                  by_cases hjk : j < k
                  · exact HA.out j n hjk h58 hnum
                  · obtain rfl : j = k := by omega
                    rw [HNN.out] at hnum
                    injection hnum with hnum
                    rw [← hnum, HRA.out, if_neg (fun h => hts h.2)])
                clear HRA HA hts
                generalize endsT v6 l n = t at *
                go_wp2_with fail
                go_roundw
                case rel => exact ⟨k + 1, by omega, by go_num, HNX, Lib.hid ⟨B7.out, K7.out⟩⟩
                case measure => simp [intOf]; omega
          have h1' : (1 : Int) < (x.size : Int) := by omega
          have hx0 : 0 < x.size := by omega
          have c2 : ((x[0].toNat : Int) == 91) = true := by rw [h2]; rfl
          have hxw : (x.size : Int) - 1 < (x.size : Int) := by omega
          have hxw0 : (0 : Int) ≤ (x.size : Int) - 1 := by omega
          have hxn : ((x.size : Int) - 1).toNat = x.size - 1 := by omega
          have c3 : ((x[x.size - 1].toNat : Int) == 93) = true := by rw [h3]; rfl
          have hxw1 : (1 : Int) ≤ (x.size : Int) - 1 := by omega
          have hxw2 : (x.size : Int) - 1 ≤ (x.size : Int) := by omega
          have H2 := Lib.hid h2
          have H3 := Lib.hid h3
          clear h2 h3
          go_upto_region 9 with fail
          obtain ⟨y, hy⟩ : ∃ y, y = x.extract 1 (x.size - 1) := ⟨_, rfl⟩
          have HY := Lib.hid (show parseA y.data.toList = parseA (rtrim (s.data.toList.take k)) by
            rw [hy, HYN.out, if_pos ⟨h1, by rw [List.getElem?_eq_getElem (by omega)]; exact congrArg some H2.out, by rw [List.getElem?_eq_getElem (by omega)]; exact congrArg some H3.out⟩, extract_mkB]
            simp only [mkB]
            rw [show x.size - 1 - 1 = x.size - 2 by omega])
          have hys : y.size < 4294967281 := by rw [hy, ByteArray.size_extract]; omega
          rw [← hy]
          clear HYN hy H2 H3
          have HPJ := Lib.hid (fun W => rparse_any y hys W)
          rw [show rparseV y.data.toList = .tuple #[.agg (adC (parse3 y.data.toList).1 (parse3 y.data.toList).2.1), .bool (parseA y.data.toList).isSome] by
            unfold rparseV parse3
            cases parseA y.data.toList <;> rfl] at HPJ
          have HRA := Lib.hid (show rAt s.data.toList k n = if (parseA y.data.toList).isSome = true ∧ endsT (parse3 y.data.toList).1 (parse3 y.data.toList).2.1 n = s.data.toList then some ((parse3 y.data.toList).1, (parse3 y.data.toList).2.1, n) else none by
            rw [rAt, ← HY.out]
            unfold parse3
            cases parseA y.data.toList with
            | none => rfl
            | some x =>
              by_cases he : endsT x.1 x.2 n = s.data.toList
              · simp [he]
              · simp [he])
          have hp3 := parse3_ok y.data.toList
          generalize (parseA y.data.toList).isSome = ok at *
          generalize parse3 y.data.toList = pr at *
          obtain ⟨v6, l, er⟩ := pr
          have hl : l.length = 16 := hp3.1
          clear hp3 HY
          dsimp only at *
          have HSA := Lib.hid (show (Tryz.prog.info? 25).map (·.size) = some (adC v6 l).size by rw [adC_size _ _ hl]; exact adSize)
          have HSZ := Lib.hid (show (adC false z16).size = (adC v6 l).size by rw [adC_size _ _ hl]; rfl)
          have HS1 := Lib.hid (adC_one v6 l)
          have hw16 : IntKind.u16.wrap (n : Int) = (n : Int) := by
            simp [IntKind.wrap, IntKind.bits, IntKind.signed]; omega
          have HBU := Lib.hid (built_en v6 l n hl)
          have HSE := Lib.hid (show (Tryz.prog.info? 28).map (·.size) = some (enC v6 l n).size by rw [enC_size _ _ _ hl]; exact enSize)
          have HSF := Lib.hid (show (enC false z16 0).size = (enC v6 l n).size by rw [enC_size _ _ _ hl]; rfl)
          have HS2 := Lib.hid (enC_one v6 l n)
          have HEN := Lib.hid (fun W => rends_any v6 l n hl hn16 W)
          have HZN := Lib.hid (enC_size v6 l n hl)
          clear hl
          go_wp2_with fail
          refine (HPJ.out _).mono ?_
          rintro e w2 ⟨rfl, b⟩
          have B3 := Lib.hid (I.out.1.trans (b.mono I.out.1.size))
          have K3 := Lib.hid (I.out.2.keep b)
          clear b HPJ I
          cases ok with
          | false =>
            go_wp2_with (first | (refine wpList_load_blk 25 (.tmp 7) w2.heap.size 25 (adC v6 l) _ K5.out (by rfl) (by rfl) Tryz.underlying25 rfl HSA.out (by rfl) ?_) | ((with_reducible refine at_build 28 #[(0, .tmp 58), (1, .tmp 60)] ?_); refine wpList_build_eq 28 #[(0, .tmp 58), (1, .tmp 60)] (enC v6 l n) (by rfl) HBU.out (by rfl) ?_) | ((with_reducible refine at_store 25 (.tmp 7) (.tmp 56) ?_); refine wpList_store_blk 25 (.tmp 7) (.tmp 56) w2.heap.size 25 (adC false z16) (adC v6 l) (Blk.new w2 25 (adC false z16)) (by rfl) (by rfl) (by rfl) (by rfl) HSA.out HSZ.out HS1.out (by rfl) ?_; intro w3 hk3 hg3 hs3; have K5 := Lib.hid hk3; have B4 := Lib.hid (print_world B3.out B3.out.size hg3); have K4 := Lib.hid ((K3.out.alloc _).grown hg3 (fun e => by have := Option.some.inj e; have := K3.out.lt; omega)); clear hk3 hg3 hs3) | ((with_reducible refine at_store 28 (.tmp 9) (.tmp 61) ?_); refine wpList_store_blk 28 (.tmp 9) (.tmp 61) w3.heap.size 28 (enC false z16 0) (enC v6 l n) (Blk.new w3 28 (enC false z16 0)) (by rfl) (by rfl) (by rfl) (by rfl) HSE.out HSF.out HS2.out (by rfl) ?_; intro w5 hk5 hg5 hs5; have K9 := Lib.hid hk5; have B6 := Lib.hid (print_world B4.out B4.out.size hg5); have K6 := Lib.hid ((K4.out.alloc _).grown hg5 (fun e => by have := Option.some.inj e; have := K4.out.lt; omega)); clear hk5 hg5 hs5))
            clear K5 K9
            have HNX := Lib.hid (show ∀ j n, j < k + 1 → s.data.toList[j]? = some 58 → numL (s.data.toList.drop (j + 1)) 65535 = some n → rAt s.data.toList j n = none from fun j n hj h58 hnum => by
              by_cases hjk : j < k
              · exact HA.out j n hjk h58 hnum
              · obtain rfl : j = k := by omega
                rw [HNN.out] at hnum
                injection hnum with hnum
                rw [← hnum, HRA.out, if_neg (fun h => by cases h.1)])
            clear HRA HA
            go_roundw
            case rel => exact ⟨k + 1, by omega, by go_num, HNX, Lib.hid ⟨B6.out, K6.out⟩⟩
            case measure => simp [intOf]; omega
          | true =>
            go_wp2_with (first | (refine wpList_load_blk 25 (.tmp 7) w2.heap.size 25 (adC v6 l) _ K5.out (by rfl) (by rfl) Tryz.underlying25 rfl HSA.out (by rfl) ?_) | ((with_reducible refine at_build 28 #[(0, .tmp 58), (1, .tmp 60)] ?_); refine wpList_build_eq 28 #[(0, .tmp 58), (1, .tmp 60)] (enC v6 l n) (by rfl) HBU.out (by rfl) ?_) | ((with_reducible refine at_store 25 (.tmp 7) (.tmp 56) ?_); refine wpList_store_blk 25 (.tmp 7) (.tmp 56) w2.heap.size 25 (adC false z16) (adC v6 l) (Blk.new w2 25 (adC false z16)) (by rfl) (by rfl) (by rfl) (by rfl) HSA.out HSZ.out HS1.out (by rfl) ?_; intro w3 hk3 hg3 hs3; have K5 := Lib.hid hk3; have B4 := Lib.hid (print_world B3.out B3.out.size hg3); have K4 := Lib.hid ((K3.out.alloc _).grown hg3 (fun e => by have := Option.some.inj e; have := K3.out.lt; omega)); clear hk3 hg3 hs3) | ((with_reducible refine at_store 28 (.tmp 9) (.tmp 61) ?_); refine wpList_store_blk 28 (.tmp 9) (.tmp 61) w3.heap.size 28 (enC false z16 0) (enC v6 l n) (Blk.new w3 28 (enC false z16 0)) (by rfl) (by rfl) (by rfl) (by rfl) HSE.out HSF.out HS2.out (by rfl) ?_; intro w5 hk5 hg5 hs5; have K9 := Lib.hid hk5; have B6 := Lib.hid (print_world B4.out B4.out.size hg5); have K6 := Lib.hid ((K4.out.alloc _).grown hg5 (fun e => by have := Option.some.inj e; have := K4.out.lt; omega)); clear hk5 hg5 hs5) | (refine wpList_load_blk 28 (.tmp 9) w3.heap.size 28 (enC v6 l n) _ K9.out (by rfl) (by rfl) Tryz.underlying28 rfl HSE.out (by rfl) ?_))
            refine (HEN.out _).mono ?_
            rintro e w6 ⟨rfl, b⟩
            have K7 := Lib.hid (K6.out.keep b)
            have K10 := Lib.hid (K9.out.keep b)
            have B7 := Lib.hid (B6.out.trans (b.mono B6.out.size))
            clear b K6 K9 B6 HEN
            by_cases hts : endsT v6 l n = s.data.toList
            · have HR := Lib.hid (show rpeV s = .tuple #[.agg (enC v6 l n), .bool true] by
                have h1 := rAt_sound hn16 (show rAt s.data.toList k n = some (v6, l, n) by rw [HRA.out, if_pos ⟨by trivial, hts⟩])
                rw [mkB_of] at h1
                rw [rpeV, h1])
              rw [hts]
              clear HRA HA hts
              go_wp2_with (first | (refine wpList_load_blk 28 (.tmp 9) w3.heap.size 28 (enC v6 l n) _ K10.out (by rfl) (by rfl) Tryz.underlying28 rfl HSE.out (by rfl) ?_) | ((with_reducible refine at_store 28 (.tmp 2) (.tmp 69) ?_); refine wpList_store_blk 28 (.tmp 2) (.tmp 69) w.heap.size 28 (enC false z16 0) (enC v6 l n) K7.out (by rfl) (by rfl) (by rfl) (by rfl) HSE.out HSF.out HS2.out (by rfl) ?_; intro w9 hk9 hg9 hs9; have V9 := Lib.hid hk9; have G9 := Lib.hid (And.intro hg9 hs9); clear hk9 hg9 hs9))
              exact bodyPost_ret (v := .tuple #[.agg (enC v6 l n), .bool true]) (results_en Tryz.results25 _ _ w.heap.size (enC v6 l n) rfl V9.out HZN.out) rfl ⟨by rw [HR.out], B7.out.grown G9.out.1 B7.out.size (fun k e => by cases e; exact Nat.le_refl _)⟩
            · have hne : ((⟨(endsT v6 l n).toArray⟩ : ByteArray).toList == s.toList) = false := str_ne (fun e => hts (by rw [← e]))
              have hne2 : (endsT v6 l n == s.toList) = false := by
                rw [beq_eq_false_iff_ne]
                intro e
                rw [ByteArray.toList_eq] at e
                exact hts e
              have HNX := Lib.hid (show ∀ j n, j < k + 1 → s.data.toList[j]? = some 58 → numL (s.data.toList.drop (j + 1)) 65535 = some n → rAt s.data.toList j n = none from fun j n hj h58 hnum => by
                by_cases hjk : j < k
                · exact HA.out j n hjk h58 hnum
                · obtain rfl : j = k := by omega
                  rw [HNN.out] at hnum
                  injection hnum with hnum
                  rw [← hnum, HRA.out, if_neg (fun h => hts h.2)])
              clear HRA HA hts
              generalize endsT v6 l n = t at *
              go_wp2_with fail
              go_roundw
              case rel => exact ⟨k + 1, by omega, by go_num, HNX, Lib.hid ⟨B7.out, K7.out⟩⟩
              case measure => simp [intOf]; omega

    · have HR := Lib.hid (show rpeV s = .tuple #[.agg (enC false z16 0), .bool false] by
        have h1 := rAt_none (s := s.data.toList) (fun j n h58 hnum => HA.out j n (by
          rcases Nat.lt_or_ge j s.size with h | h
          · omega
          · rw [List.getElem?_eq_none (by omega)] at h58; cases h58) h58 hnum)
        rw [mkB_of] at h1
        rw [rpeV, h1])
      obtain rfl : k = s.size := by omega
      clear HA
      go_wp2_with (first | ((with_reducible refine at_build 28 #[] ?_); refine wpList_build_eq 28 #[] (enC false z16 0) (by rfl) HB0.out (by rfl) ?_) | ((with_reducible refine at_store 28 (.tmp 2) (.tmp 70) ?_); refine wpList_store_blk 28 (.tmp 2) (.tmp 70) w.heap.size 28 (enC false z16 0) (enC false z16 0) I.out.2 (by rfl) (by rfl) (by rfl) (by rfl) HSE0.out (by rfl) (by rfl) (by rfl) ?_; intro w9 hk9 hg9 hs9; have V9 := Lib.hid hk9; have G9 := Lib.hid (And.intro hg9 hs9); clear hk9 hg9 hs9))
      exact bodyPost_ret (v := .tuple #[.agg (enC false z16 0), .bool false]) (results_en Tryz.results25 _ _ w.heap.size (enC false z16 0) rfl V9.out (enC_size _ _ _ (by rfl))) rfl ⟨by rw [HR.out], I.out.1.grown G9.out.1 I.out.1.size (fun k e => by cases e; exact Nat.le_refl _)⟩

end Go.Proofs.YtonafonhadocgaaGreatDoor
