/- addr.some: the groups of a part of a writing. -/
import Derived.Test.YtgdnckglfhabnaaDoorAdUnfour
import Derived.Test.YtgdnckglfhabnaaDoorAdGroup
import Derived.Test.YtgdnckglfhabnaaDoorAdRow
namespace Go.Proofs.YtgdnckglfhabnaaDoor
open Go.RowKit Go.Shelf

/-- The cells of a row of groups. -/
def uv (l : List Nat) : List Value := l.map fun n : Nat => Value.int .u16 (n : Int)
theorem uv_len (l : List Nat) : (uv l).length = l.length := by simp [uv]
theorem uv_append (l m : List Nat) : uv (l ++ m) = uv l ++ uv m := by simp [uv]
theorem uv_one (l : List Nat) : ∀ u ∈ uv l, u.oneCell' = true := by
  intro u hu
  obtain ⟨_, _, rfl⟩ := List.mem_map.1 hu
  rfl
/-- The groups of an IPv4 writing. -/
def two : List UInt8 → List Nat
  | [a, b, c, d] => [a.toNat * 256 + b.toNat, c.toNat * 256 + d.toNat]
  | _ => []
/-- The groups of parts, behind those that are there. -/
def someA (last : Bool) (acc : List Nat) : List ByteArray → Option (List Nat)
  | [] => some acc
  | x :: r => if last && decide (r = []) && (f4 x).isSome then some (acc ++ two ((f4 x).getD [])) else if grpB x then someA last (acc ++ [grpN x]) r else none
def someG (s : ByteArray) (last : Bool) : Option (List Nat) := if s.data.toList = [] then some [] else someA last [] (partsB 58 s)
/-- What addr.some returns. -/
def SomeEnd (s : ByteArray) (last : Bool) (base : Nat) (e : Ending) (w' : World) : Prop := match someG s last with
  | some gs => ∃ v, e = .returned (.tuple #[v, .bool true]) ∧ OwnV 25 w' base v (uv gs)
  | none => e = .returned (.tuple #[.slice none 0 0, .bool false])
theorem some_yes {s : ByteArray} {last : Bool} {gs : List Nat} {base : Nat} {v : Value} {w' : World} (h : someG s last = some gs) (ho : OwnV 25 w' base v (uv gs)) : SomeEnd s last base (.returned (.tuple #[v, .bool true])) w' := by
  unfold SomeEnd
  rw [h]
  exact ⟨v, rfl, ho⟩
theorem some_no {s : ByteArray} {last : Bool} {base : Nat} {w' : World} (h : someG s last = none) : SomeEnd s last base (.returned (.tuple #[.slice none 0 0, .bool false])) w' := by
  unfold SomeEnd
  rw [h]
theorem two_len {x : ByteArray} {l : List UInt8} (h : f4 x = some l) : ∃ a b c d : UInt8, l = [a, b, c, d] := by
  unfold f4 f4L at h
  split at h
  · split at h
    · injection h with h
      exact ⟨_, _, _, _, h.symm⟩
    · cases h
  · cases h
theorem info_u16 : (Tryd.prog.info? 25).map (fun i => (i.zero, i.size, i.bytes)) = some (some (.int .u16 0), 1, 2) := by kernel_rfl
theorem hi_lo : ∀ a b : Nat, a < 256 → b < 256 → bits BinOp.or IntKind.u16 (IntKind.u16.wrap ((a : Int) * 256)) (b : Int) = ((a * 256 + b : Nat) : Int) := by
  intro a b ha hb
  have e : IntKind.u16.wrap ((a : Int) * 256) = ((a * 256 : Nat) : Int) := by simp [IntKind.wrap, IntKind.bits, IntKind.signed]; omega
  rw [e, u16_or_nat _ _ (by omega) (by omega)]
  have := Nat.two_pow_add_eq_or_of_lt (i := 8) (b := b) (by omega) a
  rw [show a * 256 = 2 ^ 8 * a by omega, ← this]

theorem u16_byte (b : UInt8) : IntKind.u16.wrap (b.toNat : Int) = (b.toNat : Int) := by
  have := b.toNat_lt
  simp [IntKind.wrap, IntKind.bits, IntKind.signed]
  omega

/-- The loop's memory. -/
structure SInv (w : World) (g : Nat) (ps : List ByteArray) (v : Value) (acc : List Nat) (wr : World) : Prop where
  lis : Blk wr g 9 ((ps.map Value.string).toArray)
  own : OwnV 25 wr (g + 1) v (uv acc)
  bel : Below w.heap.size w wr
  lt : w.heap.size ≤ g
theorem SInv.next {w : World} {g : Nat} {ps : List ByteArray} {v : Value} {acc : List Nat} {wr w' : World} (h : SInv w g ps v acc wr) (hb : Below wr.heap.size wr w') : SInv w g ps v acc w' :=
  ⟨h.lis.keep hb, h.own.below hb, h.bel.trans (hb.mono h.bel.size), h.lt⟩
theorem SInv.var {w : World} {g : Nat} {ps : List ByteArray} {v : Value} {acc : List Nat} {wr w' : World} {o : Obj} (h : SInv w g ps v acc wr) (hg : (wr.alloc o).grownBy w' (some wr.heap.size)) : SInv w g ps v acc w' := by
  have h1 := h.lis.lt
  refine ⟨(h.lis.alloc o).grown hg (fun e => by cases e; omega), (h.own.alloc o).grown hg (fun k hk e => ?_), (h.bel.alloc h.bel.size o).grown hg (by have := h.bel.size; simp; omega) (fun k e => by cases e; exact h.bel.size), h.lt⟩
  have := (h.own.blk_lt hk).2
  cases e
  omega
theorem SInv.app {w : World} {g : Nat} {ps : List ByteArray} {v v' : Value} {acc : List Nat} {wr w' : World} {o : Obj} (h : SInv w g ps v acc wr) (news : List Nat) (ho : OwnV 25 w' (g + 1) v' (uv acc ++ uv news)) (hb : Below (g + 1) (wr.alloc o) w') : SInv w g ps v' (acc ++ news) w' := by
  have h1 := h.lis.lt
  have h2 := h.lt
  have hb' : Below (g + 1) wr w' := (((Below.refl _ wr).alloc (by omega) o).trans hb)
  exact ⟨h.lis.below hb' (by omega), by rw [uv_append]; exact ho, h.bel.trans (hb'.mono (by omega)), h2⟩

set_option maxRecDepth 100000 in
set_option maxHeartbeats 16000000 in
theorem some_any (s : ByteArray) (last : Bool) (hs : s.size < 4294967281) (w : World) (env : Env w) :
    Calls Tryd.prog 30 #[.string s, .bool last] w fun e w' => SomeEnd s last w.heap.size e w' ∧ Below w.heap.size w w' := by
  obtain ⟨i0, hi0, hz0, hz1, hz2⟩ := info_parts info_u16
  have Hi0 := Lib.hid hi0
  have Hz0 := Lib.hid hz0
  have Hz1 := Lib.hid hz1
  have Hz2 := Lib.hid hz2
  clear hi0 hz0 hz1 hz2
  have E := Lib.hid env
  clear env
  by_cases h0 : s = ⟨#[]⟩
  · subst h0
    go_enter Tryd.func30, Tryd.ntmps30
    go_wp2_with fail
    go_ret2
    exact ⟨some_yes (gs := []) (by rw [someG, if_pos rfl]) (OwnV.nil _ _), Below.refl _ _⟩
  have hne := str_ne h0
  have HG := Lib.hid (show someG s last = someA last [] (partsB 58 s) by
    rw [someG, if_neg (fun e => h0 (by cases s with | mk d => cases d with | mk l => simp at e; rw [e]))])
  have HS := Lib.hid (fun W (e : Env W) => split_any 58 s hs W e)
  have HQ := Lib.hid (show ∀ x ∈ partsB 58 s, x.size < 4294967281 from fun x hx => by
    have := parts_size 58 s x hx
    omega)
  have hpl := parts_len 58 s
  clear h0
  obtain ⟨ps, hps⟩ : ∃ ps, ps = partsB 58 s := ⟨_, rfl⟩
  rw [← hps] at HS HQ HG hpl
  clear hps
  have hpn : ps.length ≤ 4294967281 := by omega
  have hse : s.toList.isEmpty = false := by
    simpa using hne
  clear hpl hne
  go_enter Tryd.func30, Tryd.ntmps30
  go_wp2_with fail
  refine (HS.out _ E.out).mono ?_
  rintro e w1 ⟨rfl, rfl⟩
  go_wp2_with fail
  have I0 := Lib.hid (show SInv w w.heap.size ps (.slice none 0 0) [] (w.alloc (.cells ((ps.map Value.string).toArray) 9)) from
    ⟨Blk.new w 9 _, OwnV.nil _ _, (Below.refl _ w).alloc (Nat.le_refl _) _, Nat.le_refl _⟩)
  generalize w.alloc (.cells ((ps.map Value.string).toArray) 9) = wr0 at *
  obtain ⟨g, hg⟩ : ∃ g, g = w.heap.size := ⟨_, rfl⟩
  rw [← hg] at I0 ⊢
  have HGg := Lib.hid hg
  clear hg HS
  go_loopw [7, 20] (fun v i wr => ∃ (k : Nat) (acc : List Nat), k ≤ ps.length ∧ i = .int .i64 k ∧ acc.length ≤ 2 * k ∧ Hid (someA last [] ps = someA last acc (ps.drop k)) ∧ Hid (SInv w g ps v acc wr)) (fun _ i _ => ps.length - (intOf i).toNat)
  case atStart => exact ⟨0, [], by omega, rfl, by simp, Lib.hid rfl, I0⟩
  case round =>
    clear I0
    obtain ⟨k, acc, hk, rfl, hal, hrun, I⟩ := hrel
    by_cases hlt : k < ps.length
    · obtain ⟨x, hx⟩ : ∃ x, x = ps[k] := ⟨_, rfl⟩
      have hdrop : ps.drop k = x :: ps.drop (k + 1) := by rw [hx]; exact List.drop_eq_getElem_cons hlt
      have hxs := HQ.out x (by rw [hx]; exact List.getElem_mem _)
      have q : wr.cell? ⟨g, k, none⟩ = some (.string x) := by rw [I.out.lis.cell k, hx]; simp [hlt]
      rw [hdrop] at hrun
      have HR := Lib.hid hrun.out
      have HDR := Lib.hid (show ps.drop (k + 1) = [] ↔ k + 1 = ps.length from ⟨fun e => by have := congrArg List.length e; simp at this; omega, fun e => List.drop_eq_nil_of_le (by omega)⟩)
      have HU := Lib.hid (fun W (e : Env W) => unfour_any x hxs W e)
      have HGr := Lib.hid (fun W (e : Env W) => group_any x (by omega) W e)
      clear hx hdrop hrun
      go_wp2_with fail
      refine (HU.out _ (E.out.below I.out.bel)).mono ?_
      rintro e w2 ⟨⟨v0, v1, v2, v3, rfl, hv⟩, b⟩
      have HV := Lib.hid hv
      have I2 := Lib.hid (I.out.next b)
      clear b hv I HU q
      obtain ⟨is, his⟩ : ∃ is, is = (f4 x).isSome := ⟨_, rfl⟩
      rw [← his]
      have HIS := Lib.hid his
      clear his
      go_upto_region 9 with ((with_reducible refine at_store 65 (.tmp 10) (.tmp 28) ?_); refine wpList_store_blk 65 (.tmp 10) (.tmp 28) w2.heap.size 65 #[.int .u8 0, .int .u8 0, .int .u8 0, .int .u8 0] #[.int .u8 v0, .int .u8 v1, .int .u8 v2, .int .u8 v3] (Blk.new w2 65 #[.int .u8 0, .int .u8 0, .int .u8 0, .int .u8 0]) (by rfl) (by rfl) (by rfl) (by rfl) f4_size rfl (by rfl) (by rfl) ?_; intro w3 hk3 hg3 hs3; have V3 := Lib.hid hk3; have G3 := Lib.hid (And.intro hg3 hs3); clear hk3 hg3 hs3)
      have I3 := Lib.hid (I2.out.var G3.out.1)
      clear I2 G3
      generalize w2.heap.size = g5 at *
      cases is with
      | false =>
        have HSP := Lib.hid (show ¬ (last && decide (ps.drop (k + 1) = []) && (f4 x).isSome) = true by rw [← HIS.out]; simp)
        clear HIS HV HDR
        go_wp2_with fail
        refine (HGr.out _ (E.out.below I3.out.bel)).mono ?_
        rintro e w4 ⟨⟨gv, rfl, hgv⟩, b⟩
        have HGV := Lib.hid hgv
        have I4 := Lib.hid (I3.out.next b)
        clear b hgv I3 V3
        by_cases hgb : grpB x = true
        · have hgn := HGV.out hgb
          subst hgn
          have HN := Lib.hid (show someA last [] ps = someA last (acc ++ [grpN x]) (ps.drop (k + 1)) by rw [HR.out, someA, if_neg HSP.out, if_pos hgb])
          rw [hgb]
          clear hgb HGV HGr HR
          go_wp2_with (at_builtin; refine wpList_append_lit w4 (by rfl) (.tmp 67) (.tmp 69) 58 25 (by rfl) (g + 1) i0 _ 2 Tryd.underlying58 Hi0.out Hz0.out Hz1.out Hz2.out rfl _ (uv acc) (by rfl) I4.out.own (uv [grpN x]) 1 rfl (by rfl) (uv_one _) _ (by rfl) (by rw [uv_len]; omega) (by omega) (by have := I4.out.lis.lt; omega) ?_; intro v' w5 ho hb hg; have I5 := Lib.hid (I4.out.app [grpN x] ho hb); clear ho hb hg)
          go_roundw
          case rel => exact ⟨k + 1, acc ++ [grpN x], by omega, by go_num, by simp; omega, HN, I5⟩
          case measure => simp [intOf]; omega
        · have hgf : grpB x = false := by simpa using hgb
          have HN := Lib.hid (show someG s last = none by rw [HG.out, HR.out, someA, if_neg HSP.out, if_neg hgb])
          rw [hgf]
          clear hgb hgf HGV HGr HR
          go_wp2_with fail
          go_ret2
          exact ⟨some_no HN.out, I4.out.bel⟩
      | true =>
        cases last with
        | false =>
          have HSP := Lib.hid (show ¬ (false && decide (ps.drop (k + 1) = []) && (f4 x).isSome) = true by simp)
          clear HIS HV HDR
          go_wp2_with fail
          refine (HGr.out _ (E.out.below I3.out.bel)).mono ?_
          rintro e w4 ⟨⟨gv, rfl, hgv⟩, b⟩
          have HGV := Lib.hid hgv
          have I4 := Lib.hid (I3.out.next b)
          clear b hgv I3 V3
          by_cases hgb : grpB x = true
          · have hgn := HGV.out hgb
            subst hgn
            have HN := Lib.hid (show someA false [] ps = someA false (acc ++ [grpN x]) (ps.drop (k + 1)) by rw [HR.out, someA, if_neg HSP.out, if_pos hgb])
            rw [hgb]
            clear hgb HGV HGr HR
            go_wp2_with (at_builtin; refine wpList_append_lit w4 (by rfl) (.tmp 67) (.tmp 69) 58 25 (by rfl) (g + 1) i0 _ 2 Tryd.underlying58 Hi0.out Hz0.out Hz1.out Hz2.out rfl _ (uv acc) (by rfl) I4.out.own (uv [grpN x]) 1 rfl (by rfl) (uv_one _) _ (by rfl) (by rw [uv_len]; omega) (by omega) (by have := I4.out.lis.lt; omega) ?_; intro v' w5 ho hb hg; have I5 := Lib.hid (I4.out.app [grpN x] ho hb); clear ho hb hg)
            go_roundw
            case rel => exact ⟨k + 1, acc ++ [grpN x], by omega, by go_num, by simp; omega, HN, I5⟩
            case measure => simp [intOf]; omega
          · have hgf : grpB x = false := by simpa using hgb
            have HN := Lib.hid (show someG s false = none by rw [HG.out, HR.out, someA, if_neg HSP.out, if_neg hgb])
            rw [hgf]
            clear hgb hgf HGV HGr HR
            go_wp2_with fail
            go_ret2
            exact ⟨some_no HN.out, I4.out.bel⟩
        | true =>
          by_cases hkn : k + 1 = ps.length
          · have hkb : ((k : Int) == (ps.length : Int) - 1) = true := by rw [beq_iff_eq]; omega
            obtain ⟨l, hl⟩ := Option.isSome_iff_exists.1 HIS.out.symm
            obtain ⟨b0, b1, b2, b3, hll, rfl, rfl, rfl, rfl⟩ := HV.out l hl
            subst hll
            have o1 := hi_lo b0.toNat b1.toNat b0.toNat_lt b1.toNat_lt
            have o2 := hi_lo b2.toNat b3.toNat b2.toNat_lt b3.toNat_lt
            have HN := Lib.hid (show someA true [] ps = someA true (acc ++ [b0.toNat * 256 + b1.toNat, b2.toNat * 256 + b3.toNat]) (ps.drop (k + 1)) by
              have e1 : someA true acc [x] = some (acc ++ two ((f4 x).getD [])) := by
                unfold someA
                rw [if_pos (by simp [hl])]
              rw [HR.out, HDR.out.2 hkn, e1, hl]
              rfl)
            have c0 := u16_byte b0
            have c1 := u16_byte b1
            have c2 := u16_byte b2
            have c3 := u16_byte b3
            have q0 := V3.out.cell 0
            have q1 := V3.out.cell 1
            have q2 := V3.out.cell 2
            have q3 := V3.out.cell 3
            simp at q0 q1 q2 q3
            clear HIS HV HR hl HGr HDR
            go_wp2_with (at_builtin; refine wpList_append_lit w3 (by rfl) (.tmp 41) (.tmp 58) 58 25 (by rfl) (g + 1) i0 _ 2 Tryd.underlying58 Hi0.out Hz0.out Hz1.out Hz2.out rfl _ (uv acc) (by rfl) I3.out.own (uv [b0.toNat * 256 + b1.toNat, b2.toNat * 256 + b3.toNat]) 2 rfl (by rfl) (uv_one _) _ (by rfl) (by rw [uv_len]; omega) (by omega) (by have := I3.out.lis.lt; omega) ?_; intro v' w5 ho hb hg; have I5 := Lib.hid (I3.out.app [b0.toNat * 256 + b1.toNat, b2.toNat * 256 + b3.toNat] ho hb); clear ho hb hg)
            go_roundw
            case rel => exact ⟨k + 1, acc ++ [b0.toNat * 256 + b1.toNat, b2.toNat * 256 + b3.toNat], by omega, by go_num, by simp; omega, HN, I5⟩
            case measure => simp [intOf]; omega
          · have hkb : ((k : Int) == (ps.length : Int) - 1) = false := by rw [beq_eq_false_iff_ne]; omega
            have HSP := Lib.hid (show ¬ (true && decide (ps.drop (k + 1) = []) && (f4 x).isSome) = true by
              rw [decide_eq_false (fun e => hkn (HDR.out.1 e))]; simp)
            clear HIS HV HDR hkn
            go_wp2_with fail
            refine (HGr.out _ (E.out.below I3.out.bel)).mono ?_
            rintro e w4 ⟨⟨gv, rfl, hgv⟩, b⟩
            have HGV := Lib.hid hgv
            have I4 := Lib.hid (I3.out.next b)
            clear b hgv I3 V3
            by_cases hgb : grpB x = true
            · have hgn := HGV.out hgb
              subst hgn
              have HN := Lib.hid (show someA true [] ps = someA true (acc ++ [grpN x]) (ps.drop (k + 1)) by rw [HR.out, someA, if_neg HSP.out, if_pos hgb])
              rw [hgb]
              clear hgb HGV HGr HR
              go_wp2_with (at_builtin; refine wpList_append_lit w4 (by rfl) (.tmp 67) (.tmp 69) 58 25 (by rfl) (g + 1) i0 _ 2 Tryd.underlying58 Hi0.out Hz0.out Hz1.out Hz2.out rfl _ (uv acc) (by rfl) I4.out.own (uv [grpN x]) 1 rfl (by rfl) (uv_one _) _ (by rfl) (by rw [uv_len]; omega) (by omega) (by have := I4.out.lis.lt; omega) ?_; intro v' w5 ho hb hg; have I5 := Lib.hid (I4.out.app [grpN x] ho hb); clear ho hb hg)
              go_roundw
              case rel => exact ⟨k + 1, acc ++ [grpN x], by omega, by go_num, by simp; omega, HN, I5⟩
              case measure => simp [intOf]; omega
            · have hgf : grpB x = false := by simpa using hgb
              have HN := Lib.hid (show someG s true = none by rw [HG.out, HR.out, someA, if_neg HSP.out, if_neg hgb])
              rw [hgf]
              clear hgb hgf HGV HGr HR
              go_wp2_with fail
              go_ret2
              exact ⟨some_no HN.out, I4.out.bel⟩
    · obtain rfl : k = ps.length := by omega
      have HR := Lib.hid (show someG s last = some acc by rw [HG.out, hrun.out, List.drop_length]; rfl)
      go_wp2_with fail
      go_ret2
      exact ⟨some_yes HR.out (I.out.own.mono (by rw [HGg.out]; omega)), I.out.bel⟩
end Go.Proofs.YtgdnckglfhabnaaDoor
