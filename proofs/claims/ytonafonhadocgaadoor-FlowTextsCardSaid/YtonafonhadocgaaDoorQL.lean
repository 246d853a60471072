/- Laws and walks that the claim's last text leans on, joined: each part says above itself what it proves. -/
import Derived.Test.YtonafonhadocgaaDoorQK
import Derived.Test.YtonafonhadocgaaDoorQA
import Derived.LoopNIn
import Derived.LoopIn
import Derived.TacticsInMore
import Derived.OwnWalkIn
import Derived.Outline
import Derived.Maps.Views
import Derived.Carry

/- flow.KeyText. -/
namespace Go.Proofs.YtonafonhadocgaaDoor
open Go.RowKit Go.Shelf

/-- A key's cells. -/
def keC (a b : En) (x : Nat) : Array Value := (enL a ++ enL b ++ [Value.int .u64 (x : Int)]).toArray
theorem keC_flow (a b : En) (x : Nat) : ((keC a b x).toList.drop 0).take (flC a b).toList.length = (flC a b).toList := by
  show (enL a ++ enL b ++ [Value.int .u64 (x : Int)]).take (enL a ++ enL b).length = enL a ++ enL b
  rw [List.take_left']
  rfl
theorem keC_xmit (a b : En) (x : Nat) (ha : a.2.1.length = 16) (hb : b.2.1.length = 16) : (keC a b x)[36]? = some (.int .u64 (x : Int)) := by
  rw [keC, List.getElem?_toArray, List.getElem?_append_right (by rw [List.length_append, enL_len a ha, enL_len b hb]; omega), List.length_append, enL_len a ha, enL_len b hb]
  rfl
theorem fl_info (a b : En) (ha : a.2.1.length = 16) (hb : b.2.1.length = 16) : (Tryd.prog.info? 29).map (·.size) = some (flC a b).toList.length := by
  rw [flSize, Array.length_toList, flC_size _ _ ha hb]
def keyV (a b : En) (x : Nat) : Value := if mayB a.1 a.2.1 && mayB b.1 b.2.1 then .tuple #[.string ⟨(keyT a b x).toArray⟩, .int .i64 0] else .tuple #[.string ⟨#[]⟩, .int .i64 2]
theorem key_cat (t u : List UInt8) : (⟨t.toArray⟩ : ByteArray) ++ ⟨#[32]⟩ ++ ⟨u.toArray⟩ = ⟨(t ++ 32 :: u).toArray⟩ := by
  rw [show (⟨#[32]⟩ : ByteArray) = ⟨([32] : List UInt8).toArray⟩ from rfl, ByteArray.mk_append_mk, ByteArray.mk_append_mk]
  simp
/-- The bytes after k rounds. -/
def bst (x k : Nat) : List UInt8 := (bytes8 x).take k ++ List.replicate (8 - k) 0
theorem bst_len (x k : Nat) (h : k ≤ 8) : (bst x k).length = 8 := by
  have : (bytes8 x).length = 8 := rfl
  simp [bst, this]; omega
theorem byte_at (x m : Nat) : IntKind.u8.wrap ((x : Int) / (m : Int)) = ((UInt8.ofNat (x / m % 256)).toNat : Int) := by
  rw [UInt8.toNat_ofNat']
  have : (x : Int) / (m : Int) = ((x / m : Nat) : Int) := rfl
  rw [this]
  simp [IntKind.wrap, IntKind.bits, IntKind.signed]

set_option maxRecDepth 100000 in
set_option maxHeartbeats 8000000 in
theorem ktext_any (a b : En) (x : Nat) (ha : a.2.1.length = 16) (hb : b.2.1.length = 16) (pa : a.2.2 < 65536) (pb : b.2.2 < 65536) (hx : x < 18446744073709551616) (w : World) (env : Env w) :
    Calls Tryd.prog 8 #[.agg (keC a b x)] w fun e w' => e = .returned (keyV a b x) ∧ Below w.heap.size w w' := by
  have K := Lib.hid (Blk.new w 32 (keC a b x))
  have B := Lib.hid ((Below.refl _ w).alloc (Nat.le_refl _) (.cells (keC a b x) 32))
  have E := Lib.hid env
  have HT := Lib.hid (fun W (e : Env W) => text_any a b ha hb pa pb W e)
  have HF := Lib.hid (keC_flow a b x)
  have HI := Lib.hid (fl_info a b ha hb)
  have HX := Lib.hid (keC_xmit a b x ha hb)
  have la := enT_len a ha pa
  have lb := enT_len b hb pb
  have lt : (flowT a b).length ≤ 300 := by unfold flowT; simp; omega
  have HV := Lib.hid (show flowV a b = if mayB a.1 a.2.1 && mayB b.1 b.2.1 then .tuple #[.string ⟨(flowT a b).toArray⟩, .int .i64 0] else .tuple #[.string ⟨#[]⟩, .int .i64 2] from rfl)
  have HW := Lib.hid (show keyV a b x = if mayB a.1 a.2.1 && mayB b.1 b.2.1 then .tuple #[.string ⟨(flowT a b ++ 32 :: hexB (bytes8 x)).toArray⟩, .int .i64 0] else .tuple #[.string ⟨#[]⟩, .int .i64 2] from rfl)
  have h16 : (hexB (bytes8 x)).length = 16 := by rw [hexB_len]; rfl
  clear env la lb
  generalize keC a b x = cs at *
  generalize flC a b = cf at *
  generalize flowV a b = fv at *
  generalize keyV a b x = kv at *
  generalize flowT a b = t at *
  generalize (mayB a.1 a.2.1 && mayB b.1 b.2.1) = m at *
  clear ha hb pa pb
  have hs1 : ¬ 9223372036854775807 < t.length + 1 := by omega
  have hs2 : ¬ 9223372036854775807 < t.length + 1 + (hexB (bytes8 x)).length := by omega
  have hs3 : ¬ 9223372036854775807 < t.length + 1 + 16 := by omega
  clear lt
  go_enter Tryd.func8, Tryd.ntmps8
  go_wp2_with (refine wpList_load_part 29 (.tmp 9) w.heap.size 0 32 cs cf.toList _ K.out HF.out (by rfl) (by rfl) Tryd.underlying29 rfl HI.out (by rfl) ?_)
  refine (HT.out _ (E.out.below B.out)).mono ?_
  rintro e w2 ⟨rfl, b⟩
  have B2 := Lib.hid (B.out.trans (b.mono B.out.size))
  have K2 := Lib.hid (K.out.keep b)
  clear b K B HT HF HI E
  cases m with
  | false =>
    obtain rfl := HV.out
    obtain rfl := HW.out
    go_wp2_with fail
    go_ret2
    exact ⟨rfl, B2.out⟩
  | true =>
    obtain rfl := HV.out
    obtain rfl := HW.out
    clear HV HW
    obtain ⟨i0, hi0, hz0, hz1, hz2⟩ := info_parts info_u8
    go_wp2_with (at_make; refine wpList_make_bytes _ rfl _ _ 57 rfl i0 Tryd.underlying57 hi0 hz0 hz1 hz2 _ _ _ _ 8 rfl rfl rfl rfl (by omega) ?_; intro w3 hown3 hb3 hz3)
    have I0 := Lib.hid (And.intro hown3 hb3)
    clear hown3 hb3 hz3
    go_loopw [20] (fun i wr => ∃ k : Nat, k ≤ 8 ∧ i = .int .i64 k ∧ Hid (Own wr w2.heap.size (.slice (some ⟨w2.heap.size, 0, none⟩) 8 8) (bst x k) ∧ Below w2.heap.size w2 wr)) (fun i _ => 8 - (intOf i).toNat)
    case atStart => exact ⟨0, by omega, rfl, I0⟩
    case round =>
      clear I0
      obtain ⟨k, hk, rfl, I⟩ := hrel
      by_cases hlt : k < 8
      · have q36 : wr.cell? ⟨w.heap.size, 36, none⟩ = some (.int .u64 (x : Int)) := by rw [(K2.out.keep I.out.2).cell]; exact HX.out
        have c1 := I.out.1.cellAt k hlt
        have c2 := I.out.1.frozenAt k
        clear hs1 hs2 hs3 h16
        have hkk : k = 0 ∨ k = 1 ∨ k = 2 ∨ k = 3 ∨ k = 4 ∨ k = 5 ∨ k = 6 ∨ k = 7 := by omega
        clear hk hlt
        rcases hkk with rfl | rfl | rfl | rfl | rfl | rfl | rfl | rfl

        · have hv : ((UInt8.ofNat (x / 72057594037927936 % 256)).toNat : Int) = (x : Int) / 72057594037927936 := by rw [UInt8.toNat_ofNat']; omega
          have HO := Lib.hid (I.out.1.stored 0 (UInt8.ofNat (x / 72057594037927936 % 256)))
          have HB := Lib.hid (I.out.2.setCell (p := ⟨w2.heap.size, 0, none⟩) (Nat.le_refl _) (.int .u8 ((UInt8.ofNat (x / 72057594037927936 % 256)).toNat : Int)))
          rw [show (bst x 0).set 0 (UInt8.ofNat (x / 72057594037927936 % 256)) = bst x (0 + 1) from rfl] at HO
          rw [hv] at HO HB
          clear I hv
          go_wp2
          go_roundw
          case rel => exact ⟨0 + 1, by omega, by go_num, Lib.hid ⟨HO.out, HB.out⟩⟩
          case measure => simp [intOf]

        · have hv : ((UInt8.ofNat (x / 281474976710656 % 256)).toNat : Int) = (x : Int) / 281474976710656 % 256 := by rw [UInt8.toNat_ofNat']; omega
          have HO := Lib.hid (I.out.1.stored 1 (UInt8.ofNat (x / 281474976710656 % 256)))
          have HB := Lib.hid (I.out.2.setCell (p := ⟨w2.heap.size, 1, none⟩) (Nat.le_refl _) (.int .u8 ((UInt8.ofNat (x / 281474976710656 % 256)).toNat : Int)))
          rw [show (bst x 1).set 1 (UInt8.ofNat (x / 281474976710656 % 256)) = bst x (1 + 1) from rfl] at HO
          rw [hv] at HO HB
          clear I hv
          go_wp2
          go_roundw
          case rel => exact ⟨1 + 1, by omega, by go_num, Lib.hid ⟨HO.out, HB.out⟩⟩
          case measure => simp [intOf]

        · have hv : ((UInt8.ofNat (x / 1099511627776 % 256)).toNat : Int) = (x : Int) / 1099511627776 % 256 := by rw [UInt8.toNat_ofNat']; omega
          have HO := Lib.hid (I.out.1.stored 2 (UInt8.ofNat (x / 1099511627776 % 256)))
          have HB := Lib.hid (I.out.2.setCell (p := ⟨w2.heap.size, 2, none⟩) (Nat.le_refl _) (.int .u8 ((UInt8.ofNat (x / 1099511627776 % 256)).toNat : Int)))
          rw [show (bst x 2).set 2 (UInt8.ofNat (x / 1099511627776 % 256)) = bst x (2 + 1) from rfl] at HO
          rw [hv] at HO HB
          clear I hv
          go_wp2
          go_roundw
          case rel => exact ⟨2 + 1, by omega, by go_num, Lib.hid ⟨HO.out, HB.out⟩⟩
          case measure => simp [intOf]

        · have hv : ((UInt8.ofNat (x / 4294967296 % 256)).toNat : Int) = (x : Int) / 4294967296 % 256 := by rw [UInt8.toNat_ofNat']; omega
          have HO := Lib.hid (I.out.1.stored 3 (UInt8.ofNat (x / 4294967296 % 256)))
          have HB := Lib.hid (I.out.2.setCell (p := ⟨w2.heap.size, 3, none⟩) (Nat.le_refl _) (.int .u8 ((UInt8.ofNat (x / 4294967296 % 256)).toNat : Int)))
          rw [show (bst x 3).set 3 (UInt8.ofNat (x / 4294967296 % 256)) = bst x (3 + 1) from rfl] at HO
          rw [hv] at HO HB
          clear I hv
          go_wp2
          go_roundw
          case rel => exact ⟨3 + 1, by omega, by go_num, Lib.hid ⟨HO.out, HB.out⟩⟩
          case measure => simp [intOf]

        · have hv : ((UInt8.ofNat (x / 16777216 % 256)).toNat : Int) = (x : Int) / 16777216 % 256 := by rw [UInt8.toNat_ofNat']; omega
          have HO := Lib.hid (I.out.1.stored 4 (UInt8.ofNat (x / 16777216 % 256)))
          have HB := Lib.hid (I.out.2.setCell (p := ⟨w2.heap.size, 4, none⟩) (Nat.le_refl _) (.int .u8 ((UInt8.ofNat (x / 16777216 % 256)).toNat : Int)))
          rw [show (bst x 4).set 4 (UInt8.ofNat (x / 16777216 % 256)) = bst x (4 + 1) from rfl] at HO
          rw [hv] at HO HB
          clear I hv
          go_wp2
          go_roundw
          case rel => exact ⟨4 + 1, by omega, by go_num, Lib.hid ⟨HO.out, HB.out⟩⟩
          case measure => simp [intOf]

        · have hv : ((UInt8.ofNat (x / 65536 % 256)).toNat : Int) = (x : Int) / 65536 % 256 := by rw [UInt8.toNat_ofNat']; omega
          have HO := Lib.hid (I.out.1.stored 5 (UInt8.ofNat (x / 65536 % 256)))
          have HB := Lib.hid (I.out.2.setCell (p := ⟨w2.heap.size, 5, none⟩) (Nat.le_refl _) (.int .u8 ((UInt8.ofNat (x / 65536 % 256)).toNat : Int)))
          rw [show (bst x 5).set 5 (UInt8.ofNat (x / 65536 % 256)) = bst x (5 + 1) from rfl] at HO
          rw [hv] at HO HB
          clear I hv
          go_wp2
          go_roundw
          case rel => exact ⟨5 + 1, by omega, by go_num, Lib.hid ⟨HO.out, HB.out⟩⟩
          case measure => simp [intOf]

        · have hv : ((UInt8.ofNat (x / 256 % 256)).toNat : Int) = (x : Int) / 256 % 256 := by rw [UInt8.toNat_ofNat']; omega
          have HO := Lib.hid (I.out.1.stored 6 (UInt8.ofNat (x / 256 % 256)))
          have HB := Lib.hid (I.out.2.setCell (p := ⟨w2.heap.size, 6, none⟩) (Nat.le_refl _) (.int .u8 ((UInt8.ofNat (x / 256 % 256)).toNat : Int)))
          rw [show (bst x 6).set 6 (UInt8.ofNat (x / 256 % 256)) = bst x (6 + 1) from rfl] at HO
          rw [hv] at HO HB
          clear I hv
          go_wp2
          go_roundw
          case rel => exact ⟨6 + 1, by omega, by go_num, Lib.hid ⟨HO.out, HB.out⟩⟩
          case measure => simp [intOf]

        · have hv : ((UInt8.ofNat (x / 1 % 256)).toNat : Int) = (x : Int) % 256 := by rw [UInt8.toNat_ofNat']; omega
          have HO := Lib.hid (I.out.1.stored 7 (UInt8.ofNat (x / 1 % 256)))
          have HB := Lib.hid (I.out.2.setCell (p := ⟨w2.heap.size, 7, none⟩) (Nat.le_refl _) (.int .u8 ((UInt8.ofNat (x / 1 % 256)).toNat : Int)))
          rw [show (bst x 7).set 7 (UInt8.ofNat (x / 1 % 256)) = bst x (7 + 1) from rfl] at HO
          rw [hv] at HO HB
          clear I hv
          go_wp2
          go_roundw
          case rel => exact ⟨7 + 1, by omega, by go_num, Lib.hid ⟨HO.out, HB.out⟩⟩
          case measure => simp [intOf]
      · obtain rfl : k = 8 := by omega
        have HR := Lib.hid I.out.1.rd
        have HB := Lib.hid (B2.out.trans (I.out.2.mono B2.out.size))
        rw [show bst x 8 = bytes8 x from rfl] at HR
        clear I
        go_wp2_with fail
        refine (thex_any _ 8 8 (bytes8 x) wr HR.out (by omega)).mono ?_
        rintro e w5 ⟨rfl, b5⟩
        have HB5 := Lib.hid (HB.out.trans (b5.mono HB.out.size))
        clear b5 HB HR
        go_wp2_with fail
        rw [key_cat]
        go_ret2
        exact ⟨rfl, HB5.out⟩
end Go.Proofs.YtonafonhadocgaaDoor

/- slices.All over keys. -/
namespace Go.Proofs.YtonafonhadocgaaDoor
open Go.RowKit Go.Shelf

/-- A key: its ends, its stamp. -/
abbrev Ky := (En × En) × Nat
structure KyOk (k : Ky) : Prop where
  la : k.1.1.2.1.length = 16
  lb : k.1.2.2.1.length = 16
  pa : k.1.1.2.2 < 65536
  pb : k.1.2.2.2 < 65536
  x : k.2 < 18446744073709551616
def kyC (k : Ky) : Array Value := keC k.1.1 k.1.2 k.2
theorem kyC_size {k : Ky} (h : KyOk k) : (kyC k).size = 37 := by simp [kyC, keC, enL_len _ h.la, enL_len _ h.lb]
theorem kySize : (Tryd.prog.info? 32).map (·.size) = some 37 := by kernel_rfl
theorem kyC_one (k : Ky) : (kyC k).toList.all (·.oneCell') = true := by
  show (enL k.1.1 ++ enL k.1.2 ++ [Value.int .u64 (k.2 : Int)]).all (·.oneCell') = true
  rw [List.all_append, List.all_append, enL_one, enL_one]
  rfl
abbrev zK : Ky := ((zE, zE), 0)
/-- A slice value '.slice A n c' reads as the keys ks. -/
def RdK (w : World) (A : Option Addr) (n c : Nat) (ks : List Ky) : Prop :=
  ks.length = n ∧ n ≤ c ∧ (0 < n → ∃ b off, A = some ⟨b, off, none⟩ ∧ b < w.heap.size ∧ ∀ j k, ks[j]? = some k → w.rangeAt b (off + j * 37) (kyC k).toList)
theorem RdK.keep {w w' : World} {A : Option Addr} {n c : Nat} {ks : List Ky} (h : RdK w A n c ks) (hb : ∀ b off, A = some ⟨b, off, none⟩ → w'.heap[b]? = w.heap[b]? ∧ (b < w.heap.size → b < w'.heap.size)) : RdK w' A n c ks := by
  refine ⟨h.1, h.2.1, fun hn => ?_⟩
  obtain ⟨b, off, rfl, hlt, hr⟩ := h.2.2 hn
  obtain ⟨h1, h2⟩ := hb b off rfl
  refine ⟨b, off, rfl, h2 hlt, fun j k hj i v hv => ?_⟩
  have := hr j k hj i v hv
  unfold World.cell? at this ⊢
  rw [h1]
  exact this
/-- The pairs that are handed out. -/
def iks (ks : List Ky) : List (Nat × Ky) := (List.range ks.length).map fun i => (i, ks[i]?.getD zK)
theorem iks_at {ks : List Ky} {i : Nat} {k : Ky} (h : ks[i]? = some k) : (iks ks)[i]? = some (i, k) := by
  have hi := (List.getElem?_eq_some_iff.1 h).1
  unfold iks
  rw [List.getElem?_map, List.getElem?_range hi, Option.map_some, h]
  rfl
theorem iks_len (ks : List Ky) : (iks ks).length = ks.length := by simp [iks]
theorem iks_split {ks : List Ky} {i : Nat} {k : Ky} (h : ks[i]? = some k) : iks ks = (iks ks).take i ++ (i, k) :: (iks ks).drop (i + 1) := by
  have h1 := iks_at h
  have hi := (List.getElem?_eq_some_iff.1 h1).1
  have h2 : (iks ks)[i] = (i, k) := by rw [List.getElem?_eq_getElem hi] at h1; injection h1
  rw [← h2, List.getElem_cons_drop, List.take_append_drop]
theorem iks_next {ks : List Ky} {i : Nat} {k : Ky} (h : ks[i]? = some k) : (iks ks).take (i + 1) = (iks ks).take i ++ [(i, k)] := by
  rw [List.take_add_one, iks_at h]
  rfl

theorem iks_mid {ks : List Ky} {pre rest : List (Nat × Ky)} {x : Nat × Ky} (h : iks ks = pre ++ x :: rest) : ks[pre.length]? = some x.2 ∧ x.1 = pre.length := by
  have hl := congrArg List.length h
  rw [iks_len, List.length_append, List.length_cons] at hl
  have hk : pre.length < ks.length := by omega
  have h1 : (iks ks)[pre.length]? = some x := by rw [h]; simp
  rw [iks_at (List.getElem?_eq_getElem hk)] at h1
  injection h1 with h1
  rw [← h1]
  exact ⟨List.getElem?_eq_getElem hk, rfl⟩
theorem iks_fst (ks : List Ky) : (iks ks).map (·.2.1) = ks.map (·.1) := by
  apply List.ext_getElem?
  intro i
  rw [List.getElem?_map, List.getElem?_map]
  cases h : ks[i]? with
  | none => rw [List.getElem?_eq_none (by rw [iks_len]; exact List.getElem?_eq_none_iff.1 h)]; rfl
  | some k => rw [iks_at h]; rfl
theorem grown_fresh {w w' : World} {o : Obj} (h : (w.alloc o).grownBy w' (some w.heap.size)) : w.grownBy w' none :=
  ⟨h.os, h.tape, h.output, by have := h.size; rw [World.size_alloc] at this; omega, fun k hk _ => (h.block k (by rw [World.size_alloc]; omega) (fun e => by injection e with e; omega)).trans (Below.heap_alloc _ _ _ hk)⟩

set_option maxRecDepth 100000 in
set_option maxHeartbeats 4000000 in
theorem all_seq (bs : Nat) (A : Option Addr) (n c : Nat) (ks : List Ky) (W : World) (hs : Blk W bs 42 #[.slice A n c]) (hlen : ks.length = n) (hok : ∀ k ∈ ks, KyOk k) (hn : n ≤ 1099511627776) :
    SeqXR Tryd.prog 35 #[.pointer (some ⟨bs, 0, none⟩)] (fun x : Nat × Ky => #[.int .i64 (x.1 : Int), .agg (kyC x.2)]) (iks ks) (fun r => r = bs) (fun W' => RdK W' A n c ks) W := by
  intro l J hJ hRR hY h0
  refine callsIn_of_wp Tryd.func35 rfl trivial ?_ rfl
  simp only [Tryd.ntmps35, List.size_toArray, List.length_cons, List.length_nil, Nat.reduceAdd, Nat.reduceSub, Array.replicate_succ, Array.replicate_zero, List.push_toArray, List.append_toArray, List.nil_append, List.cons_append]
  have q0 := hs.cell 0
  simp at q0
  have HS := Lib.hid hs
  have HOK := Lib.hid hok
  have HL := hlen
  clear hs hok hlen
  gi_wp2_with fail
  gi_loopw [7] (fun v wr => ∃ k : Nat, k ≤ n ∧ v = .int .i64 k ∧ Hid (J ((iks ks).take k) wr ∧ Blk wr bs 42 #[.slice A n c])) (fun i _ => n - (intOf i).toNat)
  case atStart => exact ⟨0, by omega, rfl, Lib.hid ⟨h0, HS.out⟩⟩
  case round =>
    clear q0
    obtain ⟨k, hk, rfl, I⟩ := hrel
    by_cases hlt : k < n
    · obtain ⟨x, hx⟩ : ∃ x, ks[k]? = some x := ⟨ks[k]'(by omega), List.getElem?_eq_getElem (by omega)⟩
      have hxo := HOK.out x (List.mem_of_getElem? hx)
      obtain ⟨b, off, hA, hbl, hrow⟩ := (hRR _ _ I.out.1).2.2 (by omega)
      subst hA
      have HRW := Lib.hid (hrow k x hx)
      have HXI := Lib.hid (show (Tryd.prog.info? 32).map (·.size) = some (kyC x).toList.length by rw [kySize, Array.length_toList, kyC_size hxo])
      clear hrow
      have HSZ := Lib.hid (show (Tryd.prog.info? 32).map (·.size) = some (kyC x).size by rw [kySize, kyC_size hxo])
      have HEQ := Lib.hid (show (kyC zK).size = (kyC x).size by rw [kyC_size hxo]; rfl)
      have HSP := Lib.hid (iks_split hx)
      have HNX := Lib.hid (iks_next hx)
      have hbs := I.out.2.lt
      clear hx hxo
      gi_wp2_with (first
        | ((with_reducible refine at_loadIn 32 (.tmp 10) ?_); refine wpListIn_load_rng 32 (.tmp 10) b (off + k * 37) (kyC x).toList _ HRW.out (by rfl) (by rfl) Tryd.underlying32 rfl HXI.out (by rfl) ?_)
        | ((with_reducible refine at_storeIn 32 (.tmp 4) (.tmp 11) ?_); refine wpListIn_store_blk 32 (.tmp 4) (.tmp 11) wr.heap.size 32 (kyC zK) (kyC x) (Blk.new wr 32 (kyC zK)) (by rfl) (by rfl) (by rfl) (by rfl) HSZ.out HEQ.out (kyC_one x) (by rfl) ?_; intro w2 hk2 hg2 hz2; have K4 := Lib.hid hk2.whole; obtain ⟨fn, tmps, assign, body, hy, hR⟩ := hY ((iks ks).take k) (k, x) ((iks ks).drop (k + 1)) w2 HSP.out (hJ _ _ _ none I.out.1 (grown_fresh hg2) (fun r e => by cases e)) (fun r hr => by have hs2 := hz2; rw [World.size_alloc] at hs2; omega); have HK2 := Lib.hid ((grown_fresh hg2).block bs hbs (by simp)); clear hk2 hg2 hz2)
        | ((with_reducible refine at_loadIn 32 (.tmp 4) ?_); refine wpListIn_load_rng 32 (.tmp 4) wr.heap.size 0 (kyC x).toList _ K4.out (by rfl) (by rfl) Tryd.underlying32 rfl HXI.out (by rfl) ?_))
      refine ⟨rfl, hR.mono ?_⟩
      rintro e B ⟨rfl, hJ2, hsz, hk2⟩
      have HJ2 := Lib.hid hJ2
      have HB := Lib.hid (show Blk B bs 42 #[.slice (some ⟨b, off, none⟩) n c] from ((hk2 bs rfl).trans HK2.out).trans I.out.2)
      clear hJ2 hk2 hR hy I HRW HSP K4 hsz
      gi_wp2_with fail
      go_roundw
      case rel => exact ⟨k + 1, by omega, by go_num, Lib.hid ⟨by rw [HNX.out]; exact HJ2.out, HB.out⟩⟩
      case measure => simp [intOf]; omega
    · obtain rfl : k = n := by omega
      have HJ := Lib.hid (show J (iks ks) wr by
        have h := I.out.1
        rwa [List.take_of_length_le (by rw [iks_len]; omega)] at h)
      clear I
      gi_wp2_with fail
      go_end0
      exact ⟨⟨_, rfl⟩, HJ.out⟩

theorem all_make (A : Option Addr) (n c : Nat) (w : World) :
    Calls Tryd.prog 23 #[.slice A n c] w fun e w' => e = .returned (.func (.func 35) #[] #[.pointer (some ⟨w.heap.size, 0, none⟩)]) ∧ w.alloc (.cells #[.slice A n c] 42) = w' := by
  go_enter Tryd.func23, Tryd.ntmps23
  go_wp2
  go_ret
  exact ⟨rfl, rfl⟩
end Go.Proofs.YtonafonhadocgaaDoor

/- Groups of what is the same, in the order of the first ones: plain. -/
namespace Go.Proofs.YtonafonhadocgaaDoor
open Go.RowKit

/-- An induction from behind. -/
theorem snoc_ind {F : Type} {P : List F → Prop} (h0 : P []) (h1 : ∀ l x, P l → P (l ++ [x])) : ∀ l, P l := by
  intro l
  have : ∀ r : List F, P r.reverse := fun r => by
    induction r with
    | nil => exact h0
    | cons x r ih => rw [List.reverse_cons]; exact h1 _ _ ih
  rw [← List.reverse_reverse l]
  exact this _

section
variable {F : Type} [DecidableEq F]
/-- Each once, in the order of the first ones. -/
def dd (l : List F) : List F := l.foldl (fun acc x => if x ∈ acc then acc else acc ++ [x]) []
/-- The places of f. -/
def pos (l : List F) (f : F) : List Nat := (List.range l.length).filter fun k => decide (l[k]? = some f)
def grpL (l : List F) : List (List Nat) := (dd l).map (pos l)
theorem dd_snoc (l : List F) (x : F) : dd (l ++ [x]) = if x ∈ dd l then dd l else dd l ++ [x] := by
  unfold dd
  rw [List.foldl_append]
  rfl
theorem mem_dd (x : F) (l : List F) : x ∈ dd l ↔ x ∈ l := by
  refine snoc_ind (P := fun l => x ∈ dd l ↔ x ∈ l) ?_ ?_ l
  · rfl
  · intro l y ih
    rw [dd_snoc]
    split
    · rename_i hy
      rw [ih, List.mem_append, List.mem_singleton]
      constructor
      · exact .inl
      · rintro (h | rfl)
        · exact h
        · exact ih.1 hy
    · rw [List.mem_append, List.mem_append, ih]
theorem nodup_dd (l : List F) : (dd l).Nodup := by
  refine snoc_ind (P := fun l => (dd l).Nodup) ?_ ?_ l
  · exact List.nodup_nil
  · intro l y ih
    rw [dd_snoc]
    split
    · exact ih
    · rename_i hy
      refine List.nodup_append.2 ⟨ih, by simp, ?_⟩
      intro a ha b hb e
      rw [List.mem_singleton] at hb
      subst hb e
      exact hy ha
theorem dd_len (l : List F) : (dd l).length ≤ l.length := by
  refine snoc_ind (P := fun l => (dd l).length ≤ l.length) (Nat.le_refl _) ?_ l
  intro l y ih
  rw [dd_snoc, List.length_append]
  split
  · simp; omega
  · rw [List.length_append]
    simp
    omega
theorem pos_snoc (l : List F) (x f : F) : pos (l ++ [x]) f = pos l f ++ (if x = f then [l.length] else []) := by
  unfold pos
  rw [List.length_append, List.length_singleton, List.range_succ, List.filter_append]
  congr 1
  · apply List.filter_congr
    intro k hk
    rw [List.mem_range] at hk
    rw [List.getElem?_append_left hk]
  · have h : (l ++ [x])[l.length]? = some x := by simp
    by_cases e : x = f
    · rw [if_pos e, List.filter_cons_of_pos]
      · rfl
      · rw [h, e]
        exact decide_eq_true rfl
    · rw [if_neg e, List.filter_cons_of_neg]
      · rfl
      · rw [h]
        simp [e]
theorem pos_nil {l : List F} {f : F} (h : f ∉ l) : pos l f = [] := by
  unfold pos
  rw [List.filter_eq_nil_iff]
  intro k _ hk
  exact h (List.mem_of_getElem? (of_decide_eq_true hk))
theorem grpL_len (l : List F) : (grpL l).length = (dd l).length := List.length_map _
theorem grpL_new {l : List F} {x : F} (h : x ∉ dd l) : grpL (l ++ [x]) = grpL l ++ [[l.length]] := by
  unfold grpL
  rw [dd_snoc, if_neg h, List.map_append]
  congr 1
  · apply List.map_congr_left
    intro f hf
    rw [pos_snoc, if_neg (fun e => h (by rw [e]; exact hf)), List.append_nil]
  · rw [List.map_singleton, pos_snoc, if_pos rfl, pos_nil (fun hm => h ((mem_dd x l).2 hm))]
    rfl
theorem grpL_old {l : List F} {x : F} {j : Nat} (h : (dd l)[j]? = some x) : grpL (l ++ [x]) = (grpL l).set j (pos l x ++ [l.length]) := by
  unfold grpL
  rw [dd_snoc, if_pos (List.mem_of_getElem? h)]
  have hj := (List.getElem?_eq_some_iff.1 h).1
  apply List.ext_getElem?
  intro i
  rw [List.getElem?_map, List.getElem?_set]
  by_cases e : j = i
  · subst e
    rw [if_pos rfl, List.length_map, if_pos hj, h]
    show some _ = some _
    rw [pos_snoc, if_pos rfl]
  · rw [if_neg e, List.getElem?_map]
    cases hi : (dd l)[i]? with
    | none => rfl
    | some f =>
      have hne : x ≠ f := fun he => by
        rw [he] at h
        have h1 := List.getElem?_eq_some_iff.1 h
        have h2 := List.getElem?_eq_some_iff.1 hi
        have hp := List.pairwise_iff_getElem.1 (nodup_dd l)
        rcases Nat.lt_trichotomy j i with hlt | he2 | hgt
        · exact hp j i h1.1 h2.1 hlt (h1.2.trans h2.2.symm)
        · exact e he2
        · exact hp i j h2.1 h1.1 hgt (h2.2.trans h1.2.symm)
      show some _ = some _
      rw [pos_snoc, if_neg hne, List.append_nil]
theorem grpL_at {l : List F} {x : F} {j : Nat} (h : (dd l)[j]? = some x) : (grpL l)[j]? = some (pos l x) := by
  rw [grpL, List.getElem?_map, h]
  rfl
/-- The number that the map holds for f: its group's place, and one; 0: none. -/
def gnum (l : List F) (f : F) : Nat := if f ∈ dd l then (dd l).idxOf f + 1 else 0
theorem gnum_zero {l : List F} {f : F} : gnum l f = 0 ↔ f ∉ dd l := by
  unfold gnum
  split <;> simp [*]
theorem gnum_some {l : List F} {f : F} (h : gnum l f ≠ 0) : (dd l)[gnum l f - 1]? = some f := by
  unfold gnum at *
  split at h
  · rename_i hf
    rw [if_pos hf, Nat.add_sub_cancel, List.getElem?_eq_getElem (List.idxOf_lt_length_iff.2 hf), List.getElem_idxOf]
  · exact absurd rfl h
theorem gnum_old {l : List F} {x : F} (h : x ∈ dd l) (f : F) : gnum (l ++ [x]) f = gnum l f := by
  unfold gnum
  rw [dd_snoc, if_pos h]
theorem gnum_new {l : List F} {x : F} (h : x ∉ dd l) (f : F) : gnum (l ++ [x]) f = if f = x then (dd l).length + 1 else gnum l f := by
  unfold gnum
  rw [dd_snoc, if_neg h]
  by_cases e : f = x
  · rw [if_pos e, e, if_pos (by simp), List.idxOf_append, if_neg h]
    simp
  · rw [if_neg e]
    by_cases hf : f ∈ dd l
    · rw [if_pos hf, if_pos (by simp [hf]), List.idxOf_append, if_pos hf]
    · rw [if_neg hf, if_neg (by simp [hf, e])]
end
end Go.Proofs.YtonafonhadocgaaDoor

/- Groups: each place in one of them; the first places rise: plain. -/
namespace Go.Proofs.YtonafonhadocgaaDoor
open Go.RowKit

theorem take_snocF {F : Type} {l : List F} {i : Nat} {x : F} (h : l[i]? = some x) : l.take (i + 1) = l.take i ++ [x] := by
  rw [List.take_add_one, h]
  rfl

section
variable {F : Type} [DecidableEq F]
theorem mem_pos {l : List F} {f : F} {k : Nat} : k ∈ pos l f ↔ l[k]? = some f := by
  unfold pos
  rw [List.mem_filter, List.mem_range]
  constructor
  · exact fun h => of_decide_eq_true h.2
  · exact fun h => ⟨(List.getElem?_eq_some_iff.1 h).1, decide_eq_true h⟩
theorem pos_ne {l : List F} {f : F} (h : f ∈ l) : pos l f ≠ [] := by
  obtain ⟨k, hk⟩ := List.getElem?_of_mem h
  intro e
  have := mem_pos.2 hk
  rw [e] at this
  cases this
theorem pos_rise (l : List F) (f : F) : (pos l f).Pairwise (· < ·) := List.Pairwise.filter _ List.pairwise_lt_range
/-- The first place of f. -/
def head0 (l : List F) (f : F) : Nat := (pos l f).headD 0
theorem head_at {l : List F} {f : F} (h : f ∈ l) : l[head0 l f]? = some f ∧ (pos l f)[0]? = some (head0 l f) := by
  have hne := pos_ne h
  unfold head0
  cases hp : pos l f with
  | nil => exact absurd hp hne
  | cons a r =>
    refine ⟨?_, rfl⟩
    exact mem_pos.1 (by rw [hp]; exact List.mem_cons_self)
theorem head_snoc {l : List F} {f : F} (h : f ∈ l) (x : F) : head0 (l ++ [x]) f = head0 l f := by
  have hne := pos_ne h
  unfold head0
  rw [pos_snoc]
  cases hp : pos l f with
  | nil => exact absurd hp hne
  | cons a r => rfl
theorem head_new {l : List F} {x : F} (h : x ∉ l) : head0 (l ++ [x]) x = l.length := by
  unfold head0
  rw [pos_snoc, pos_nil h, if_pos rfl]
  rfl
theorem heads_rise (l : List F) : (dd l).Pairwise fun f g => head0 l f < head0 l g := by
  refine snoc_ind (P := fun l => (dd l).Pairwise fun f g => head0 l f < head0 l g) ?_ ?_ l
  · exact List.Pairwise.nil
  · intro l x ih
    have ih' : (dd l).Pairwise fun f g => head0 (l ++ [x]) f < head0 (l ++ [x]) g :=
      ih.imp_of_mem fun hf hg h => by rwa [head_snoc ((mem_dd _ l).1 hf), head_snoc ((mem_dd _ l).1 hg)]
    rw [dd_snoc]
    split
    · exact ih'
    · rename_i hx
      refine List.pairwise_append.2 ⟨ih', List.pairwise_singleton _ _, fun f hf g hg => ?_⟩
      rw [List.mem_singleton] at hg
      subst hg
      have hfl := (mem_dd f l).1 hf
      rw [head_snoc hfl, head_new (fun h => hx ((mem_dd _ l).2 h))]
      exact (List.getElem?_eq_some_iff.1 (head_at hfl).1).1

/-! ### the reference: group by group -/
/-- Is there none that is the same ahead of place i? -/
def isFirst (l : List F) (i : Nat) : Bool := decide (∀ k, k < i → l[k]? ≠ l[i]?)
theorem first_dd {l : List F} {i : Nat} {x : F} (h : l[i]? = some x) : isFirst l i = true ↔ x ∉ dd (l.take i) := by
  have hi := (List.getElem?_eq_some_iff.1 h).1
  unfold isFirst
  rw [decide_eq_true_iff, mem_dd]
  constructor
  · intro hf hm
    obtain ⟨k, hk⟩ := List.getElem?_of_mem hm
    rw [List.getElem?_take] at hk
    split at hk
    · rename_i hki
      exact hf k hki (hk.trans h.symm)
    · cases hk
  · intro hm k hk e
    refine hm (List.mem_of_getElem? (i := k) ?_)
    rw [List.getElem?_take, if_pos hk, e, h]
/-- The reference's groups before place i. -/
def rgrp (l : List F) (i : Nat) : List (List Nat) := (dd (l.take i)).map (pos l)
theorem rgrp_all (l : List F) : rgrp l l.length = grpL l := by rw [rgrp, List.take_length, grpL]
theorem rgrp_old {l : List F} {i : Nat} {x : F} (h : l[i]? = some x) (hf : isFirst l i = false) : rgrp l (i + 1) = rgrp l i := by
  have hx : x ∈ dd (l.take i) := Classical.byContradiction fun hn => by
    rw [(first_dd h).2 hn] at hf
    cases hf
  rw [rgrp, rgrp, take_snocF h, dd_snoc, if_pos hx]
theorem rgrp_new {l : List F} {i : Nat} {x : F} (h : l[i]? = some x) (hf : isFirst l i = true) : rgrp l (i + 1) = rgrp l i ++ [pos l x] := by
  have hx := (first_dd h).1 hf
  rw [rgrp, rgrp, take_snocF h, dd_snoc, if_neg hx, List.map_append]
  rfl
/-- The places of x from i on, up to k: what the reference's inner loop has collected. -/
def rpos (l : List F) (x : F) (i k : Nat) : List Nat := (List.range k).filter fun j => decide (i ≤ j) && decide (l[j]? = some x)
theorem rpos_start (l : List F) (x : F) (i : Nat) : rpos l x i i = [] := by
  unfold rpos
  rw [List.filter_eq_nil_iff]
  intro j hj
  rw [List.mem_range] at hj
  simp
  omega
theorem rpos_snoc {l : List F} {x : F} {i k : Nat} (h : i ≤ k) : rpos l x i (k + 1) = rpos l x i k ++ if l[k]? = some x then [k] else [] := by
  unfold rpos
  rw [List.range_succ, List.filter_append]
  congr 1
  by_cases e : l[k]? = some x
  · rw [if_pos e, List.filter_cons_of_pos (by simp [h, e])]
    rfl
  · rw [if_neg e, List.filter_cons_of_neg (by simp [e])]
    rfl
theorem rpos_all {l : List F} {i : Nat} {x : F} (h : l[i]? = some x) (hf : isFirst l i = true) : rpos l x i l.length = pos l x := by
  unfold rpos pos
  apply List.filter_congr
  intro j _
  by_cases e : l[j]? = some x
  · have hij : i ≤ j := by
      rcases Nat.lt_or_ge j i with hlt | hge
      · exact absurd (e.trans h.symm) (of_decide_eq_true hf j hlt)
      · exact hge
    simp [e, hij]
  · simp [e]
end
end Go.Proofs.YtonafonhadocgaaDoor

/- The state of flow.Groups: a row of rows of numbers, a map from flows to their places. Plain laws. -/
namespace Go.Proofs.YtonafonhadocgaaDoor
open Go.RowKit Go.Shelf

/-- Places as cells. -/
def ints (l : List Nat) : List Value := l.map fun i : Nat => Value.int .i64 (i : Int)
theorem ints_len (l : List Nat) : (ints l).length = l.length := by simp [ints]
abbrev nilS : Value := .slice none 0 0

theorem info_int : (Tryd.prog.info? 3).map (fun i => (i.zero, i.size, i.bytes)) = some (some (.int .i64 0), 1, 8) := by kernel_rfl
theorem info_ints : (Tryd.prog.info? 45).map (fun i => (i.zero, i.size, i.bytes)) = some (some nilS, 1, 24) := by kernel_rfl
theorem pos_len {F : Type} [DecidableEq F] (l : List F) (f : F) : (pos l f).length ≤ l.length := by
  have h := List.length_filter_le (fun k => decide (l[k]? = some f)) (List.range l.length)
  rw [List.length_range] at h
  exact h

structure GSt (bo bm M base cnt : Nat) (v : Value) (vs : List Value) (gs : List (List Nat)) (D : DataW Unit) (W : World) : Prop where
  out : Blk W bo 43 #[v]
  of_ : Blk W bm 62 #[.map (some M)]
  own : OwnV 45 W base v vs
  len : vs.length = gs.length
  rows : ∀ (j : Nat) (g : List Nat), gs[j]? = some g → ∃ u, vs[j]? = some u ∧ OwnV 3 W base u (ints g)
  apart : ∀ (i j : Nat) (u u' : Value), i ≠ j → vs[i]? = some u → vs[j]? = some u' → ∀ b, u.ownBlock = some b → u'.ownBlock ≠ some b
  map : W.ownsMap Tryd.prog 29 (plainElem Tryd.prog 3) M cnt D

theorem OwnV.blk {T : TypeId} {w : World} {base b : Nat} {v : Value} {xs : List Value} (h : OwnV T w base v xs) (hb : v.ownBlock = some b) : ∃ cur, w.heap[b]? = some (.cells cur T (0, 0)) := by
  rcases h.2 with ⟨rfl, _⟩ | ⟨g, cap, cur, rfl, _, hg, _⟩
  · cases hb
  · injection hb with hb
    subst hb
    exact ⟨cur, hg⟩
/-- Rows of different elements lie in different blocks. -/
theorem OwnV.differ {T T' : TypeId} {w : World} {base base' b : Nat} {v v' : Value} {xs xs' : List Value} (hT : T ≠ T') (h : OwnV T w base v xs) (h' : OwnV T' w base' v' xs') (hb : v.ownBlock = some b) : v'.ownBlock ≠ some b := fun hb' => by
  obtain ⟨c, hc⟩ := h.blk hb
  obtain ⟨c', hc'⟩ := h'.blk hb'
  rw [hc] at hc'
  injection hc' with e
  injection e with _ e _
  exact hT e

section
variable {bo bm M base cnt : Nat} {v : Value} {vs : List Value} {gs : List (List Nat)} {D : DataW Unit} {W W' : World}
theorem GSt.kept (h : GSt bo bm M base cnt v vs gs D W) {row : Option Nat} (hg : W.grownBy W' row) (h1 : some bo ≠ row) (h2 : some bm ≠ row) (h3 : some M ≠ row) (h4 : ∀ r, row = some r → r < base) : GSt bo bm M base cnt v vs gs D W' := by
  have no : ∀ {T : TypeId} {u : Value} {xs : List Value}, OwnV T W base u xs → ∀ g, u.ownBlock = some g → some g ≠ row := fun ho g hb e => by
    have := (ho.blk_lt hb).1
    have := h4 g e.symm
    omega
  refine ⟨h.out.grown hg h1, h.of_.grown hg h2, h.own.grown hg (no h.own), h.len, fun j g hj => ?_, h.apart, h.map.kept hg h3⟩
  obtain ⟨u, hu, ho⟩ := h.rows j g hj
  exact ⟨u, hu, ho.grown hg (no ho)⟩
theorem GSt.upto (h : GSt bo bm M base cnt v vs gs D W) {cnt' : Nat} (hc : cnt ≤ cnt') : GSt bo bm M base cnt' v vs gs D W := ⟨h.out, h.of_, h.own, h.len, h.rows, h.apart, h.map.mono hc⟩
theorem GSt.drew (h : GSt bo bm M base cnt v vs gs D W) : GSt bo bm M base cnt v vs gs D W.drew := ⟨h.out, h.of_, h.own, h.len, h.rows, h.apart, h.map⟩
/-- One row more, which is nil: the new head in its variable. -/
theorem GSt.more (h : GSt bo bm M base cnt v vs gs D W) (hbo : bo < base) (hbm : bm < base) (hM : M < base) {v' : Value} {W2 W3 : World} (ho : OwnV 45 W2 base v' (vs ++ [nilS])) (hg : W.grownBy W2 v.ownBlock) (hs : Blk W3 bo 43 #[v']) (hg3 : W2.grownBy W3 (some bo))
    (hne : bm ≠ bo) (hne2 : M ≠ bo) : GSt bo bm M base cnt v' (vs ++ [nilS]) (gs ++ [[]]) D W3 := by
  have low : ∀ k, k < base → some k ≠ v.ownBlock := fun k hk e => by have := (h.own.blk_lt e.symm).1; omega
  have hi : ∀ {T : TypeId} {w : World} {u : Value} {xs : List Value}, OwnV T w base u xs → ∀ g, u.ownBlock = some g → some g ≠ some bo := fun ho g hb e => by
    have := (ho.blk_lt hb).1
    injection e with e
    omega
  have hl : (vs ++ [nilS]).length = (gs ++ [[]]).length := by rw [List.length_append, List.length_append, h.len]; rfl
  refine ⟨hs, (h.of_.grown hg (low bm hbm)).grown hg3 (fun e => by injection e with e; exact hne e), ho.grown hg3 (hi ho), hl, fun j g hj => ?_, fun i j u u' hij hi2 hj2 b hb => ?_, (h.map.kept hg (low M hM)).kept hg3 (fun e => by injection e with e; exact hne2 e)⟩
  · by_cases hjl : j < gs.length
    · rw [List.getElem?_append_left hjl] at hj
      obtain ⟨u, hu, ho2⟩ := h.rows j g hj
      have ho3 : OwnV 3 W2 base u (ints g) := ho2.grown hg (fun b hb e => h.own.differ (by decide) ho2 e.symm hb)
      exact ⟨u, by rw [List.getElem?_append_left (by rw [h.len]; exact hjl)]; exact hu, ho3.grown hg3 (hi ho3)⟩
    · have hj' : j = gs.length := by
        have := (List.getElem?_eq_some_iff.1 hj).1
        rw [List.length_append] at this
        simp at this
        omega
      subst hj'
      rw [List.getElem?_append_right (Nat.le_refl _), Nat.sub_self] at hj
      injection hj with hj
      subst hj
      exact ⟨nilS, by rw [← h.len, List.getElem?_append_right (Nat.le_refl _), Nat.sub_self]; rfl, OwnV.nil _ _⟩
  · by_cases hil : i < vs.length
    · rw [List.getElem?_append_left hil] at hi2
      by_cases hjl : j < vs.length
      · rw [List.getElem?_append_left hjl] at hj2
        exact h.apart i j u u' hij hi2 hj2 b hb
      · rw [List.getElem?_append_right (by omega)] at hj2
        have : u' = nilS := by
          cases hk : j - vs.length with
          | zero => rw [hk] at hj2; injection hj2 with e; exact e.symm
          | succ k => rw [hk] at hj2; cases hj2
        rw [this]
        intro e
        cases e
    · rw [List.getElem?_append_right (by omega)] at hi2
      have : u = nilS := by
        cases hk : i - vs.length with
        | zero => rw [hk] at hi2; injection hi2 with e; exact e.symm
        | succ k => rw [hk] at hi2; cases hi2
      rw [this] at hb
      cases hb
/-- The map holds one more. -/
theorem GSt.put (h : GSt bo bm M base cnt v vs gs D W) (hbo : bo ≠ M) (hbm : bm ≠ M) (hM : M < base) {D' : DataW Unit} {cnt' : Nat} (hg : W.grownBy W' (some M)) (hm : W'.ownsMap Tryd.prog 29 (plainElem Tryd.prog 3) M cnt' D') : GSt bo bm M base cnt' v vs gs D' W' := by
  have no : ∀ {T : TypeId} {u : Value} {xs : List Value}, OwnV T W base u xs → ∀ g, u.ownBlock = some g → some g ≠ some M := fun ho g hb e => by
    have := (ho.blk_lt hb).1
    injection e with e
    omega
  refine ⟨h.out.grown hg (fun e => by injection e with e; exact hbo e), h.of_.grown hg (fun e => by injection e with e; exact hbm e), h.own.grown hg (no h.own), h.len, fun j g hj => ?_, h.apart, hm⟩
  obtain ⟨u, hu, ho⟩ := h.rows j g hj
  exact ⟨u, hu, ho.grown hg (no ho)⟩
/-- A row of one-cell elements that are stored into. -/
theorem OwnV.stored {T : TypeId} {w : World} {g n c : Nat} {xs : List Value} (h : OwnV T w base (.slice (some ⟨g, 0, none⟩) n c) xs) (j : Nat) (_hj : j < xs.length) (u : Value) : OwnV T (w.setCell ⟨g, j, none⟩ u) base (.slice (some ⟨g, 0, none⟩) n c) (xs.set j u) := by
  rcases h.2 with ⟨hv, _⟩ | ⟨g', cap, cur, hv, hb, hg, hnc, hcm, hcs, ht⟩
  · cases hv
  · injection hv with e1 e2 e3
    injection e1 with e1
    injection e1 with e1
    subst e1 e2 e3
    refine ⟨by simp, .inr ⟨g, c, cur.setIfInBounds j u, by rw [List.length_set], hb, ?_, by rw [List.length_set]; exact hnc, hcm, by simp [hcs], ?_⟩⟩
    · simp [World.setCell, Array.getElem?_modify, hg]
    · rw [Nat.mul_one] at ht
      rw [List.length_set, Nat.mul_one, Array.toList_setIfInBounds, List.take_set, ht]
/-- A number more in row j. -/
theorem GSt.add (h : GSt bo bm M base cnt v vs gs D W) (hbo : bo < base) (hbm : bm < base) (hM : M < base) {g n c j i : Nat} {u u' : Value} {gr : List Nat} {W2 : World} (hv : v = .slice (some ⟨g, 0, none⟩) n c) (hj : vs[j]? = some u) (hgj : gs[j]? = some gr)
    (ho : OwnV 3 W2 base u' (ints (gr ++ [i]))) (hg : W.grownBy W2 u.ownBlock) (hat : u'.ownBlock = u.ownBlock ∨ ∃ k, u'.ownBlock = some k ∧ W.heap.size ≤ k) : GSt bo bm M base cnt v (vs.set j u') (gs.set j (gr ++ [i])) D (W2.setCell ⟨g, j, none⟩ u') := by
  obtain ⟨u0, hu0, hou⟩ := h.rows j gr hgj
  rw [hj] at hu0
  injection hu0 with hu0
  subst hu0
  have hjl := (List.getElem?_eq_some_iff.1 hj).1
  have hgv : v.ownBlock = some g := by rw [hv]; rfl
  have hgb := (h.own.blk_lt hgv).1
  have low : ∀ k, k < base → some k ≠ u.ownBlock := fun k hk e => by have := (hou.blk_lt e.symm).1; omega
  have hown2 : OwnV 45 W2 base v vs := h.own.grown hg (fun b hb e => h.own.differ (by decide) hou hb e.symm)
  have hfar : W2.grownBy (W2.setCell ⟨g, j, none⟩ u') (some g) := grownBy_setCell W2 g j u'
  refine ⟨(h.out.grown hg (low bo hbo)).far (by simp; omega) _, (h.of_.grown hg (low bm hbm)).far (by simp; omega) _, ?_, by rw [List.length_set, List.length_set, h.len], fun k g' hk => ?_, fun a b x x' hab hx hx' q hq => ?_, (h.map.kept hg (low M hM)).kept hfar (fun e => by injection e with e; omega)⟩
  · rw [hv] at hown2 ⊢
    exact hown2.stored j hjl u'
  · rw [List.getElem?_set] at hk
    by_cases e : j = k
    · subst e
      rw [if_pos rfl, if_pos (by rw [← h.len]; exact hjl)] at hk
      injection hk with hk
      subst hk
      refine ⟨u', by rw [List.getElem?_set, if_pos rfl, if_pos hjl], ?_⟩
      exact ho.grown hfar (fun q hq e => by
        injection e with e
        subst e
        exact hown2.differ (by decide) ho hgv hq)
    · rw [if_neg e] at hk
      obtain ⟨x, hx, hox⟩ := h.rows k g' hk
      refine ⟨x, by rw [List.getElem?_set, if_neg e]; exact hx, ?_⟩
      have hox2 : OwnV 3 W2 base x (ints g') := hox.grown hg (fun q hq e2 => h.apart j k u x e hj hx q e2.symm hq)
      exact hox2.grown hfar (fun q hq e => by
        injection e with e
        subst e
        exact hown2.differ (by decide) hox2 hgv hq)
  · have hnew : ∀ k x q, j ≠ k → vs[k]? = some x → u'.ownBlock = some q → x.ownBlock ≠ some q := fun k x q hjk hx hq e => by
      rcases hat with h1 | ⟨p, h1, h2⟩
      · exact h.apart j k u x hjk hj hx q (h1.symm.trans hq) e
      · rw [h1] at hq
        injection hq with hq
        subst hq
        have hkl := (List.getElem?_eq_some_iff.1 hx).1
        obtain ⟨g', hg'⟩ : ∃ g', gs[k]? = some g' := ⟨gs[k]'(by rw [← h.len]; exact hkl), List.getElem?_eq_getElem _⟩
        obtain ⟨x2, hx2, hox⟩ := h.rows k g' hg'
        rw [hx] at hx2
        injection hx2 with hx2
        subst hx2
        have := (hox.blk_lt e).2
        omega
    rw [List.getElem?_set] at hx hx'
    by_cases e1 : j = a
    · subst e1
      rw [if_pos rfl, if_pos hjl] at hx
      injection hx with hx
      subst hx
      rw [if_neg hab] at hx'
      exact hnew b x' q hab hx' hq
    · rw [if_neg e1] at hx
      by_cases e2 : j = b
      · subst e2
        rw [if_pos rfl, if_pos hjl] at hx'
        injection hx' with hx'
        subst hx'
        intro e
        exact hnew a x q (fun e => e1 e) hx e hq
      · rw [if_neg e2] at hx'
        exact h.apart a b x x' hab hx hx' q hq
end
end Go.Proofs.YtonafonhadocgaaDoor

/- flow.Groups. -/
namespace Go.Proofs.YtonafonhadocgaaDoor
open Go.RowKit Go.Shelf

structure FlOk (f : En × En) : Prop where
  la : f.1.2.1.length = 16
  lb : f.2.2.1.length = 16
  pa : f.1.2.2 < 65536
  pb : f.2.2.2 < 65536
theorem KyOk.fl {k : Ky} (h : KyOk k) : FlOk k.1 := ⟨h.la, h.lb, h.pa, h.pb⟩
abbrev fC (f : En × En) : Array Value := flC f.1 f.2
/-- The map tells each flow's group, and one. -/
structure FMap (D : DataW Unit) (fs : List (En × En)) : Prop where
  at_ : ∀ f, FlOk f → ∀ kl, keyOf Tryd.prog 29 (.agg (fC f)) = some kl → D.atKey kl (.lit (.int .i64 0)) = .lit (.int .i64 (gnum fs f : Int))
theorem FMap.start : FMap (.map []) [] := ⟨fun _ _ _ _ => rfl⟩
theorem FMap.old {D : DataW Unit} {fs : List (En × En)} {x : En × En} (h : FMap D fs) (hx : x ∈ dd fs) : FMap D (fs ++ [x]) :=
  ⟨fun f hf kl hk => by rw [h.at_ f hf kl hk, gnum_old hx]⟩
set_option maxRecDepth 100000 in
theorem FMap.new {D : DataW Unit} {fs : List (En × En)} {x : En × En} {kx : Lit} (h : FMap D fs) (hx : x ∉ dd fs) (hok : FlOk x) (hkx : keyOf Tryd.prog 29 (.agg (fC x)) = some kx) (hD : Go.Maps.IsMap D) :
    FMap (D.put kx (.lit (.int .i64 (((dd fs).length + 1 : Nat) : Int)))) (fs ++ [x]) := by
  refine ⟨fun f hf kl hk => ?_⟩
  rw [gnum_new hx]
  by_cases e : f = x
  · subst e
    rw [hk] at hkx
    injection hkx with hkx
    subst hkx
    rw [if_pos rfl, Go.Maps.atKey_put_same hD (flow_law.key hk)]
  · rw [if_neg e, Go.Maps.atKey_put_other (fun he => e ?_), h.at_ f hf kl hk]
    subst he
    have h1 := flow_law.inj hk hkx
    injection h1 with h1
    obtain ⟨e1, e2⟩ := flC_inj hf.la hf.lb hok.la hok.lb h1
    exact Prod.ext e1 e2

section
variable {F : Fence} {nF : Nat} {P : Program} {ops : Array Oper} {rest : List Oper} {o : Oper} {a : Act} {w : World} {Q : Exit → Act → World → Prop}
/-- A look-up whose answer is known. -/
theorem wpListIn_lookup_known (hg : o.guard = none) (m x : Operand) (t : TypeId) (hop : o.op = Op.lookup t m x false)
    (k e : TypeId) (q : IntKind) (K : Go.Maps.Keyed P k) (ht : P.underlying t = some (.map k e)) (he : P.underlying e = some (.int q)) (hz : (zeroValue e).run P w = .ok (.int q 0) w) (b n : Nat) (D : DataW Unit)
    (hm : a.eval m = .map (some b)) (hown : w.ownsMap P k (plainElem P e) b n D) (key : Value) (kl : Lit) (hx : a.eval x = key) (hkey : keyOf P k key = some kl) (c : Int) (hc : D.atKey kl (.lit (.int q 0)) = .lit (.int q c))
    (h : wpListIn F nF P ops Q rest (a.put o.dst (.int q c)) w) : wpListIn F nF P ops Q (o :: rest) a w :=
  wpListIn_lookup_own_int w hg m x t hop k e q K ht he hz b n D hm hown key kl hx hkey fun c' hc' _ => by
    rw [hc] at hc'
    injection hc' with hc'
    injection hc' with _ hc'
    rw [← hc']
    exact h
theorem at_lookIn {dst : Option Tmp} {t : TypeId} {ps : String} {af : Array Edge} {gd : Option (Nat × Bool)} (ty : TypeId) (m x : Operand) (h : wpListIn F nF P ops Q ({ dst := dst, op := .lookup ty m x false, type := t, pos := ps, after := af, guard := gd } :: rest) a w) :
    wpListIn F nF P ops Q ({ dst := dst, op := .lookup ty m x false, type := t, pos := ps, after := af, guard := gd } :: rest) a w := h
theorem at_updIn {dst : Option Tmp} {t : TypeId} {ps : String} {af : Array Edge} {gd : Option (Nat × Bool)} (ty : TypeId) (m x v : Operand) (h : wpListIn F nF P ops Q ({ dst := dst, op := .mapUpdate ty m x v, type := t, pos := ps, after := af, guard := gd } :: rest) a w) :
    wpListIn F nF P ops Q ({ dst := dst, op := .mapUpdate ty m x v, type := t, pos := ps, after := af, guard := gd } :: rest) a w := h
theorem at_appIn {dst : Option Tmp} {t : TypeId} {ps : String} {af : Array Edge} {gd : Option (Nat × Bool)} (av : Array Operand) (ts : Array TypeId) (h : wpListIn F nF P ops Q ({ dst := dst, op := .call { callee := .builtin .append, args := av, argTypes := ts }, type := t, pos := ps, after := af, guard := gd } :: rest) a w) :
    wpListIn F nF P ops Q ({ dst := dst, op := .call { callee := .builtin .append, args := av, argTypes := ts }, type := t, pos := ps, after := af, guard := gd } :: rest) a w := h
end

theorem if_wanted {c : Bool} (h : c = true) {X Y : Prop} (hx : X) : if c = true then X else Y := by
  rw [if_pos h]
  exact hx
theorem wp_append_at {P : Program} {o : Oper} {a : Act} {w w' : World} {K : Act → World → Prop} {Q : Exit → Act → World → Prop} {s x : Operand} {t : TypeId} {v y v' : Value}
    (ho : o.op = .call { callee := .builtin .append, args := #[s, x], argTypes := #[t, t] }) (hs : a.eval s = v) (hx : a.eval x = y)
    (hrun : (Builtin.append_ #[t, t] o.type #[v, y]).run P w = .ok v' w') (h : K (a.put o.dst v') w') : o.wp P a w K Q := by
  unfold Oper.wp
  simp [execOp, ho, resolve, invoke, builtin, hs, hx, hrun, Result.andThen]
  exact h

theorem set_last {α : Type} {l : List α} {j : Nat} (h : j = l.length) (a b : α) : (l ++ [a]).set j b = l ++ [b] := by
  subst h
  induction l with
  | nil => rfl
  | cons x l ih => simp [ih]
/-- Behind the append of an empty row. -/
structure NewHead (X : Nat → Prop) (w A' : World) (N cnt g : Nat) (kcs : Array Value) (v : Value) (vs : List Value) (gs : List (List Nat)) (D : DataW Unit) (bv m c1 : Nat) (w6 : World) : Prop where
  cN : w6.cell? ⟨N, 0, none⟩ = some v
  fz : w6.frozen? ⟨N, 0, none⟩ = false
  hm : m = vs.length + 1
  hbv : N + 6 ≤ bv
  st : GSt N (N + 1 + 1) (N + 1) (N + 6) cnt (.slice (some ⟨bv, 0, none⟩) m c1) (vs ++ [nilS]) (gs ++ [[]]) D (w6.setCell ⟨N, 0, none⟩ (.slice (some ⟨bv, 0, none⟩) m c1))
  kx : KeepsX X A' (w6.setCell ⟨N, 0, none⟩ (.slice (some ⟨bv, 0, none⟩) m c1))
  below : Below N w (w6.setCell ⟨N, 0, none⟩ (.slice (some ⟨bv, 0, none⟩) m c1))
  key : Blk (w6.setCell ⟨N, 0, none⟩ (.slice (some ⟨bv, 0, none⟩) m c1)) g 32 kcs
theorem new_head {X : Nat → Prop} {w A' w6 : World} {N cnt g : Nat} {kcs : Array Value} {v v1 : Value} {vs : List Value} {gs : List (List Nat)} {D : DataW Unit} {c : Array Value} {tc : TypeId}
    (h : GSt N (N + 1 + 1) (N + 1) (N + 6) cnt v vs gs D A') (hz : N + 6 ≤ A'.heap.size) (hb : Below N w A') (hX : ∀ r, X r → N + 1 < r ∧ r < N + 6) (hk : Blk A' g 32 kcs) (hg : N + 6 ≤ g)
    (ho6 : w6.ownsRow (N + 6) 45 1 v1 (vs.length + 1) (vs ++ [nilS])) (hg6 : (A'.alloc (.cells c tc)).grownBy w6 v.ownBlock) :
    ∃ bv m c1, v1 = .slice (some ⟨bv, 0, none⟩) m c1 ∧ NewHead X w A' N cnt g kcs v vs gs D bv m c1 w6 := by
  have ho : OwnV 45 w6 (N + 6) v1 (vs ++ [nilS]) := by
    unfold OwnV
    rw [List.length_append]
    exact ho6
  have low : ∀ k, k < N + 6 → some k ≠ v.ownBlock := fun k hk e => by have := (h.own.blk_lt e.symm).1; omega
  have hgk : some g ≠ v.ownBlock := fun e => by
    obtain ⟨cur, hc⟩ := h.own.blk e.symm
    unfold Blk at hk
    rw [hc] at hk
    injection hk with hk
    injection hk with _ hk _
    exact absurd hk (by decide)
  obtain ⟨A1, c1, rfl, hrd, hA1⟩ := ho.form
  obtain ⟨bv, rfl, hbv⟩ : ∃ bv, A1 = some ⟨bv, 0, none⟩ ∧ N + 6 ≤ bv := by
    rcases hA1 with rfl | ⟨g1, rfl, h1, _⟩
    · obtain ⟨b1, o1, e1, _⟩ := hrd.2.2.2 (by simp)
      cases e1
    · exact ⟨g1, rfl, h1⟩
  have hN6 : Blk w6 N 43 #[v] := (h.out.alloc _).grown hg6 (low N (by omega))
  have hl : (vs ++ [nilS]).length = vs.length + 1 := by simp
  have b6 : Below N w w6 := (hb.alloc (by omega) (.cells c tc)).grown hg6 (by simp; omega) (fun r e => by have := (h.own.blk_lt e).1; omega)
  refine ⟨bv, (vs ++ [nilS]).length, c1, rfl, ⟨?_, hN6.frozen 0, hl, hbv, ?_, ?_, ?_, ?_⟩⟩
  · have := hN6.cell 0
    simpa using this
  · exact (h.kept (World.grownBy_alloc A' (.cells c tc) none) (by simp) (by simp) (by simp) (fun r e => by cases e)).more (by omega) (by omega) (by omega) ho hg6 (hN6.set_ 0 _) (grownBy_setCell w6 N 0 _) (by omega) (by omega)
  · exact (((KeepsX.refl X A').alloc (fun r hr => by have := hX r hr; omega) (.cells c tc)).grown (fun r hr => by have := hX r hr; simp; omega) hg6 (fun r e hr => low r (hX r hr).2 e.symm)).set_ (p := ⟨N, 0, none⟩) (fun hr => by have := hX _ hr; simp at this; omega) _
  · exact b6.setCell (p := ⟨N, 0, none⟩) (Nat.le_refl _) _
  · exact ((hk.alloc _).grown hg6 hgk).far (p := ⟨N, 0, none⟩) (by show g ≠ N; omega) _

/-- What flow.Groups returns: a row of rows. -/
def GRes (base : Nat) (v : Value) (gs : List (List Nat)) (W : World) : Prop :=
  ∃ vs, OwnV 45 W base v vs ∧ vs.length = gs.length ∧ ∀ (j : Nat) (g : List Nat), gs[j]? = some g → ∃ u, vs[j]? = some u ∧ OwnV 3 W base u (ints g)

set_option maxRecDepth 100000 in
set_option maxHeartbeats 8000000 in
theorem groups_any (A : Option Addr) (n c : Nat) (ks : List Ky) (w : World) (hr : RdK w A n c ks) (hok : ∀ k ∈ ks, KyOk k) (hn : n ≤ 1000) :
    Calls Tryd.prog 13 #[.slice A n c] w fun e w' => ∃ v, e = .returned v ∧ GRes w.heap.size v (grpL (ks.map (·.1))) w' ∧ Below w.heap.size w w' := by
  have hmm := @run_makeMap Tryd.prog
  refine (callsIn_wide (n := 0)).1 (callsIn_of_wp_marks Tryd.func13 rfl trivial ?_ rfl)
  simp only [Tryd.ntmps13, List.size_toArray, List.length_cons, List.length_nil, Nat.reduceAdd, Nat.reduceSub, Array.replicate_succ, Array.replicate_zero, List.push_toArray, List.append_toArray, List.nil_append, List.cons_append]
  gi_wp2_with fail
  refine ⟨trivial, rfl, (callsIn_wide.2 (all_make A n c _)).mono ?_⟩
  rintro e w' ⟨rfl, rfl⟩
  gi_wp2_with fail
  have kO := ((((Blk.new w 43 #[nilS]).alloc (.map #[] 0)).alloc (.cells #[.map (some (w.heap.size + 1))] 62)).alloc (.cells #[.slice A n c] 42))
  have kM := ((World.ownsMap_made (H := Unit) (w.alloc (.cells #[nilS] 43)) Tryd.prog 29 (plainElem Tryd.prog 3)).alloc (.cells #[.map (some (w.heap.size + 1))] 62)).alloc (.cells #[.slice A n c] 42)
  have kF := (Blk.new ((w.alloc (.cells #[nilS] 43)).alloc (.map #[] 0)) 62 #[.map (some (w.heap.size + 1))]).alloc (.cells #[.slice A n c] 42)
  have kS := Blk.new (((w.alloc (.cells #[nilS] 43)).alloc (.map #[] 0)).alloc (.cells #[.map (some (w.heap.size + 1))] 62)) 42 #[.slice A n c]
  have b0 : Below w.heap.size w ((((w.alloc (.cells #[nilS] 43)).alloc (.map #[] 0)).alloc (.cells #[.map (some (w.heap.size + 1))] 62)).alloc (.cells #[.slice A n c] 42)) :=
    ((((Below.refl _ w).alloc (Nat.le_refl _) _).alloc (by simp) _).alloc (by simp; omega) _).alloc (by simp; omega) _
  have hz : ((((w.alloc (.cells #[nilS] 43)).alloc (.map #[] 0)).alloc (.cells #[.map (some (w.heap.size + 1))] 62)).alloc (.cells #[.slice A n c] 42)).heap.size = w.heap.size + 4 := by simp
  simp only [World.size_alloc] at kF kS kM
  have hrn : ∀ r off, 0 < n → A = some ⟨r, off, none⟩ → r < w.heap.size := fun r off h0 e => by
    obtain ⟨b, off', e', hb, _⟩ := hr.2.2 h0
    rw [e] at e'
    injection e' with e'
    injection e' with e1 _
    omega
  have hr4 : ∀ W, Below w.heap.size w W → RdK W A n c ks := fun W hb => ⟨hr.1, hr.2.1, fun h0 => by
    obtain ⟨b, off, e, hbl, hrow⟩ := hr.2.2 h0
    refine ⟨b, off, e, Nat.lt_of_lt_of_le hbl hb.size, fun j k hj i v hv => ?_⟩
    have h1 := hrow j k hj i v hv
    unfold World.cell? at h1 ⊢
    rw [hb.block b hbl]
    exact h1⟩
  have hlen := hr.1
  clear hr
  generalize (((w.alloc (.cells #[nilS] 43)).alloc (.map #[] 0)).alloc (.cells #[.map (some (w.heap.size + 1))] 62)).alloc (.cells #[.slice A n c] 42) = w4 at *
  have G0 : GSt w.heap.size (w.heap.size + 1 + 1) (w.heap.size + 1) (w.heap.size + 6) 0 nilS [] [] (.map []) w4 :=
    ⟨kO, kF, OwnV.nil _ _, rfl, (fun j g h => by cases h), (fun i j u u' _ h => by cases h), kM⟩
  clear kO kF kM
  obtain ⟨N, hN⟩ : ∃ N, N = w.heap.size := ⟨_, rfl⟩
  rw [← hN] at kS b0 hz hrn hr4 G0 ⊢
  have HN := Lib.hid hN
  have HZ := Lib.hid hz
  have HOK := Lib.hid hok
  clear hN hok hmm
  refine range_outerR (gf := 35) (lb := #[.pointer (some ⟨N + 1 + 1 + 1, 0, none⟩)]) rfl (enters_of Tryd.func35 (by kernel_rfl) rfl)
    (encs := fun x : Nat × Ky => #[.int .i64 (x.1 : Int), .agg (kyC x.2)]) (fun _ => rfl) (iks ks) (fun r => r = N + 1 + 1 + 1) (fun W' => RdK W' A n c ks) ?seq ?hX
    (fun pre A' => ∃ v vs D, GSt N (N + 1 + 1) (N + 1) (N + 6) pre.length v vs (grpL (pre.map (·.2.1))) D A' ∧ FMap D (pre.map (·.2.1)) ∧ Below N w A') ?hI ?h0 ?hRR
    (fun x a' A' => ∃ g, a' = { tmps := #[.slice A n c, undef, nilS, .pointer (some ⟨N, 0, none⟩), .pointer (some ⟨N + 1 + 1, 0, none⟩), .int .i64 (x.1 : Int), .pointer (some ⟨g, 0, none⟩), undef, .map (some (N + 1)), .slice A n c, .func (.func 35) #[] #[.pointer (some ⟨N + 1 + 1 + 1, 0, none⟩)], .int .i64 (x.1 : Int), .agg (kyC x.2), undef, undef, undef, undef, undef, undef, undef, undef, undef, undef, undef, undef, undef, undef, undef, undef, undef, undef, undef, undef, undef, undef, undef, undef, undef, undef, undef, undef], defers := [] } ∧ Blk A' g 32 (kyC x.2) ∧ N + 6 ≤ g ∧ KyOk x.2) ?hAx ?assign ?body ?done
  case seq =>
    intro W1 hb1 hz1
    exact all_seq (N + 1 + 1 + 1) A n c ks W1 (kS.keep hb1) hlen HOK.out (by omega)
  case hX =>
    intro r e; omega
  case hRR =>
    rintro s A' ⟨v, vs, D, h1, h2, h3⟩
    exact hr4 A' h3
  case hI =>
    rintro s A' B row ⟨v, vs, D, h1, h2, h3⟩ hg hrow
    have low : ∀ r, row = some r → r = N + 1 + 1 + 1 ∨ r = N + 4 ∨ r = N + 5 := fun r e => by have := hrow r e; omega
    exact ⟨v, vs, D, h1.kept hg (fun e => by have := low N e.symm; omega) (fun e => by have := low _ e.symm; omega) (fun e => by have := low _ e.symm; omega) (fun r e => by have := low r e; omega), h2, h3.grown hg (by have := h3.size; have := HN.out; omega) (fun r e => by have := low r e; omega)⟩
  case h0 => exact ⟨nilS, [], .map [], G0, FMap.start, b0⟩
  case hAx =>
    rintro x a' A' o hlt ⟨g, rfl, hk, hg, hkok⟩
    refine ⟨g, rfl, ?_, hg, hkok⟩
    unfold Blk at hk ⊢
    rw [World.putObj_heap_other (by omega)]
    exact hk
  case assign =>
    rintro pre x rest A' K hxs ⟨v, vs, D, h1, h2, h3⟩ hX hz2 hK
    have hko := HOK.out x.2 (List.mem_of_getElem? (iks_mid hxs).1)
    have HSZ := Lib.hid (show (Tryd.prog.info? 32).map (·.size) = some (kyC x.2).size by rw [kySize, kyC_size hko])
    have HEQ := Lib.hid (show (kyC zK).size = (kyC x.2).size by rw [kyC_size hko]; rfl)
    have H1 := Lib.hid h1
    have H3 := Lib.hid h3
    have HK := Lib.hid hK
    have HX := Lib.hid hX
    have HZ2 := Lib.hid hz2
    clear h1 h3 hK hX hz2 hz hxs
    have hsem := @Oper.semAt_some
    gi_wp2_with ((with_reducible refine at_storeIn 32 (.tmp 6) (.tmp 12) ?_); refine wpListIn_store_blk 32 (.tmp 6) (.tmp 12) A'.heap.size 32 (kyC zK) (kyC x.2) (Blk.new A' 32 (kyC zK)) (by rfl) (by rfl) (by rfl) (by rfl) HSZ.out HEQ.out (kyC_one x.2) (by rfl) ?_; intro w5 hk5 hg5 hz5; have K5 := Lib.hid hk5; have G5 := Lib.hid (grown_fresh hg5); clear hk5 hg5 hz5)
    have hz6 := HZ.out
    have hz7 := HZ2.out
    exact HK.out _ w5 ((KeepsX.refl _ A').grown (fun r hr => by rcases hr with h | h | h <;> first | (have := HX.out r h; exact this) | omega) G5.out (fun r e => by cases e))
      ⟨v, vs, D, H1.out.kept G5.out (by simp) (by simp) (by simp) (fun r e => by cases e), h2, H3.out.grown G5.out (by have := H3.out.size; have := HN.out; omega) (fun r e => by cases e)⟩ ⟨A'.heap.size, rfl, K5.out, by omega, hko⟩
  case body =>
    rintro pre x rest a' A' hxs ⟨v, vs, D, h1, h2, h3⟩ ⟨g, rfl, hk, hg, hko⟩ hXA hzA hrec
    have hsem := @Oper.semAt_some
    obtain ⟨kl, hkl⟩ := flow_key x.2.1.1 x.2.1.2 hko.la hko.lb hko.pa hko.pb
    have HKL := Lib.hid hkl
    have HAT := Lib.hid (h2.at_ x.2.1 hko.fl kl hkl)
    have HRG := Lib.hid (hk.range 0 (fC x.2.1).toList (keC_flow x.2.1.1 x.2.1.2 x.2.2))
    have HFI := Lib.hid (fl_info x.2.1.1 x.2.1.2 hko.la hko.lb)
    have q4 := h1.of_.cell 0
    simp at q4
    have H1 := Lib.hid h1
    have H2 := Lib.hid h2
    have H3 := Lib.hid h3
    have HXA := Lib.hid hXA
    have HZA := Lib.hid hzA
    have HK := Lib.hid hk
    have HIX := Lib.hid (iks_mid hxs)
    have HMS := Lib.hid (show (pre ++ [x]).map (·.2.1) = pre.map (·.2.1) ++ [x.2.1] by simp)
    have HLP := Lib.hid (show (pre.map (·.2.1)).length = pre.length by simp)
    clear h1 h2 h3 hXA hzA hrec hz hk hkl hxs
    generalize pre.map (·.2.1) = fs at *
    by_cases hG : gnum fs x.2.1 = 0
    · have HNM := Lib.hid (gnum_zero.1 hG)
      have HAT0 := Lib.hid (show D.atKey kl (.lit (.int .i64 0)) = .lit (.int .i64 0) by rw [HAT.out, hG]; rfl)
      have q0 := H1.out.out.cell 0
      simp at q0
      have HVD := Lib.hid (show vs.length = (dd fs).length by rw [H1.out.len, grpL_len])
      have hfl : fs.length < 1000 := by
        have h3 := (List.getElem?_eq_some_iff.1 HIX.out.1).1
        have h4 := HLP.out
        omega
      have HVL := Lib.hid (show vs.length < 1000 by have := dd_len fs; have := HVD.out; omega)
      have HPL := Lib.hid (show pre.length < maxLen by have := HLP.out; unfold maxLen; omega)
      obtain ⟨i1, hi1, hy0, hy1, hy2⟩ := info_parts info_ints
      have HOW := Lib.hid (show (A'.alloc (.cells #[nilS] 45)).ownsRow (N + 6) 45 1 v vs.length vs from OwnV.alloc H1.out.own _)
      have C0 := Lib.hid (show (A'.alloc (.cells #[nilS] 45)).cell? ⟨A'.heap.size, 0, none⟩ = some nilS by
        simp)
      have HNW := Lib.hid (show ∀ jj uu, [nilS][jj]? = some uu → (A'.alloc (.cells #[nilS] 45)).cell? ((⟨A'.heap.size, 0, none⟩ : Addr).add jj) = some uu from fun jj uu hh => by
        cases jj with
        | zero => injection hh with hh; rw [← hh]; exact C0.out
        | succ jj => cases hh)
      have HN1 := Lib.hid (show ∀ u ∈ [nilS], u.oneCell' = true from fun uu hh => by rw [List.mem_singleton.1 hh]; rfl)
      have HB1 := Lib.hid (show vs.length + 1 ≤ maxLen by have := HVL.out; unfold maxLen; omega)
      have HB2 := Lib.hid (show (vs.length + 1) * 24 ≤ 140737488355328 by have := HVL.out; omega)
      have HB4 := Lib.hid (show N + 6 ≤ A'.heap.size by have := HZA.out; have := HZ.out; omega)
      have HB3 := Lib.hid (show N + 6 ≤ (A'.alloc (.cells #[nilS] 45)).heap.size by have := HB4.out; simp; omega)
      have HXR := Lib.hid (show ∀ r, (fun r => r = N + 1 + 1 + 1 ∨ r = w4.heap.size ∨ r = w4.heap.size + 1) r → N + 1 < r ∧ r < N + 6 from fun r hr => by have := HZ.out; rcases hr with h | h | h <;> omega)
      gi_wp2_with (first
        | ((with_reducible refine at_loadIn 29 (.tmp 14) ?_); refine wpListIn_load_rng 29 (.tmp 14) g 0 (fC x.2.1).toList _ HRG.out (by rfl) (by rfl) Tryd.underlying29 rfl HFI.out (by rfl) ?_)
        | ((with_reducible refine at_lookIn 62 (.tmp 13) (.tmp 15) ?_); refine wpListIn_lookup_known rfl (.tmp 13) (.tmp 15) 62 rfl 29 3 .i64 flow_law Tryd.underlying62 Tryd.underlying3 (Tryd.zeroValue3 _) (N + 1) pre.length D rfl H1.out.map (.agg (fC x.2.1)) kl rfl HKL.out _ HAT0.out ?_)
        | ((with_reducible refine at_appIn #[.tmp 19, .tmp 20] #[43, 43] ?_); refine wpListIn_append_own_at _ rfl (.tmp 19) (.tmp 20) 43 (by rfl) (N + 6) 45 i1 _ 1 24 Tryd.underlying43 hi1 hy0 hy1 hy2 rfl (by decide) v vs.length vs (by rfl) HOW.out ⟨A'.heap.size, 0, none⟩ 1 1 [nilS] (by rfl) (by rfl) HNW.out HN1.out HB1.out HB2.out HB3.out ?_; intro v1 w6 ho6 hg6 hn6 hat6; obtain ⟨bv, m, cv, rfl, fg⟩ := new_head H1.out HB4.out H3.out HXR.out HK.out hg ho6 hg6; have q6 := fg.cN; have q66 := fg.fz; have FG := Lib.hid fg; clear fg ho6 hg6 hn6 hat6)
        | ((with_reducible refine at_loadIn 43 (.tmp 3) ?_); have S7 := Lib.hid FG.out.st; have K7 := Lib.hid FG.out.kx; have B7 := Lib.hid FG.out.below; have Y7 := Lib.hid (FG.out.key.range 0 (fC x.2.1).toList (keC_flow x.2.1.1 x.2.1.2 x.2.2)); have HM := Lib.hid FG.out.hm; have HBV := Lib.hid FG.out.hbv; clear FG q6 q66; have q0 := S7.out.out.cell 0; simp at q0; have q4 := S7.out.of_.cell 0; simp at q4; generalize w6.setCell ⟨N, 0, none⟩ (.slice (some ⟨bv, 0, none⟩) m cv) = w7 at *; have HWF := Lib.hid (Go.WalkArith.wf_i64 (n := (m : Int)) (by have := HM.out; have := HVL.out; omega)))
        | ((with_reducible refine at_loadIn 29 (.tmp 25) ?_); refine wpListIn_load_rng 29 (.tmp 25) g 0 (fC x.2.1).toList _ Y7.out (by rfl) (by rfl) Tryd.underlying29 rfl HFI.out (by rfl) ?_)
        | ((with_reducible refine at_updIn 62 (.tmp 24) (.tmp 26) (.tmp 27) ?_); refine wpListIn_mapUpdate_own _ rfl (.tmp 24) (.tmp 26) (.tmp 27) 62 rfl 29 3 flow_law Tryd.underlying62 (plainElem Tryd.prog 3) (N + 1) pre.length D rfl S7.out.map HPL.out (.agg (fC x.2.1)) (.int .i64 (m : Int)) kl rfl rfl HKL.out (.lit (.int .i64 (m : Int))) [] (plainElem_int Tryd.underlying3 HWF.out) ?_; intro w8 hm8 hg8; have HM8 := Lib.hid hm8; have HG8 := Lib.hid hg8; clear hm8 hg8))
      have K8 := Lib.hid (K7.out.grown (fun r hr => by have := HXR.out r hr; have := K7.out.1; have := HB4.out; omega) HG8.out (fun r e hr => by injection e with e; have := HXR.out r hr; omega))
      have B8 := Lib.hid (B7.out.grown HG8.out (by have := K7.out.1; have := HB4.out; omega) (fun r e => by injection e with e; omega))
      have S8 := Lib.hid (S7.out.put (by omega) (by omega) (by omega) HG8.out HM8.out)
      have HMD := Lib.hid (show m = (dd fs).length + 1 by rw [HM.out, HVD.out])
      obtain ⟨j, hj⟩ : ∃ j, j = vs.length := ⟨_, rfl⟩
      have HJ := Lib.hid (show j = (grpL fs).length by rw [hj, H1.out.len])
      have hw : IntKind.i64.wrap ((m : Int) - 1) = (j : Int) := by
        have h1 := HM.out
        have h2 := HVL.out
        rw [IntKind.wrap_i64]
        omega
      have hbv := HBV.out
      have hj0 : (0 : Int) ≤ (j : Int) ∧ (j : Int) < (m : Int) := by have := HM.out; omega
      clear hj
      have HGA := Lib.hid (show (grpL fs ++ [[]])[j]? = some [] by rw [HJ.out]; simp)
      obtain ⟨u, hu, hou⟩ := S8.out.rows j _ HGA.out
      have hjl := (List.getElem?_eq_some_iff.1 hu).1
      have hjn : j < m := by omega
      have qj : w8.cell? ⟨bv, j, none⟩ = some u := (S8.out.own.cellAt j hjn).trans hu
      have HS := S8
      obtain ⟨i0, hi0, hz0, hz1, hz2⟩ := info_parts info_int
      have qj' : (w8.alloc (.cells #[.int .i64 (x.1 : Int)] 3)).cell? ⟨bv, j, none⟩ = some u := cell_later ((Below.refl _ _).alloc (Nat.le_refl _) _) qj
      have HGL := Lib.hid (show ([] : List Nat).length ≤ 1000 by simp)
      clear HOW C0 HNW q0 q4 K7 B7 S7 HM8 HG8 hG HB1 HB2 HB3
      refine wpIn_region_held (S := fun W => Blk W N 43 #[.slice (some ⟨bv, 0, none⟩) m cv]) (by kernel_rfl) (by kernel_rfl) (fun ⟨_, _, h⟩ => by cases h.1) HS.out.out (fun hHeld => ?_)
      refine wpAnyH_take (i := 0) (oi := _) (v := ?_) rfl (by kernel_rfl) (by kernel_rfl) (by kernel_rfl) (fun _ _ _ h => h) (Or.inl ⟨by rfl, ?_⟩) (by assumption) ?_
      case refine_2 => (intro w hSw; have q0 := hSw.cell 0; simp at q0; go_simp <;> with_reducible rfl)
      try simp only [List.getElem_toArray, List.getElem_cons_zero, Act.put, List.setIfInBounds_toArray, List.set_cons_zero, List.set_cons_succ]
      refine wpAnyH_take (i := 1) (oi := _) (v := ?_) rfl (by kernel_rfl) (by kernel_rfl) (by kernel_rfl) (fun _ _ _ h => h) (Or.inl ⟨by rfl, ?_⟩) (by assumption) ?_
      case refine_2 => (intro w hSw; go_simp <;> with_reducible rfl)
      try simp only [List.getElem_toArray, List.getElem_cons_zero, List.getElem_cons_succ, Act.put, List.setIfInBounds_toArray, List.set_cons_zero, List.set_cons_succ]
      refine wpAnyH_take (i := 2) (oi := _) (v := ?_) rfl (by kernel_rfl) (by kernel_rfl) (by kernel_rfl) (fun _ _ _ h => h) (Or.inl ⟨by rfl, ?_⟩) (by assumption) ?_
      case refine_2 => (intro w hSw; go_simp <;> with_reducible rfl)
      try simp only [List.getElem_toArray, List.getElem_cons_zero, List.getElem_cons_succ, Act.put, List.setIfInBounds_toArray, List.set_cons_zero, List.set_cons_succ]
      refine wpAnyH_take (i := 3) (oi := _) (v := ?_) rfl (by kernel_rfl) (by kernel_rfl) (by kernel_rfl) (fun _ _ _ h => h) (Or.inl ⟨by rfl, ?_⟩) (by assumption) ?_
      case refine_2 => (intro w hSw; have q0 := hSw.cell 0; simp at q0; go_simp <;> with_reducible rfl)
      try simp only [List.getElem_toArray, List.getElem_cons_zero, List.getElem_cons_succ, Act.put, List.setIfInBounds_toArray, List.set_cons_zero, List.set_cons_succ]
      refine wpAnyH_take (i := 4) (oi := _) (v := ?_) rfl (by kernel_rfl) (by kernel_rfl) (by kernel_rfl) (fun _ _ _ h => h) (Or.inl ⟨by rfl, ?_⟩) (by assumption) ?_
      case refine_2 => (intro w hSw; go_simp <;> with_reducible rfl)
      try simp only [List.getElem_toArray, List.getElem_cons_zero, List.getElem_cons_succ, Act.put, List.setIfInBounds_toArray, List.set_cons_zero, List.set_cons_succ]
      refine wpAnyH_take (i := 5) (oi := _) (v := ?_) rfl (by kernel_rfl) (by kernel_rfl) (by kernel_rfl) (fun _ _ _ h => h) (Or.inl ⟨by rfl, ?_⟩) (by assumption) ?_
      case refine_2 => (intro w hSw; go_simp <;> with_reducible rfl)
      try simp only [List.getElem_toArray, List.getElem_cons_zero, List.getElem_cons_succ, Act.put, List.setIfInBounds_toArray, List.set_cons_zero, List.set_cons_succ]
      refine wpAnyH_take (i := 6) (oi := _) (v := ?_) rfl (by kernel_rfl) (by kernel_rfl) (by kernel_rfl) (fun _ _ _ h => h) (Or.inl ⟨by rfl, ?_⟩) (by assumption) ?_
      case refine_2 => (intro w hSw; go_simp <;> with_reducible rfl)
      try simp only [List.getElem_toArray, List.getElem_cons_zero, List.getElem_cons_succ, Act.put, List.setIfInBounds_toArray, List.set_cons_zero, List.set_cons_succ]
      refine wpAnyH_take (i := 8) (oi := _) (v := ?_) rfl (by kernel_rfl) (by kernel_rfl) (by kernel_rfl) (fun _ _ _ h => h) (Or.inl ⟨by rfl, ?_⟩) (by assumption) ?_
      case refine_2 => (intro w hSw; go_simp <;> with_reducible rfl)
      try simp only [List.getElem_toArray, List.getElem_cons_zero, List.getElem_cons_succ, Act.put, List.setIfInBounds_toArray, List.set_cons_zero, List.set_cons_succ]
      refine wpAnyH_ready (rs := [7, 9]) (by kernel_rfl) (by simp) ?_
      refine AllReadyH.cons (o := _) rfl (fun K hK => ?_) (AllReadyH.cons (o := _) rfl (fun K hK => ?_) AllReadyH.nil)
      · simp only [List.getElem_toArray, List.getElem_cons_zero, List.getElem_cons_succ]
        go_simp
        refine hK.out _ _ HS.out.out (fun hHeld2 => ?_)
        clear hK K hHeld
        have hHeld := hHeld2
        clear hHeld2
        try simp only [List.getElem_toArray, List.getElem_cons_zero, List.getElem_cons_succ, Act.put, List.setIfInBounds_toArray, List.set_cons_zero, List.set_cons_succ]
        refine wpAnyH_ready (rs := [9]) (by kernel_rfl) (by simp) ?_
        refine AllReadyH.cons (o := _) rfl (fun K hK => ?_) AllReadyH.nil
        simp only [List.getElem_toArray, List.getElem_cons_zero, List.getElem_cons_succ]
        go_simp
        refine hK.out _ _ (HS.out.out.alloc _) (fun hHeld2 => ?_)
        clear hK K hHeld
        have hHeld := hHeld2
        clear hHeld2
        try simp only [List.getElem_toArray, List.getElem_cons_zero, List.getElem_cons_succ, Act.put, List.setIfInBounds_toArray, List.set_cons_zero, List.set_cons_succ]
        have G5 := Lib.hid ((S8.out.kept (World.grownBy_alloc w8 (.cells #[.int .i64 (x.1 : Int)] 3) none) (by simp) (by simp) (by simp) (fun r e => by cases e)).drew)
        have OU5 := Lib.hid (show OwnV 3 ((w8.alloc (.cells #[.int .i64 (x.1 : Int)] 3)).drew) (N + 6) u (ints ([])) from OwnV.alloc hou _)
        have C5 := Lib.hid (show ((w8.alloc (.cells #[.int .i64 (x.1 : Int)] 3)).drew).cell? ⟨w8.heap.size, 0, none⟩ = some (.int .i64 (x.1 : Int)) by
          simp)
        have Z5 := Lib.hid (show ((w8.alloc (.cells #[.int .i64 (x.1 : Int)] 3)).drew).heap.size = w8.heap.size + 1 from World.size_alloc _ _)
        have KX5 := Lib.hid (show KeepsX (fun r => r = N + 1 + 1 + 1 ∨ r = w4.heap.size ∨ r = w4.heap.size + 1) A' ((w8.alloc (.cells #[.int .i64 (x.1 : Int)] 3)).drew) from K8.out.alloc (fun r hr => by have := K8.out.1; have := HZ.out; have := HZA.out; have := HXA.out r; rcases hr with h | h | h <;> omega) (.cells #[.int .i64 (x.1 : Int)] 3))
        have B5 := Lib.hid (below_drew (B8.out.alloc (by have := B8.out.size; have := HN.out; omega) (.cells #[.int .i64 (x.1 : Int)] 3)))
        generalize (w8.alloc (.cells #[.int .i64 (x.1 : Int)] 3)).drew = w5 at *
        obtain ⟨u', w6, hrun, hou6, hg6, _, hat6⟩ := run_append_own_at (P := Tryd.prog) w5 (N + 6) 45 45 3 i0 _ 1 8 Tryd.underlying45 hi0 hz0 hz1 hz2 rfl (by decide) u _ _ OU5.out ⟨w8.heap.size, 0, none⟩ 1 1 [.int .i64 (x.1 : Int)] (by rfl) (fun jj uu hh => by
          cases jj with
          | zero => injection hh with hh; rw [← hh]; exact C5.out
          | succ jj => cases hh) (fun uu hh => by rw [List.mem_singleton.1 hh]; rfl) (by unfold maxLen; rw [ints_len]; have := HGL.out; omega) (by rw [ints_len]; have := HGL.out; omega) (by have := Z5.out; have := HZA.out; have := HZ.out; have := K8.out.1; omega)
        refine wpAnyH_ready (rs := [10]) (by kernel_rfl) (by simp) ?_
        refine AllReadyH.cons (o := _) rfl (fun K hK => ?_) AllReadyH.nil
        simp only [List.getElem_toArray, List.getElem_cons_zero, List.getElem_cons_succ]
        refine if_wanted (by rfl) (wp_append_at (by rfl) (by rfl) (by rfl) hrun ?_)
        have HS6 := Lib.hid (show Blk w6 N 43 #[.slice (some ⟨bv, 0, none⟩) m cv] from G5.out.out.grown hg6 (fun e => by have := (OU5.out.blk_lt e.symm).1; omega))
        refine hK.out _ _ HS6.out (fun hHeld2 => ?_)
        clear hK K hHeld
        have hHeld := hHeld2
        clear hHeld2
        try simp only [Act.put, List.setIfInBounds_toArray, List.set_cons_zero, List.set_cons_succ]
        refine wpAnyH_ready (rs := [11]) (by kernel_rfl) (by simp) ?_
        refine AllReadyH.cons (o := _) rfl (fun K hK => ?_) AllReadyH.nil
        simp only [List.getElem_toArray, List.getElem_cons_zero, List.getElem_cons_succ]
        go_simp
        refine hK.out _ _ HS6.out (fun hHeld2 => ?_)
        clear hK K hHeld
        have hHeld := hHeld2
        clear hHeld2
        try simp only [List.getElem_toArray, List.getElem_cons_zero, List.getElem_cons_succ, Act.put, List.setIfInBounds_toArray, List.set_cons_zero, List.set_cons_succ]
        obtain ⟨ao, nn, cc, rfl⟩ : ∃ ao nn cc, u' = .slice ao nn cc := by
          rcases hou6.2 with ⟨hv6, _⟩ | ⟨g6, cap6, cur6, hv6, _⟩
          · exact ⟨_, _, _, hv6⟩
          · exact ⟨_, _, _, hv6⟩
        have hdf : ∀ q, (Value.slice (some ⟨bv, 0, none⟩) m cv).ownBlock = some q → some q ≠ u.ownBlock := fun q hq e => G5.out.own.differ (by decide) OU5.out hq e.symm
        obtain ⟨cur, hcur⟩ := G5.out.own.blk (b := bv) rfl
        have K6 : Blk w6 bv 45 cur := Blk.grown hcur hg6 (hdf bv rfl)
        have f6 := K6.frozen j
        have c6 := ((G5.out.own.grown hg6 hdf).cellAt j hjn).trans hu
        have ho6 : OwnV 3 w6 (N + 6) (.slice ao nn cc) (ints ([] ++ [x.1])) := by
          unfold OwnV
          rw [show ints ([] ++ [x.1]) = ints ([]) ++ [.int .i64 (x.1 : Int)] by simp [ints], List.length_append]
          exact hou6
        have hA6 : N + 6 ≤ A'.heap.size := by have := HZA.out; have := HZ.out; have := K8.out.1; omega
        have G7 := Lib.hid (G5.out.add (by omega) (by omega) (by omega) rfl hu HGA.out ho6 hg6 (hat6.imp id fun h => ⟨_, h, Nat.le_refl _⟩))
        have X7 := Lib.hid ((KX5.out.grown (fun r hr => by have := HZ.out; have := Z5.out; have := K8.out.1; rcases hr with h | h | h <;> omega) hg6 (fun r e => by have h1 := (OU5.out.blk_lt e).1; have := HZ.out; intro hr; rcases hr with h | h | h <;> omega)).set_ (p := ⟨bv, j, none⟩) (by have := HZ.out; show ¬ (bv = _ ∨ bv = _ ∨ bv = _); omega) (.slice ao nn cc))
        have B7 := Lib.hid ((B5.out.grown hg6 (by have := Z5.out; have := K8.out.1; omega) (fun r e => by have h1 := (OU5.out.blk_lt e).1; omega)).setCell (p := ⟨bv, j, none⟩) (by show N ≤ bv; omega) (.slice ao nn cc))
        have HS7 := Lib.hid (Blk.far HS6.out (p := ⟨bv, j, none⟩) (by show N ≠ bv; omega) (.slice ao nn cc))
        clear K6 hcur hdf ho6 hou6 hg6 hat6 hrun
        refine wpAnyH_ready (rs := [12]) (by kernel_rfl) (by simp) ?_
        refine AllReadyH.cons (o := _) rfl (fun K hK => ?_) AllReadyH.nil
        simp only [List.getElem_toArray, List.getElem_cons_zero, List.getElem_cons_succ]
        go_simp
        refine hK.out _ _ HS7.out (fun hHeld2 => ?_)
        clear hK K hHeld
        have hHeld := hHeld2
        clear hHeld2
        try simp only [List.getElem_toArray, List.getElem_cons_zero, List.getElem_cons_succ, Act.put, List.setIfInBounds_toArray, List.set_cons_zero, List.set_cons_succ]
        refine wpAnyH_done (by kernel_rfl) ?_ _
        clear hHeld
        refine ⟨rfl, X7.out, .slice (some ⟨bv, 0, none⟩) m cv, (vs ++ [nilS]).set j (.slice ao nn cc), D.put kl (.lit (.int .i64 (m : Int))), ?_, ?_, B7.out⟩
        · rw [HMS.out, grpL_new HNM.out, HLP.out, ← HIX.out.2]
          have h7 := G7.out.upto (cnt' := (pre ++ [x]).length) (by simp)
          rw [set_last HJ.out] at h7
          exact h7
        · rw [HMS.out]
          have h8 := H2.out.new HNM.out hko.fl HKL.out H1.out.map.isMap
          rw [← HMD.out] at h8
          exact h8
      · simp only [List.getElem_toArray, List.getElem_cons_zero, List.getElem_cons_succ]
        go_simp
        refine hK.out _ _ (HS.out.out.alloc _) (fun hHeld2 => ?_)
        clear hK K hHeld
        have hHeld := hHeld2
        clear hHeld2
        try simp only [List.getElem_toArray, List.getElem_cons_zero, List.getElem_cons_succ, Act.put, List.setIfInBounds_toArray, List.set_cons_zero, List.set_cons_succ]
        refine wpAnyH_ready (rs := [7]) (by kernel_rfl) (by simp) ?_
        refine AllReadyH.cons (o := _) rfl (fun K hK => ?_) AllReadyH.nil
        simp only [List.getElem_toArray, List.getElem_cons_zero, List.getElem_cons_succ]
        go_simp
        refine hK.out _ _ (HS.out.out.alloc _) (fun hHeld2 => ?_)
        clear hK K hHeld
        have hHeld := hHeld2
        clear hHeld2
        try simp only [List.getElem_toArray, List.getElem_cons_zero, List.getElem_cons_succ, Act.put, List.setIfInBounds_toArray, List.set_cons_zero, List.set_cons_succ]
        have G5 := Lib.hid ((S8.out.kept (World.grownBy_alloc w8 (.cells #[.int .i64 (x.1 : Int)] 3) none) (by simp) (by simp) (by simp) (fun r e => by cases e)).drew)
        have OU5 := Lib.hid (show OwnV 3 ((w8.alloc (.cells #[.int .i64 (x.1 : Int)] 3)).drew) (N + 6) u (ints ([])) from OwnV.alloc hou _)
        have C5 := Lib.hid (show ((w8.alloc (.cells #[.int .i64 (x.1 : Int)] 3)).drew).cell? ⟨w8.heap.size, 0, none⟩ = some (.int .i64 (x.1 : Int)) by
          simp)
        have Z5 := Lib.hid (show ((w8.alloc (.cells #[.int .i64 (x.1 : Int)] 3)).drew).heap.size = w8.heap.size + 1 from World.size_alloc _ _)
        have KX5 := Lib.hid (show KeepsX (fun r => r = N + 1 + 1 + 1 ∨ r = w4.heap.size ∨ r = w4.heap.size + 1) A' ((w8.alloc (.cells #[.int .i64 (x.1 : Int)] 3)).drew) from K8.out.alloc (fun r hr => by have := K8.out.1; have := HZ.out; have := HZA.out; have := HXA.out r; rcases hr with h | h | h <;> omega) (.cells #[.int .i64 (x.1 : Int)] 3))
        have B5 := Lib.hid (below_drew (B8.out.alloc (by have := B8.out.size; have := HN.out; omega) (.cells #[.int .i64 (x.1 : Int)] 3)))
        generalize (w8.alloc (.cells #[.int .i64 (x.1 : Int)] 3)).drew = w5 at *
        obtain ⟨u', w6, hrun, hou6, hg6, _, hat6⟩ := run_append_own_at (P := Tryd.prog) w5 (N + 6) 45 45 3 i0 _ 1 8 Tryd.underlying45 hi0 hz0 hz1 hz2 rfl (by decide) u _ _ OU5.out ⟨w8.heap.size, 0, none⟩ 1 1 [.int .i64 (x.1 : Int)] (by rfl) (fun jj uu hh => by
          cases jj with
          | zero => injection hh with hh; rw [← hh]; exact C5.out
          | succ jj => cases hh) (fun uu hh => by rw [List.mem_singleton.1 hh]; rfl) (by unfold maxLen; rw [ints_len]; have := HGL.out; omega) (by rw [ints_len]; have := HGL.out; omega) (by have := Z5.out; have := HZA.out; have := HZ.out; have := K8.out.1; omega)
        refine wpAnyH_ready (rs := [10]) (by kernel_rfl) (by simp) ?_
        refine AllReadyH.cons (o := _) rfl (fun K hK => ?_) AllReadyH.nil
        simp only [List.getElem_toArray, List.getElem_cons_zero, List.getElem_cons_succ]
        refine if_wanted (by rfl) (wp_append_at (by rfl) (by rfl) (by rfl) hrun ?_)
        have HS6 := Lib.hid (show Blk w6 N 43 #[.slice (some ⟨bv, 0, none⟩) m cv] from G5.out.out.grown hg6 (fun e => by have := (OU5.out.blk_lt e.symm).1; omega))
        refine hK.out _ _ HS6.out (fun hHeld2 => ?_)
        clear hK K hHeld
        have hHeld := hHeld2
        clear hHeld2
        try simp only [Act.put, List.setIfInBounds_toArray, List.set_cons_zero, List.set_cons_succ]
        refine wpAnyH_ready (rs := [11]) (by kernel_rfl) (by simp) ?_
        refine AllReadyH.cons (o := _) rfl (fun K hK => ?_) AllReadyH.nil
        simp only [List.getElem_toArray, List.getElem_cons_zero, List.getElem_cons_succ]
        go_simp
        refine hK.out _ _ HS6.out (fun hHeld2 => ?_)
        clear hK K hHeld
        have hHeld := hHeld2
        clear hHeld2
        try simp only [List.getElem_toArray, List.getElem_cons_zero, List.getElem_cons_succ, Act.put, List.setIfInBounds_toArray, List.set_cons_zero, List.set_cons_succ]
        obtain ⟨ao, nn, cc, rfl⟩ : ∃ ao nn cc, u' = .slice ao nn cc := by
          rcases hou6.2 with ⟨hv6, _⟩ | ⟨g6, cap6, cur6, hv6, _⟩
          · exact ⟨_, _, _, hv6⟩
          · exact ⟨_, _, _, hv6⟩
        have hdf : ∀ q, (Value.slice (some ⟨bv, 0, none⟩) m cv).ownBlock = some q → some q ≠ u.ownBlock := fun q hq e => G5.out.own.differ (by decide) OU5.out hq e.symm
        obtain ⟨cur, hcur⟩ := G5.out.own.blk (b := bv) rfl
        have K6 : Blk w6 bv 45 cur := Blk.grown hcur hg6 (hdf bv rfl)
        have f6 := K6.frozen j
        have c6 := ((G5.out.own.grown hg6 hdf).cellAt j hjn).trans hu
        have ho6 : OwnV 3 w6 (N + 6) (.slice ao nn cc) (ints ([] ++ [x.1])) := by
          unfold OwnV
          rw [show ints ([] ++ [x.1]) = ints ([]) ++ [.int .i64 (x.1 : Int)] by simp [ints], List.length_append]
          exact hou6
        have hA6 : N + 6 ≤ A'.heap.size := by have := HZA.out; have := HZ.out; have := K8.out.1; omega
        have G7 := Lib.hid (G5.out.add (by omega) (by omega) (by omega) rfl hu HGA.out ho6 hg6 (hat6.imp id fun h => ⟨_, h, Nat.le_refl _⟩))
        have X7 := Lib.hid ((KX5.out.grown (fun r hr => by have := HZ.out; have := Z5.out; have := K8.out.1; rcases hr with h | h | h <;> omega) hg6 (fun r e => by have h1 := (OU5.out.blk_lt e).1; have := HZ.out; intro hr; rcases hr with h | h | h <;> omega)).set_ (p := ⟨bv, j, none⟩) (by have := HZ.out; show ¬ (bv = _ ∨ bv = _ ∨ bv = _); omega) (.slice ao nn cc))
        have B7 := Lib.hid ((B5.out.grown hg6 (by have := Z5.out; have := K8.out.1; omega) (fun r e => by have h1 := (OU5.out.blk_lt e).1; omega)).setCell (p := ⟨bv, j, none⟩) (by show N ≤ bv; omega) (.slice ao nn cc))
        have HS7 := Lib.hid (Blk.far HS6.out (p := ⟨bv, j, none⟩) (by show N ≠ bv; omega) (.slice ao nn cc))
        clear K6 hcur hdf ho6 hou6 hg6 hat6 hrun
        refine wpAnyH_ready (rs := [12]) (by kernel_rfl) (by simp) ?_
        refine AllReadyH.cons (o := _) rfl (fun K hK => ?_) AllReadyH.nil
        simp only [List.getElem_toArray, List.getElem_cons_zero, List.getElem_cons_succ]
        go_simp
        refine hK.out _ _ HS7.out (fun hHeld2 => ?_)
        clear hK K hHeld
        have hHeld := hHeld2
        clear hHeld2
        try simp only [List.getElem_toArray, List.getElem_cons_zero, List.getElem_cons_succ, Act.put, List.setIfInBounds_toArray, List.set_cons_zero, List.set_cons_succ]
        refine wpAnyH_done (by kernel_rfl) ?_ _
        clear hHeld
        refine ⟨rfl, X7.out, .slice (some ⟨bv, 0, none⟩) m cv, (vs ++ [nilS]).set j (.slice ao nn cc), D.put kl (.lit (.int .i64 (m : Int))), ?_, ?_, B7.out⟩
        · rw [HMS.out, grpL_new HNM.out, HLP.out, ← HIX.out.2]
          have h7 := G7.out.upto (cnt' := (pre ++ [x]).length) (by simp)
          rw [set_last HJ.out] at h7
          exact h7
        · rw [HMS.out]
          have h8 := H2.out.new HNM.out hko.fl HKL.out H1.out.map.isMap
          rw [← HMD.out] at h8
          exact h8

    · have hne : ((gnum fs x.2.1 : Int) == 0) = false := by rw [beq_eq_false_iff_ne]; omega
      gi_wp2_with (first
        | ((with_reducible refine at_loadIn 29 (.tmp 14) ?_); refine wpListIn_load_rng 29 (.tmp 14) g 0 (fC x.2.1).toList _ HRG.out (by rfl) (by rfl) Tryd.underlying29 rfl HFI.out (by rfl) ?_)
        | ((with_reducible refine at_lookIn 62 (.tmp 13) (.tmp 15) ?_); refine wpListIn_lookup_known rfl (.tmp 13) (.tmp 15) 62 rfl 29 3 .i64 flow_law Tryd.underlying62 Tryd.underlying3 (Tryd.zeroValue3 _) (N + 1) pre.length D rfl H1.out.map (.agg (fC x.2.1)) kl rfl HKL.out _ HAT.out ?_))
      have hjs := gnum_some hG
      obtain ⟨j, hj⟩ : ∃ j, j = gnum fs x.2.1 - 1 := ⟨_, rfl⟩
      rw [← hj] at hjs
      have hw : IntKind.i64.wrap ((gnum fs x.2.1 : Int) - 1) = (j : Int) := by
        have h1 : (dd fs).length ≤ fs.length := dd_len fs
        have h2 := (List.getElem?_eq_some_iff.1 hjs).1
        have h3 := (List.getElem?_eq_some_iff.1 HIX.out.1).1
        have h4 := HLP.out
        rw [IntKind.wrap_i64]
        omega
      clear hj
      have HGA := Lib.hid (grpL_at hjs)
      have HGO := Lib.hid (grpL_old hjs)
      obtain ⟨u, hu, hou⟩ := H1.out.rows j _ HGA.out
      have hjl := (List.getElem?_eq_some_iff.1 hu).1
      obtain ⟨A1, cv, hv, hrd, hA1⟩ := H1.out.own.form
      obtain ⟨bv, rfl, hbv⟩ : ∃ bv, A1 = some ⟨bv, 0, none⟩ ∧ N + 6 ≤ bv := by
        rcases hA1 with rfl | ⟨g1, rfl, h1, _⟩
        · obtain ⟨b1, o1, e1, _⟩ := hrd.2.2.2 (by omega)
          cases e1
        · exact ⟨g1, rfl, h1⟩
      subst hv
      have qj : A'.cell? ⟨bv, j, none⟩ = some u := by
        obtain ⟨b1, o1, e1, hc⟩ := hrd.2.2.2 (by omega)
        injection e1 with e1
        injection e1 with e2 e3
        subst e2 e3
        have := hc j hjl
        rw [Nat.zero_add, hu] at this
        exact this
      have hjn := hjl
      have hj0 : (0 : Int) ≤ (j : Int) ∧ (j : Int) < (vs.length : Int) := by omega
      have HS := H1
      obtain ⟨i0, hi0, hz0, hz1, hz2⟩ := info_parts info_int
      have qj' : (A'.alloc (.cells #[.int .i64 (x.1 : Int)] 3)).cell? ⟨bv, j, none⟩ = some u := cell_later ((Below.refl _ _).alloc (Nat.le_refl _) _) qj
      have hfl : fs.length ≤ 1000 := by
        have h3 := (List.getElem?_eq_some_iff.1 HIX.out.1).1
        have h4 := HLP.out
        omega
      have HMEM := Lib.hid (List.mem_of_getElem? hjs)
      have HGL := Lib.hid (show (pos fs x.2.1).length ≤ 1000 from Nat.le_trans (pos_len fs x.2.1) hfl)
      have KX0 := Lib.hid (KeepsX.refl (fun r => r = N + 1 + 1 + 1 ∨ r = w4.heap.size ∨ r = w4.heap.size + 1) A')
      clear hne hG hjs hrd hA1 q4
      refine wpIn_region_held (S := fun W => Blk W N 43 #[.slice (some ⟨bv, 0, none⟩) vs.length cv]) (by kernel_rfl) (by kernel_rfl) (fun ⟨_, _, h⟩ => by cases h.1) HS.out.out (fun hHeld => ?_)
      refine wpAnyH_take (i := 0) (oi := _) (v := ?_) rfl (by kernel_rfl) (by kernel_rfl) (by kernel_rfl) (fun _ _ _ h => h) (Or.inl ⟨by rfl, ?_⟩) (by assumption) ?_
      case refine_2 => (intro w hSw; have q0 := hSw.cell 0; simp at q0; go_simp <;> with_reducible rfl)
      try simp only [List.getElem_toArray, List.getElem_cons_zero, Act.put, List.setIfInBounds_toArray, List.set_cons_zero, List.set_cons_succ]
      refine wpAnyH_take (i := 1) (oi := _) (v := ?_) rfl (by kernel_rfl) (by kernel_rfl) (by kernel_rfl) (fun _ _ _ h => h) (Or.inl ⟨by rfl, ?_⟩) (by assumption) ?_
      case refine_2 => (intro w hSw; go_simp <;> with_reducible rfl)
      try simp only [List.getElem_toArray, List.getElem_cons_zero, List.getElem_cons_succ, Act.put, List.setIfInBounds_toArray, List.set_cons_zero, List.set_cons_succ]
      refine wpAnyH_take (i := 2) (oi := _) (v := ?_) rfl (by kernel_rfl) (by kernel_rfl) (by kernel_rfl) (fun _ _ _ h => h) (Or.inl ⟨by rfl, ?_⟩) (by assumption) ?_
      case refine_2 => (intro w hSw; go_simp <;> with_reducible rfl)
      try simp only [List.getElem_toArray, List.getElem_cons_zero, List.getElem_cons_succ, Act.put, List.setIfInBounds_toArray, List.set_cons_zero, List.set_cons_succ]
      refine wpAnyH_take (i := 3) (oi := _) (v := ?_) rfl (by kernel_rfl) (by kernel_rfl) (by kernel_rfl) (fun _ _ _ h => h) (Or.inl ⟨by rfl, ?_⟩) (by assumption) ?_
      case refine_2 => (intro w hSw; have q0 := hSw.cell 0; simp at q0; go_simp <;> with_reducible rfl)
      try simp only [List.getElem_toArray, List.getElem_cons_zero, List.getElem_cons_succ, Act.put, List.setIfInBounds_toArray, List.set_cons_zero, List.set_cons_succ]
      refine wpAnyH_take (i := 4) (oi := _) (v := ?_) rfl (by kernel_rfl) (by kernel_rfl) (by kernel_rfl) (fun _ _ _ h => h) (Or.inl ⟨by rfl, ?_⟩) (by assumption) ?_
      case refine_2 => (intro w hSw; go_simp <;> with_reducible rfl)
      try simp only [List.getElem_toArray, List.getElem_cons_zero, List.getElem_cons_succ, Act.put, List.setIfInBounds_toArray, List.set_cons_zero, List.set_cons_succ]
      refine wpAnyH_take (i := 5) (oi := _) (v := ?_) rfl (by kernel_rfl) (by kernel_rfl) (by kernel_rfl) (fun _ _ _ h => h) (Or.inl ⟨by rfl, ?_⟩) (by assumption) ?_
      case refine_2 => (intro w hSw; go_simp <;> with_reducible rfl)
      try simp only [List.getElem_toArray, List.getElem_cons_zero, List.getElem_cons_succ, Act.put, List.setIfInBounds_toArray, List.set_cons_zero, List.set_cons_succ]
      refine wpAnyH_take (i := 6) (oi := _) (v := ?_) rfl (by kernel_rfl) (by kernel_rfl) (by kernel_rfl) (fun _ _ _ h => h) (Or.inl ⟨by rfl, ?_⟩) (by assumption) ?_
      case refine_2 => (intro w hSw; go_simp <;> with_reducible rfl)
      try simp only [List.getElem_toArray, List.getElem_cons_zero, List.getElem_cons_succ, Act.put, List.setIfInBounds_toArray, List.set_cons_zero, List.set_cons_succ]
      refine wpAnyH_take (i := 8) (oi := _) (v := ?_) rfl (by kernel_rfl) (by kernel_rfl) (by kernel_rfl) (fun _ _ _ h => h) (Or.inl ⟨by rfl, ?_⟩) (by assumption) ?_
      case refine_2 => (intro w hSw; go_simp <;> with_reducible rfl)
      try simp only [List.getElem_toArray, List.getElem_cons_zero, List.getElem_cons_succ, Act.put, List.setIfInBounds_toArray, List.set_cons_zero, List.set_cons_succ]
      refine wpAnyH_ready (rs := [7, 9]) (by kernel_rfl) (by simp) ?_
      refine AllReadyH.cons (o := _) rfl (fun K hK => ?_) (AllReadyH.cons (o := _) rfl (fun K hK => ?_) AllReadyH.nil)
      · simp only [List.getElem_toArray, List.getElem_cons_zero, List.getElem_cons_succ]
        go_simp
        refine hK.out _ _ HS.out.out (fun hHeld2 => ?_)
        clear hK K hHeld
        have hHeld := hHeld2
        clear hHeld2
        try simp only [List.getElem_toArray, List.getElem_cons_zero, List.getElem_cons_succ, Act.put, List.setIfInBounds_toArray, List.set_cons_zero, List.set_cons_succ]
        refine wpAnyH_ready (rs := [9]) (by kernel_rfl) (by simp) ?_
        refine AllReadyH.cons (o := _) rfl (fun K hK => ?_) AllReadyH.nil
        simp only [List.getElem_toArray, List.getElem_cons_zero, List.getElem_cons_succ]
        go_simp
        refine hK.out _ _ (HS.out.out.alloc _) (fun hHeld2 => ?_)
        clear hK K hHeld
        have hHeld := hHeld2
        clear hHeld2
        try simp only [List.getElem_toArray, List.getElem_cons_zero, List.getElem_cons_succ, Act.put, List.setIfInBounds_toArray, List.set_cons_zero, List.set_cons_succ]
        have G5 := Lib.hid ((H1.out.kept (World.grownBy_alloc A' (.cells #[.int .i64 (x.1 : Int)] 3) none) (by simp) (by simp) (by simp) (fun r e => by cases e)).drew)
        have OU5 := Lib.hid (show OwnV 3 ((A'.alloc (.cells #[.int .i64 (x.1 : Int)] 3)).drew) (N + 6) u (ints (pos fs x.2.1)) from OwnV.alloc hou _)
        have C5 := Lib.hid (show ((A'.alloc (.cells #[.int .i64 (x.1 : Int)] 3)).drew).cell? ⟨A'.heap.size, 0, none⟩ = some (.int .i64 (x.1 : Int)) by
          simp)
        have Z5 := Lib.hid (show ((A'.alloc (.cells #[.int .i64 (x.1 : Int)] 3)).drew).heap.size = A'.heap.size + 1 from World.size_alloc _ _)
        have KX5 := Lib.hid (show KeepsX (fun r => r = N + 1 + 1 + 1 ∨ r = w4.heap.size ∨ r = w4.heap.size + 1) A' ((A'.alloc (.cells #[.int .i64 (x.1 : Int)] 3)).drew) from KX0.out.alloc (fun r hr => by have := KX0.out.1; have := HZ.out; have := HZA.out; have := HXA.out r; rcases hr with h | h | h <;> omega) (.cells #[.int .i64 (x.1 : Int)] 3))
        have B5 := Lib.hid (below_drew (H3.out.alloc (by have := H3.out.size; have := HN.out; omega) (.cells #[.int .i64 (x.1 : Int)] 3)))
        generalize (A'.alloc (.cells #[.int .i64 (x.1 : Int)] 3)).drew = w5 at *
        obtain ⟨u', w6, hrun, hou6, hg6, _, hat6⟩ := run_append_own_at (P := Tryd.prog) w5 (N + 6) 45 45 3 i0 _ 1 8 Tryd.underlying45 hi0 hz0 hz1 hz2 rfl (by decide) u _ _ OU5.out ⟨A'.heap.size, 0, none⟩ 1 1 [.int .i64 (x.1 : Int)] (by rfl) (fun jj uu hh => by
          cases jj with
          | zero => injection hh with hh; rw [← hh]; exact C5.out
          | succ jj => cases hh) (fun uu hh => by rw [List.mem_singleton.1 hh]; rfl) (by unfold maxLen; rw [ints_len]; have := HGL.out; omega) (by rw [ints_len]; have := HGL.out; omega) (by have := Z5.out; have := HZA.out; have := HZ.out; have := KX0.out.1; omega)
        refine wpAnyH_ready (rs := [10]) (by kernel_rfl) (by simp) ?_
        refine AllReadyH.cons (o := _) rfl (fun K hK => ?_) AllReadyH.nil
        simp only [List.getElem_toArray, List.getElem_cons_zero, List.getElem_cons_succ]
        refine if_wanted (by rfl) (wp_append_at (by rfl) (by rfl) (by rfl) hrun ?_)
        have HS6 := Lib.hid (show Blk w6 N 43 #[.slice (some ⟨bv, 0, none⟩) vs.length cv] from G5.out.out.grown hg6 (fun e => by have := (OU5.out.blk_lt e.symm).1; omega))
        refine hK.out _ _ HS6.out (fun hHeld2 => ?_)
        clear hK K hHeld
        have hHeld := hHeld2
        clear hHeld2
        try simp only [Act.put, List.setIfInBounds_toArray, List.set_cons_zero, List.set_cons_succ]
        refine wpAnyH_ready (rs := [11]) (by kernel_rfl) (by simp) ?_
        refine AllReadyH.cons (o := _) rfl (fun K hK => ?_) AllReadyH.nil
        simp only [List.getElem_toArray, List.getElem_cons_zero, List.getElem_cons_succ]
        go_simp
        refine hK.out _ _ HS6.out (fun hHeld2 => ?_)
        clear hK K hHeld
        have hHeld := hHeld2
        clear hHeld2
        try simp only [List.getElem_toArray, List.getElem_cons_zero, List.getElem_cons_succ, Act.put, List.setIfInBounds_toArray, List.set_cons_zero, List.set_cons_succ]
        obtain ⟨ao, nn, cc, rfl⟩ : ∃ ao nn cc, u' = .slice ao nn cc := by
          rcases hou6.2 with ⟨hv6, _⟩ | ⟨g6, cap6, cur6, hv6, _⟩
          · exact ⟨_, _, _, hv6⟩
          · exact ⟨_, _, _, hv6⟩
        have hdf : ∀ q, (Value.slice (some ⟨bv, 0, none⟩) vs.length cv).ownBlock = some q → some q ≠ u.ownBlock := fun q hq e => G5.out.own.differ (by decide) OU5.out hq e.symm
        obtain ⟨cur, hcur⟩ := G5.out.own.blk (b := bv) rfl
        have K6 : Blk w6 bv 45 cur := Blk.grown hcur hg6 (hdf bv rfl)
        have f6 := K6.frozen j
        have c6 := ((G5.out.own.grown hg6 hdf).cellAt j hjn).trans hu
        have ho6 : OwnV 3 w6 (N + 6) (.slice ao nn cc) (ints (pos fs x.2.1 ++ [x.1])) := by
          unfold OwnV
          rw [show ints (pos fs x.2.1 ++ [x.1]) = ints (pos fs x.2.1) ++ [.int .i64 (x.1 : Int)] by simp [ints], List.length_append]
          exact hou6
        have hA6 : N + 6 ≤ A'.heap.size := by have := HZA.out; have := HZ.out; have := KX0.out.1; omega
        have G7 := Lib.hid (G5.out.add (by omega) (by omega) (by omega) rfl hu HGA.out ho6 hg6 (hat6.imp id fun h => ⟨_, h, Nat.le_refl _⟩))
        have X7 := Lib.hid ((KX5.out.grown (fun r hr => by have := HZ.out; have := Z5.out; have := KX0.out.1; rcases hr with h | h | h <;> omega) hg6 (fun r e => by have h1 := (OU5.out.blk_lt e).1; have := HZ.out; intro hr; rcases hr with h | h | h <;> omega)).set_ (p := ⟨bv, j, none⟩) (by have := HZ.out; show ¬ (bv = _ ∨ bv = _ ∨ bv = _); omega) (.slice ao nn cc))
        have B7 := Lib.hid ((B5.out.grown hg6 (by have := Z5.out; have := KX0.out.1; omega) (fun r e => by have h1 := (OU5.out.blk_lt e).1; omega)).setCell (p := ⟨bv, j, none⟩) (by show N ≤ bv; omega) (.slice ao nn cc))
        have HS7 := Lib.hid (Blk.far HS6.out (p := ⟨bv, j, none⟩) (by show N ≠ bv; omega) (.slice ao nn cc))
        clear K6 hcur hdf ho6 hou6 hg6 hat6 hrun
        refine wpAnyH_ready (rs := [12]) (by kernel_rfl) (by simp) ?_
        refine AllReadyH.cons (o := _) rfl (fun K hK => ?_) AllReadyH.nil
        simp only [List.getElem_toArray, List.getElem_cons_zero, List.getElem_cons_succ]
        go_simp
        refine hK.out _ _ HS7.out (fun hHeld2 => ?_)
        clear hK K hHeld
        have hHeld := hHeld2
        clear hHeld2
        try simp only [List.getElem_toArray, List.getElem_cons_zero, List.getElem_cons_succ, Act.put, List.setIfInBounds_toArray, List.set_cons_zero, List.set_cons_succ]
        refine wpAnyH_done (by kernel_rfl) ?_ _
        clear hHeld
        refine ⟨rfl, X7.out, .slice (some ⟨bv, 0, none⟩) vs.length cv, (vs).set j (.slice ao nn cc), D, ?_, ?_, B7.out⟩
        · rw [HMS.out, HGO.out, HLP.out, ← HIX.out.2]
          exact G7.out.upto (by simp)
        · rw [HMS.out]
          exact H2.out.old HMEM.out
      · simp only [List.getElem_toArray, List.getElem_cons_zero, List.getElem_cons_succ]
        go_simp
        refine hK.out _ _ (HS.out.out.alloc _) (fun hHeld2 => ?_)
        clear hK K hHeld
        have hHeld := hHeld2
        clear hHeld2
        try simp only [List.getElem_toArray, List.getElem_cons_zero, List.getElem_cons_succ, Act.put, List.setIfInBounds_toArray, List.set_cons_zero, List.set_cons_succ]
        refine wpAnyH_ready (rs := [7]) (by kernel_rfl) (by simp) ?_
        refine AllReadyH.cons (o := _) rfl (fun K hK => ?_) AllReadyH.nil
        simp only [List.getElem_toArray, List.getElem_cons_zero, List.getElem_cons_succ]
        go_simp
        refine hK.out _ _ (HS.out.out.alloc _) (fun hHeld2 => ?_)
        clear hK K hHeld
        have hHeld := hHeld2
        clear hHeld2
        try simp only [List.getElem_toArray, List.getElem_cons_zero, List.getElem_cons_succ, Act.put, List.setIfInBounds_toArray, List.set_cons_zero, List.set_cons_succ]
        have G5 := Lib.hid ((H1.out.kept (World.grownBy_alloc A' (.cells #[.int .i64 (x.1 : Int)] 3) none) (by simp) (by simp) (by simp) (fun r e => by cases e)).drew)
        have OU5 := Lib.hid (show OwnV 3 ((A'.alloc (.cells #[.int .i64 (x.1 : Int)] 3)).drew) (N + 6) u (ints (pos fs x.2.1)) from OwnV.alloc hou _)
        have C5 := Lib.hid (show ((A'.alloc (.cells #[.int .i64 (x.1 : Int)] 3)).drew).cell? ⟨A'.heap.size, 0, none⟩ = some (.int .i64 (x.1 : Int)) by
          simp)
        have Z5 := Lib.hid (show ((A'.alloc (.cells #[.int .i64 (x.1 : Int)] 3)).drew).heap.size = A'.heap.size + 1 from World.size_alloc _ _)
        have KX5 := Lib.hid (show KeepsX (fun r => r = N + 1 + 1 + 1 ∨ r = w4.heap.size ∨ r = w4.heap.size + 1) A' ((A'.alloc (.cells #[.int .i64 (x.1 : Int)] 3)).drew) from KX0.out.alloc (fun r hr => by have := KX0.out.1; have := HZ.out; have := HZA.out; have := HXA.out r; rcases hr with h | h | h <;> omega) (.cells #[.int .i64 (x.1 : Int)] 3))
        have B5 := Lib.hid (below_drew (H3.out.alloc (by have := H3.out.size; have := HN.out; omega) (.cells #[.int .i64 (x.1 : Int)] 3)))
        generalize (A'.alloc (.cells #[.int .i64 (x.1 : Int)] 3)).drew = w5 at *
        obtain ⟨u', w6, hrun, hou6, hg6, _, hat6⟩ := run_append_own_at (P := Tryd.prog) w5 (N + 6) 45 45 3 i0 _ 1 8 Tryd.underlying45 hi0 hz0 hz1 hz2 rfl (by decide) u _ _ OU5.out ⟨A'.heap.size, 0, none⟩ 1 1 [.int .i64 (x.1 : Int)] (by rfl) (fun jj uu hh => by
          cases jj with
          | zero => injection hh with hh; rw [← hh]; exact C5.out
          | succ jj => cases hh) (fun uu hh => by rw [List.mem_singleton.1 hh]; rfl) (by unfold maxLen; rw [ints_len]; have := HGL.out; omega) (by rw [ints_len]; have := HGL.out; omega) (by have := Z5.out; have := HZA.out; have := HZ.out; have := KX0.out.1; omega)
        refine wpAnyH_ready (rs := [10]) (by kernel_rfl) (by simp) ?_
        refine AllReadyH.cons (o := _) rfl (fun K hK => ?_) AllReadyH.nil
        simp only [List.getElem_toArray, List.getElem_cons_zero, List.getElem_cons_succ]
        refine if_wanted (by rfl) (wp_append_at (by rfl) (by rfl) (by rfl) hrun ?_)
        have HS6 := Lib.hid (show Blk w6 N 43 #[.slice (some ⟨bv, 0, none⟩) vs.length cv] from G5.out.out.grown hg6 (fun e => by have := (OU5.out.blk_lt e.symm).1; omega))
        refine hK.out _ _ HS6.out (fun hHeld2 => ?_)
        clear hK K hHeld
        have hHeld := hHeld2
        clear hHeld2
        try simp only [Act.put, List.setIfInBounds_toArray, List.set_cons_zero, List.set_cons_succ]
        refine wpAnyH_ready (rs := [11]) (by kernel_rfl) (by simp) ?_
        refine AllReadyH.cons (o := _) rfl (fun K hK => ?_) AllReadyH.nil
        simp only [List.getElem_toArray, List.getElem_cons_zero, List.getElem_cons_succ]
        go_simp
        refine hK.out _ _ HS6.out (fun hHeld2 => ?_)
        clear hK K hHeld
        have hHeld := hHeld2
        clear hHeld2
        try simp only [List.getElem_toArray, List.getElem_cons_zero, List.getElem_cons_succ, Act.put, List.setIfInBounds_toArray, List.set_cons_zero, List.set_cons_succ]
        obtain ⟨ao, nn, cc, rfl⟩ : ∃ ao nn cc, u' = .slice ao nn cc := by
          rcases hou6.2 with ⟨hv6, _⟩ | ⟨g6, cap6, cur6, hv6, _⟩
          · exact ⟨_, _, _, hv6⟩
          · exact ⟨_, _, _, hv6⟩
        have hdf : ∀ q, (Value.slice (some ⟨bv, 0, none⟩) vs.length cv).ownBlock = some q → some q ≠ u.ownBlock := fun q hq e => G5.out.own.differ (by decide) OU5.out hq e.symm
        obtain ⟨cur, hcur⟩ := G5.out.own.blk (b := bv) rfl
        have K6 : Blk w6 bv 45 cur := Blk.grown hcur hg6 (hdf bv rfl)
        have f6 := K6.frozen j
        have c6 := ((G5.out.own.grown hg6 hdf).cellAt j hjn).trans hu
        have ho6 : OwnV 3 w6 (N + 6) (.slice ao nn cc) (ints (pos fs x.2.1 ++ [x.1])) := by
          unfold OwnV
          rw [show ints (pos fs x.2.1 ++ [x.1]) = ints (pos fs x.2.1) ++ [.int .i64 (x.1 : Int)] by simp [ints], List.length_append]
          exact hou6
        have hA6 : N + 6 ≤ A'.heap.size := by have := HZA.out; have := HZ.out; have := KX0.out.1; omega
        have G7 := Lib.hid (G5.out.add (by omega) (by omega) (by omega) rfl hu HGA.out ho6 hg6 (hat6.imp id fun h => ⟨_, h, Nat.le_refl _⟩))
        have X7 := Lib.hid ((KX5.out.grown (fun r hr => by have := HZ.out; have := Z5.out; have := KX0.out.1; rcases hr with h | h | h <;> omega) hg6 (fun r e => by have h1 := (OU5.out.blk_lt e).1; have := HZ.out; intro hr; rcases hr with h | h | h <;> omega)).set_ (p := ⟨bv, j, none⟩) (by have := HZ.out; show ¬ (bv = _ ∨ bv = _ ∨ bv = _); omega) (.slice ao nn cc))
        have B7 := Lib.hid ((B5.out.grown hg6 (by have := Z5.out; have := KX0.out.1; omega) (fun r e => by have h1 := (OU5.out.blk_lt e).1; omega)).setCell (p := ⟨bv, j, none⟩) (by show N ≤ bv; omega) (.slice ao nn cc))
        have HS7 := Lib.hid (Blk.far HS6.out (p := ⟨bv, j, none⟩) (by show N ≠ bv; omega) (.slice ao nn cc))
        clear K6 hcur hdf ho6 hou6 hg6 hat6 hrun
        refine wpAnyH_ready (rs := [12]) (by kernel_rfl) (by simp) ?_
        refine AllReadyH.cons (o := _) rfl (fun K hK => ?_) AllReadyH.nil
        simp only [List.getElem_toArray, List.getElem_cons_zero, List.getElem_cons_succ]
        go_simp
        refine hK.out _ _ HS7.out (fun hHeld2 => ?_)
        clear hK K hHeld
        have hHeld := hHeld2
        clear hHeld2
        try simp only [List.getElem_toArray, List.getElem_cons_zero, List.getElem_cons_succ, Act.put, List.setIfInBounds_toArray, List.set_cons_zero, List.set_cons_succ]
        refine wpAnyH_done (by kernel_rfl) ?_ _
        clear hHeld
        refine ⟨rfl, X7.out, .slice (some ⟨bv, 0, none⟩) vs.length cv, (vs).set j (.slice ao nn cc), D, ?_, ?_, B7.out⟩
        · rw [HMS.out, HGO.out, HLP.out, ← HIX.out.2]
          exact G7.out.upto (by simp)
        · rw [HMS.out]
          exact H2.out.old HMEM.out
  case done =>
    rintro W ⟨v, vs, D, h1, h2, h3⟩ hzW hd
    have HG := Lib.hid h1
    have HB := Lib.hid h3
    have HD := Lib.hid hd
    have q0 := h1.out.cell 0
    simp at q0
    have HE := Lib.hid (iks_fst ks)
    have HZW := Lib.hid hzW
    clear h1 h3 hz h2 hd hzW
    gi_wp2_with fail
    refine ⟨by simp, .inl ⟨_, _, rfl, run_takeDeferred HD.out, ?_⟩⟩
    refine ⟨_, results_tmp rfl _ _ _, v, rfl, ?_, ?_⟩
    · rw [← HN.out, ← HE.out]
      have hz4 := HZ.out
      have h9 := HG.out.kept (grownBy_putObj' W w4.heap.size (.deferred none)) (by simp; omega) (by simp; omega) (by simp; omega) (fun r e => by injection e with e; omega)
      exact ⟨vs, h9.own.mono (by omega), h9.len, fun j g hj => by
        obtain ⟨u, hu, ho⟩ := h9.rows j g hj
        exact ⟨u, hu, ho.mono (by omega)⟩⟩
    · have b3 := HB.out
      have hz4 := HZ.out
      rw [← HN.out]
      exact b3.grown (grownBy_putObj' W _ _) (by have := b3.size; have := HN.out; omega) (fun k e => by cases e; omega)
end Go.Proofs.YtonafonhadocgaaDoor

/- horologelaw28.one: a flow that is stored part by part. -/
namespace Go.Proofs.YtonafonhadocgaaDoor
open Go.RowKit Go.Shelf

/-- A row with a run of cells written over. -/
def setL : Array Value → Nat → List Value → Array Value
  | A, _, [] => A
  | A, i, v :: vs => setL (A.setIfInBounds i v) (i + 1) vs
theorem Blk.setCells {g : Nat} {t : TypeId} : ∀ (vs : List Value) (i : Nat) (w : World) (cs : Array Value), Blk w g t cs → Blk (w.setCells g i vs) g t (setL cs i vs)
  | [], _, _, _, h => h
  | v :: vs, i, w, cs, h => Blk.setCells vs (i + 1) (w.setCell ⟨g, i, none⟩ v) (cs.setIfInBounds i v) (h.set_ i v)
theorem grownBy_setCells (g : Nat) : ∀ (vs : List Value) (i : Nat) (w : World), w.grownBy (w.setCells g i vs) (some g) ∧ (w.setCells g i vs).heap.size = w.heap.size
  | [], _, w => ⟨⟨rfl, rfl, rfl, Nat.le_refl _, fun _ _ _ => rfl⟩, rfl⟩
  | v :: vs, i, w => by
    have h1 := grownBy_setCell w g i v
    have h2 := grownBy_setCells g vs (i + 1) (w.setCell ⟨g, i, none⟩ v)
    have e1 : (w.setCell ⟨g, i, none⟩ v).heap.size = w.heap.size := by simp
    exact ⟨⟨h2.1.os.trans h1.os, h2.1.tape.trans h1.tape, h2.1.output.trans h1.output, Nat.le_trans h1.size h2.1.size, fun k hk hr => (h2.1.block k (by rw [e1]; exact hk) hr).trans (h1.block k hk hr)⟩, h2.2.trans e1⟩
section
variable {P : Program} {ops : Array Oper} {rest : List Oper} {o : Oper} {a : Act} {w : World} {Q : Exit → Act → World → Prop}
/-- A store into a part of a block. -/
theorem wpList_store_part (ty : TypeId) (x y : Operand) (g i : Nat) (t : TypeId) (old cs : Array Value) (hg : Blk w g t old) (ho : o.op = .store ty x y) (hdst : o.dst = none)
    (hx : a.eval x = .pointer (some ⟨g, i, none⟩)) (hy : a.eval y = .agg cs) (hi : (P.info? ty).map (·.size) = some cs.size) (hle : i + cs.size ≤ old.size) (h1 : cs.toList.all (·.oneCell') = true)
    (hw : Region.wanted o (yielded ops a.tmps) = true)
    (h : ∀ w', Blk w' g t (setL old i cs.toList) → w.grownBy w' (some g) → w'.heap.size = w.heap.size → wpList P ops Q rest a w') : wpList P ops Q (o :: rest) a w :=
  BigFrame.wpList_want hw fun _ hK => wp_store_mid ty x y ho g i cs hx hy (fun j hj => ⟨by rw [hg.cell, Array.getElem?_eq_getElem (by omega)]; rfl, hg.frozen (i + j)⟩) hi (by rw [← Array.all_toList]; exact h1)
    (hK _ _ (by rw [hdst]; exact h _ (Blk.setCells cs.toList i w old hg) (grownBy_setCells g cs.toList i w).1 (grownBy_setCells g cs.toList i w).2))
end

abbrev ip (n : UInt8) : List UInt8 := [10, 0, 0, n, 0, 0, 0, 0, 0, 0, 0, 0, 0, 0, 0, 0]
abbrev oneA : En := (false, ip 2, 1024)
abbrev oneB : En := (false, ip 1, 123)
theorem built_ip2 : Tryd.prog.built 22 [(0, .int .u8 10), (1, .int .u8 0), (2, .int .u8 0), (3, .int .u8 2)] = some (bv (ip 2)).toArray := by kernel_rfl
theorem built_ip1 : Tryd.prog.built 22 [(0, .int .u8 10), (1, .int .u8 0), (2, .int .u8 0), (3, .int .u8 1)] = some (bv (ip 1)).toArray := by kernel_rfl
/-- The cells on the way. -/
def st1 : Array Value := setL (flC zE zE) 1 (bv (ip 2))
def st2 : Array Value := st1.setIfInBounds 17 (.int .u16 1024)
def st3 : Array Value := setL st2 19 (bv (ip 1))
def st4 : Array Value := st3.setIfInBounds 35 (.int .u16 123)
theorem st4_eq : st4 = flC oneA oneB := by kernel_rfl
theorem results_fl1 {fn : Func} {p : Tmp} (h : fn.results = #[.cell p 29]) (tmps : Array Value) (w : World) (g : Nat) (cs : Array Value)
    (hp : tmps.getD p undef = .pointer (some ⟨g, 0, none⟩)) (hg : Blk w g 29 cs) (hi : cs.size = 36) :
    (results fn tmps).run Tryd.prog w = .ok (.agg cs) w := by
  have hp' : tmps[p]?.getD undef = .pointer (some ⟨g, 0, none⟩) := by simpa using hp
  have hl := run_loadVar_row (P := Tryd.prog) w g 29 29 cs (0, 0) _ hg Tryd.underlying29 rfl (by rw [hi]; exact flSize)
  simp [results, h, hp', asAddr, hl]

set_option maxRecDepth 100000 in
set_option maxHeartbeats 4000000 in
theorem one_any (w : World) : Calls Tryd.prog 21 #[] w fun e w' => e = .returned (.agg (flC oneA oneB)) ∧ Below w.heap.size w w' := by
  have HBZ := Lib.hid built_z
  have HB1 := Lib.hid built_ip1
  have HB2 := Lib.hid built_ip2
  have HS16 := Lib.hid (show (Tryd.prog.info? 22).map (·.size) = some 16 by kernel_rfl)
  have HFS := Lib.hid (show (Tryd.prog.info? 29).map (·.size) = some (flC zE zE).size from flSize)
  have HF4 := Lib.hid (show (Tryd.prog.info? 29).map (·.size) = some st4.size from flSize)
  have HZ0 := Lib.hid (Blk.new w 29 (flC zE zE))
  have HZ1 := Lib.hid (Blk.new (w.alloc (.cells (flC zE zE) 29)) 29 (flC zE zE))
  have HY := Lib.hid (HZ0.out.alloc (.cells (flC zE zE) 29))
  have B0 := Lib.hid (((Below.refl _ w).alloc (Nat.le_refl _) (.cells (flC zE zE) 29)).alloc (by simp) (.cells (flC zE zE) 29))
  have HO1 := Lib.hid (show (bv (ip 2)).toArray.toList.all (·.oneCell') = true by kernel_rfl)
  have HO2 := Lib.hid (show (bv (ip 1)).toArray.toList.all (·.oneCell') = true by kernel_rfl)
  have HO4 := Lib.hid (show st4.toList.all (·.oneCell') = true by kernel_rfl)
  have e1 : (w.alloc (.cells (flC zE zE) 29)).heap.size = w.heap.size + 1 := by simp
  rw [e1] at HZ1
  clear e1
  go_enter Tryd.func21, Tryd.ntmps21
  go_wp2_with (first
    | ((with_reducible refine at_build 29 #[] ?_); refine wpList_build_eq 29 #[] (flC zE zE) (by rfl) HBZ.out (by rfl) ?_)
    | ((with_reducible refine at_store 29 (.tmp 1) (.tmp 2) ?_); refine wpList_store_blk 29 (.tmp 1) (.tmp 2) (w.heap.size + 1) 29 (flC zE zE) (flC zE zE) HZ1.out (by rfl) (by rfl) (by rfl) (by rfl) HFS.out (by rfl) (flC_one zE zE) (by rfl) ?_; intro w1 hk hg hs; have K1 := Lib.hid hk; have L1 := Lib.hid (HY.out.grown hg (by simp)); have B1 := Lib.hid (B0.out.grown hg (by simp; omega) (fun k e => by injection e with e; omega)); have Z1 := Lib.hid hs; clear hk hg hs HZ1 HY B0)
    | ((with_reducible refine at_build 22 #[(0, .const (.int .u8 10)), (1, .const (.int .u8 0)), (2, .const (.int .u8 0)), (3, .const (.int .u8 2))] ?_); refine wpList_build_eq 22 #[(0, .const (.int .u8 10)), (1, .const (.int .u8 0)), (2, .const (.int .u8 0)), (3, .const (.int .u8 2))] (bv (ip 2)).toArray (by rfl) HB2.out (by rfl) ?_)
    | ((with_reducible refine at_store 22 (.tmp 6) (.tmp 3) ?_); refine wpList_store_part 22 (.tmp 6) (.tmp 3) (w.heap.size + 1) 1 29 (flC zE zE) (bv (ip 2)).toArray K1.out (by rfl) (by rfl) (by rfl) (by rfl) HS16.out (by decide) HO1.out (by rfl) ?_; intro w2 hk hg hs; have K2 := Lib.hid (show Blk w2 (w.heap.size + 1) 29 st1 from hk); have L2 := Lib.hid (L1.out.grown hg (by simp)); have B2 := Lib.hid (B1.out.grown hg (by have := B1.out.size; omega) (fun k e => by injection e with e; omega)); have q0 := K2.out.cell 17; have q1 := K2.out.frozen 17; rw [show (st1 : Array Value)[17]? = some (.int .u16 0) by kernel_rfl] at q0; clear hk hg hs)
    | ((with_reducible refine at_build 22 #[(0, .const (.int .u8 10)), (1, .const (.int .u8 0)), (2, .const (.int .u8 0)), (3, .const (.int .u8 1))] ?_); refine wpList_build_eq 22 #[(0, .const (.int .u8 10)), (1, .const (.int .u8 0)), (2, .const (.int .u8 0)), (3, .const (.int .u8 1))] (bv (ip 1)).toArray (by rfl) HB1.out (by rfl) ?_)
    | ((with_reducible refine at_store 22 (.tmp 12) (.tmp 9) ?_); refine wpList_store_part 22 (.tmp 12) (.tmp 9) (w.heap.size + 1) 19 29 st2 (bv (ip 1)).toArray (K2.out.set_ 17 (.int .u16 (1024 : Int))) (by rfl) (by rfl) (by rfl) (by rfl) HS16.out (by decide) HO2.out (by rfl) ?_; intro w3 hk hg hs; have K3 := Lib.hid (show Blk w3 (w.heap.size + 1) 29 st3 from hk); have L3 := Lib.hid ((L2.out.far (p := ⟨(w.heap.size + 1), 17, none⟩) (by simp) (.int .u16 (1024 : Int))).grown hg (by simp)); have B3 := Lib.hid ((B2.out.setCell (p := ⟨(w.heap.size + 1), 17, none⟩) (by simp) (.int .u16 (1024 : Int))).grown hg (by have := (B2.out.setCell (p := ⟨(w.heap.size + 1), 17, none⟩) (by simp) (.int .u16 (1024 : Int))).size; omega) (fun k e => by injection e with e; omega)); have q0 := K3.out.cell 35; have q1 := K3.out.frozen 35; rw [show (st3 : Array Value)[35]? = some (.int .u16 0) by kernel_rfl] at q0; clear hk hg hs)
    | (refine wpList_load_blk 29 (.tmp 1) (w.heap.size + 1) 29 st4 _ (K3.out.set_ 35 (.int .u16 (123 : Int))) (by rfl) (by rfl) Tryd.underlying29 rfl HF4.out (by rfl) ?_)
    | ((with_reducible refine at_store 29 (.tmp 0) (.tmp 15) ?_); refine wpList_store_blk 29 (.tmp 0) (.tmp 15) w.heap.size 29 (flC zE zE) st4 (L3.out.far (p := ⟨(w.heap.size + 1), 35, none⟩) (by simp) (.int .u16 (123 : Int))) (by rfl) (by rfl) (by rfl) (by rfl) HF4.out (by kernel_rfl) HO4.out (by rfl) ?_; intro w4 hk hg hs; have K4 := Lib.hid hk; have B4 := Lib.hid ((B3.out.setCell (p := ⟨(w.heap.size + 1), 35, none⟩) (by simp) (.int .u16 (123 : Int))).grown hg (by have := B3.out.size; simp; omega) (fun k e => by injection e with e; omega)); clear hk hg hs))
  have HR := Lib.hid st4_eq
  rw [← HR.out]
  have HN := Lib.hid (show st4.size = 36 by kernel_rfl)
  exact bodyPost_ret (v := .agg st4) (results_fl1 Tryd.results21 _ _ w.heap.size st4 rfl K4.out HN.out) rfl ⟨rfl, B4.out⟩
end Go.Proofs.YtonafonhadocgaaDoor
