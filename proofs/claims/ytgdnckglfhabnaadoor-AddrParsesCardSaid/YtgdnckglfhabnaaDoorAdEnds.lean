/- addr.Ends. -/
import Derived.Test.YtgdnckglfhabnaaDoorAdPrRun
namespace Go.Proofs.YtgdnckglfhabnaaDoor
open Go.RowKit Go.Shelf

theorem hexes_len (gs : List Nat) (h : gs.length ≤ 8) : (hexes gs).length ≤ 40 := by
  have := join_len 58 4 (gs.map hex) (fun x hx => by
    obtain ⟨n, _, rfl⟩ := List.mem_map.1 hx
    exact hex_len n)
  rw [List.length_map] at this
  exact Nat.le_trans this (by omega)
theorem print4_len (l : List UInt8) : (print4 l).length ≤ 16 := by
  have := join_len 46 3 ((l.take 4).map fun b => dec b.toNat) (fun x hx => by
    obtain ⟨b, _, rfl⟩ := List.mem_map.1 hx
    exact dec_len _ b.toNat_lt)
  rw [List.length_map, List.length_take] at this
  exact Nat.le_trans this (by omega)
theorem printT_len (v6 : Bool) (l : List UInt8) (hl : l.length = 16) : (printT v6 l).length ≤ 82 := by
  have hu := unflat_len l 8 hl
  unfold printT
  split
  · split
    · have := hexes_len (unflat l) (by omega)
      omega
    · have h1 := hexes_len ((unflat l).take (runF (unflat l) 8).1) (by rw [List.length_take]; omega)
      have h2 := hexes_len ((unflat l).drop ((runF (unflat l) 8).1 + (runF (unflat l) 8).2)) (by rw [List.length_drop]; omega)
      simp only [List.length_append, List.length_cons, List.length_nil]
      omega
  · have := print4_len l
    omega
theorem nDigits_le (u : Nat) (h : u < 65536) : Lib.nDigits u ≤ 5 := by
  by_cases h1 : u < 10
  · rw [Lib.nDigits_small h1]; omega
  rw [Lib.nDigits_big h1]
  by_cases h2 : u / 10 < 10
  · rw [Lib.nDigits_small h2]; omega
  rw [Lib.nDigits_big h2]
  by_cases h3 : u / 10 / 10 < 10
  · rw [Lib.nDigits_small h3]; omega
  rw [Lib.nDigits_big h3]
  by_cases h4 : u / 10 / 10 / 10 < 10
  · rw [Lib.nDigits_small h4]; omega
  rw [Lib.nDigits_big h4, Lib.nDigits_small (by omega)]
  omega
theorem dec_len16 (u : Nat) (h : u < 65536) : (dec u).length ≤ 5 := by
  rw [dec, Lib.decDigits_length]
  exact nDigits_le u h

/-- The cells of an end. -/
def enC (v6 : Bool) (l : List UInt8) (p : Nat) : Array Value := (Value.bool v6 :: (bv l ++ [Value.int .u16 (p : Int)])).toArray
/-- The text of an end. -/
def endsT (v6 : Bool) (l : List UInt8) (p : Nat) : List UInt8 := (if v6 then 91 :: (printT v6 l ++ [93]) else printT v6 l) ++ 58 :: dec p
def endsV (v6 : Bool) (l : List UInt8) (p : Nat) : Value := if mayB v6 l then .tuple #[.string ⟨(endsT v6 l p).toArray⟩, .int .i64 0] else .tuple #[.string ⟨#[]⟩, .int .i64 2]
theorem enC_size (v6 : Bool) (l : List UInt8) (p : Nat) (h : l.length = 16) : (enC v6 l p).size = 18 := by simp [enC, bv_length, h]
theorem enSize : (Tryd.prog.info? 32).map (·.size) = some 18 := by kernel_rfl
theorem enC_ad (v6 : Bool) (l : List UInt8) (p : Nat) (h : l.length = 16) : ((enC v6 l p).toList.drop 0).take (adC v6 l).toList.length = (adC v6 l).toList := by
  show (Value.bool v6 :: (bv l ++ [Value.int .u16 (p : Int)])).take (Value.bool v6 :: bv l).length = Value.bool v6 :: bv l
  rw [← List.cons_append, List.take_left']
  rfl
theorem enC_port (v6 : Bool) (l : List UInt8) (p : Nat) (h : l.length = 16) : (enC v6 l p)[17]? = some (.int .u16 (p : Int)) := by
  rw [enC, List.getElem?_toArray, List.getElem?_cons_succ, List.getElem?_append_right (by rw [bv_length, h]; omega), bv_length, h]
  rfl
theorem port_conv (n : Nat) (h : n < 65536) : IntKind.u64.wrap (n : Int) = (n : Int) := by
  simp [IntKind.wrap, IntKind.bits, IntKind.signed]
  omega

theorem ends_cat4 (t d : List UInt8) : (⟨t.toArray⟩ : ByteArray) ++ ⟨#[58]⟩ ++ ⟨d.toArray⟩ = ⟨(t ++ 58 :: d).toArray⟩ := by
  rw [show (⟨#[58]⟩ : ByteArray) = ⟨([58] : List UInt8).toArray⟩ from rfl, ByteArray.mk_append_mk, ByteArray.mk_append_mk]
  simp
theorem ends_cat6 (t d : List UInt8) : (⟨#[91]⟩ : ByteArray) ++ ⟨t.toArray⟩ ++ ⟨#[93]⟩ ++ ⟨#[58]⟩ ++ ⟨d.toArray⟩ = ⟨(91 :: (t ++ 93 :: 58 :: d)).toArray⟩ := by
  rw [show (⟨#[58]⟩ : ByteArray) = ⟨([58] : List UInt8).toArray⟩ from rfl, show (⟨#[91]⟩ : ByteArray) = ⟨([91] : List UInt8).toArray⟩ from rfl, show (⟨#[93]⟩ : ByteArray) = ⟨([93] : List UInt8).toArray⟩ from rfl, ByteArray.mk_append_mk, ByteArray.mk_append_mk, ByteArray.mk_append_mk, ByteArray.mk_append_mk]
  simp

set_option maxRecDepth 100000 in
set_option maxHeartbeats 4000000 in
theorem ends_any (v6 : Bool) (l : List UInt8) (p : Nat) (hl : l.length = 16) (hp : p < 65536) (w : World) (env : Env w) :
    Calls Tryd.prog 9 #[.agg (enC v6 l p)] w fun e w' => e = .returned (endsV v6 l p) ∧ Below w.heap.size w w' := by
  have K := Lib.hid (Blk.new w 32 (enC v6 l p))
  have B := Lib.hid ((Below.refl _ w).alloc (Nat.le_refl _) (.cells (enC v6 l p) 32))
  have HP := Lib.hid (fun W (e : Env W) => print_any v6 l hl W e)
  have HU := Lib.hid (fun W (e : Env W) => unsigned_any p (by omega) W e)
  have E := Lib.hid env
  have hA := enC_ad v6 l p hl
  have hai : (Tryd.prog.info? 24).map (·.size) = some (adC v6 l).toList.length := by
    rw [adSize, Array.length_toList, adC_size _ _ hl]
  have q0 : (enC v6 l p)[0]? = some (.bool v6) := rfl
  have q17 := enC_port v6 l p hl
  have hcv := port_conv p hp
  have hT := printT_len v6 l hl
  have hD := dec_len16 p hp
  have HPV := Lib.hid (show printV v6 l = if mayB v6 l then .tuple #[.string ⟨(printT v6 l).toArray⟩, .int .i64 0] else .tuple #[.string ⟨#[]⟩, .int .i64 2] from rfl)
  have HEV := Lib.hid (show endsV v6 l p = if mayB v6 l then .tuple #[.string ⟨((if v6 then 91 :: (printT v6 l ++ [93]) else printT v6 l) ++ 58 :: dec p).toArray⟩, .int .i64 0] else .tuple #[.string ⟨#[]⟩, .int .i64 2] from rfl)
  have HA := Lib.hid hA
  have HAI := Lib.hid hai
  have Q0 := Lib.hid q0
  have Q17 := Lib.hid q17
  clear hA hai q0 q17 env
  generalize enC v6 l p = cs at *
  generalize adC v6 l = ac at *
  generalize printT v6 l = t at *
  generalize dec p = d at *
  generalize endsV v6 l p = ev at *
  generalize printV v6 l = pv at *
  generalize mayB v6 l = m at *
  clear hl
  have hs1 : ¬ 9223372036854775807 < 1 + t.length := by omega
  have hs2 : ¬ 9223372036854775807 < 1 + t.length + 1 := by omega
  have hs3 : ¬ 9223372036854775807 < t.length + 1 := by omega
  have hs4 : ¬ 9223372036854775807 < t.length + 1 + d.length := by omega
  have hs5 : ¬ 9223372036854775807 < t.length + 1 + 1 := by omega
  have hs6 : ¬ 9223372036854775807 < t.length + 1 + 1 + 1 := by omega
  have hs7 : ¬ 9223372036854775807 < t.length + 1 + 1 + 1 + d.length := by omega
  clear hT hD
  go_enter Tryd.func9, Tryd.ntmps9
  go_wp2_with (refine wpList_load_part 24 (.tmp 7) w.heap.size 0 32 cs ac.toList _ K.out HA.out (by rfl) (by rfl) Tryd.underlying24 rfl HAI.out (by rfl) ?_)
  refine (HP.out _ (E.out.below B.out)).mono ?_
  rintro e w2 ⟨rfl, b⟩
  have B2 := Lib.hid (B.out.trans (b.mono B.out.size))
  have K2 := Lib.hid (K.out.keep b)
  clear b K B
  cases m with
  | false =>
    obtain rfl := HPV.out
    obtain rfl := HEV.out
    go_wp2_with fail
    go_ret2
    exact ⟨rfl, B2.out⟩
  | true =>
    obtain rfl := HPV.out
    obtain rfl := HEV.out
    have q0 : w2.cell? ⟨w.heap.size, 0, none⟩ = some (.bool v6) := by rw [K2.out.cell 0]; exact Q0.out
    have q17 : w2.cell? ⟨w.heap.size, 17, none⟩ = some (.int .u16 (p : Int)) := by rw [K2.out.cell 17]; exact Q17.out
    cases v6 with
    | false =>
      go_wp2_with fail
      refine (HU.out _ (E.out.below B2.out)).mono ?_
      rintro e w3 ⟨rfl, b⟩
      have B3 := Lib.hid (B2.out.trans (b.mono B2.out.size))
      clear b
      go_wp2_with fail
      go_ret2
      exact ⟨congrArg (fun x => Ending.returned (.tuple #[.string x, .int .i64 0])) (ends_cat4 t d), B3.out⟩
    | true =>
      go_wp2_with fail
      refine (HU.out _ (E.out.below B2.out)).mono ?_
      rintro e w3 ⟨rfl, b⟩
      have B3 := Lib.hid (B2.out.trans (b.mono B2.out.size))
      clear b
      go_wp2_with fail
      go_ret2
      exact ⟨congrArg (fun x => Ending.returned (.tuple #[.string x, .int .i64 0])) (ends_cat6 t d), B3.out⟩
end Go.Proofs.YtgdnckglfhabnaaDoor
