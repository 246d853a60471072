/- addr.Print. -/
import Derived.Test.YtgdnckglfhabnaaDoorAdEight
namespace Go.Proofs.YtgdnckglfhabnaaDoor
open Go.RowKit Go.Shelf

/-- The texts of an IPv4 address. -/
def print4 (l : List UInt8) : List UInt8 := Lib.join ((l.take 4).map fun b => dec b.toNat) [46]

set_option maxRecDepth 100000 in
set_option maxHeartbeats 4000000 in
theorem print_no (l : List UInt8) (hl : l.length = 16) (hm : mayB false l = false) (w : World) :
    Calls Tryd.prog 8 #[.agg (adC false l)] w fun e w' => e = .returned (.tuple #[.string ⟨#[]⟩, .int .i64 2]) ∧ Below w.heap.size w w' := by
  have K := Lib.hid (Blk.new w 24 (adC false l))
  have B := Lib.hid ((Below.refl _ w).alloc (Nat.le_refl _) (.cells (adC false l) 24))
  have HM := Lib.hid (fun W => may_any false l hl W)
  rw [hm] at HM
  have hs := Lib.hid (show (Tryd.prog.info? 24).map (·.size) = some (adC false l).size by rw [adC_size _ _ hl]; exact adSize)
  obtain ⟨cs, hcs⟩ : ∃ cs, cs = adC false l := ⟨_, rfl⟩
  rw [← hcs] at K B HM hs ⊢
  clear hm hcs
  go_enter Tryd.func8, Tryd.ntmps8
  go_wp2_with (refine wpList_load_blk 24 (.tmp 1) w.heap.size 24 cs _ K.out (by rfl) (by rfl) Tryd.underlying24 rfl hs.out (by rfl) ?_)
  refine (HM.out _).mono ?_
  rintro e w2 ⟨rfl, b⟩
  have B2 := Lib.hid (B.out.trans (b.mono B.out.size))
  clear b
  go_wp2_with fail
  go_ret2
  exact ⟨rfl, B2.out⟩

theorem dec_len (n : Nat) (h : n < 256) : (dec n).length ≤ 3 := by
  have : ∀ n : Fin 256, (dec n.val).length ≤ 3 := by decide +kernel
  exact this ⟨n, h⟩

set_option maxRecDepth 100000 in
set_option maxHeartbeats 4000000 in
theorem print_four (l : List UInt8) (hl : l.length = 16) (hm : mayB false l = true) (w : World) (env : Env w) :
    Calls Tryd.prog 8 #[.agg (adC false l)] w fun e w' => e = .returned (.tuple #[.string ⟨(print4 l).toArray⟩, .int .i64 0]) ∧ Below w.heap.size w w' := by
  have K := Lib.hid (Blk.new w 24 (adC false l))
  have B := Lib.hid ((Below.refl _ w).alloc (Nat.le_refl _) (.cells (adC false l) 24))
  have HM := Lib.hid (fun W => may_any false l hl W)
  rw [hm] at HM
  have E := Lib.hid env
  have hs := Lib.hid (show (Tryd.prog.info? 24).map (·.size) = some (adC false l).size by rw [adC_size _ _ hl]; exact adSize)
  have HF := Lib.hid (fun (W : World) (e : Env W) (g : Nat) (k : Blk W g 24 (adC false l)) => four_any (some ⟨g, 1, none⟩) 4 16 ((l.take 4).map fun b => b.toNat) W e
    (fun x hx => by obtain ⟨b, _, rfl⟩ := List.mem_map.1 hx; exact b.toNat_lt)
    ⟨by simp [hl], by omega, by omega, fun _ => ⟨g, 1, rfl, fun j hj => by
      rw [k.cell (1 + j), Nat.add_comm 1 j, adC_tail, bv, List.getElem?_map, List.getElem?_map, List.getElem?_map, List.getElem?_take, if_pos hj]
      cases l[j]? <;> rfl⟩⟩ (by omega)
    (by
      have := join_len 46 3 (((l.take 4).map fun b => b.toNat).map dec) (fun x hx => by
        obtain ⟨n, hn, rfl⟩ := List.mem_map.1 hx
        obtain ⟨b, _, rfl⟩ := List.mem_map.1 hn
        exact dec_len _ b.toNat_lt)
      have e : (((l.take 4).map fun b => b.toNat).map dec).length = 4 := by simp [hl]
      rw [e] at this
      omega))
  have q0 : (adC false l)[0]? = some (.bool false) := rfl
  have Q0 := Lib.hid q0
  have HP := Lib.hid (show Lib.join (((l.take 4).map fun b => b.toNat).map dec) [46] = print4 l by rw [print4, List.map_map]; rfl)
  obtain ⟨cs, hcs⟩ : ∃ cs, cs = adC false l := ⟨_, rfl⟩
  rw [← hcs] at K B HM hs HF Q0 ⊢
  clear hm hcs env q0
  go_enter Tryd.func8, Tryd.ntmps8
  go_wp2_with (refine wpList_load_blk 24 (.tmp 1) w.heap.size 24 cs _ K.out (by rfl) (by rfl) Tryd.underlying24 rfl hs.out (by rfl) ?_)
  refine (HM.out _).mono ?_
  rintro e w2 ⟨rfl, b⟩
  have B2 := Lib.hid (B.out.trans (b.mono B.out.size))
  have K2 := Lib.hid (K.out.keep b)
  have q : w2.cell? ⟨w.heap.size, 0, none⟩ = some (.bool false) := by rw [K2.out.cell 0]; exact Q0.out
  have HF2 := Lib.hid (HF.out w2 (E.out.below B2.out) w.heap.size K2.out)
  clear b K B HF
  go_wp2_with fail
  refine HF2.out.mono ?_
  rintro e w3 ⟨rfl, b⟩
  have B3 := Lib.hid (B2.out.trans (b.mono B2.out.size))
  rw [HP.out]
  clear b
  go_wp2_with fail
  go_ret2
  exact ⟨rfl, B3.out⟩
end Go.Proofs.YtgdnckglfhabnaaDoor
