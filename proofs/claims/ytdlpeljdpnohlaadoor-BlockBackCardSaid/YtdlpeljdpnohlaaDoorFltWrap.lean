/- Wrap: a note 'block' around a fault. -/
import Derived.Test.YtdlpeljdpnohlaaDoorFltErr
import Derived.Lib.ConvBytes
import Derived.Outline
namespace Go.Proofs.YtdlpeljdpnohlaaDoor
open Go.RowKit Go.Shelf

/-- The five cells of the word. -/
def Word5 (w : World) (g : Nat) : Prop :=
  w.cell? ⟨g, 0, none⟩ = some (.int .u8 98) ∧ w.cell? ⟨g, 1, none⟩ = some (.int .u8 108) ∧ w.cell? ⟨g, 2, none⟩ = some (.int .u8 111) ∧ w.cell? ⟨g, 3, none⟩ = some (.int .u8 99) ∧ w.cell? ⟨g, 4, none⟩ = some (.int .u8 107)
theorem Word5.keep {w w' : World} {g : Nat} (h : Word5 w g) (hb : Below w.heap.size w w') : Word5 w' g :=
  ⟨cell_later hb h.1, cell_later hb h.2.1, cell_later hb h.2.2.1, cell_later hb h.2.2.2.1, cell_later hb h.2.2.2.2⟩
theorem word5_new (w : World) : Word5 (Lib.bytesWorld w 5 ⟨#[98, 108, 111, 99, 107]⟩) w.heap.size :=
  ⟨Lib.bytesWorld_cell w 5 ⟨#[98, 108, 111, 99, 107]⟩ 0 (by decide), Lib.bytesWorld_cell w 5 ⟨#[98, 108, 111, 99, 107]⟩ 1 (by decide), Lib.bytesWorld_cell w 5 ⟨#[98, 108, 111, 99, 107]⟩ 2 (by decide), Lib.bytesWorld_cell w 5 ⟨#[98, 108, 111, 99, 107]⟩ 3 (by decide), Lib.bytesWorld_cell w 5 ⟨#[98, 108, 111, 99, 107]⟩ 4 (by decide)⟩
theorem below_bytesWorld (w : World) (e : TypeId) (s : ByteArray) : Below w.heap.size w (Lib.bytesWorld w e s) := by
  refine ⟨rfl, rfl, rfl, by rw [Lib.bytesWorld_size]; omega, fun k hk => Lib.bytesWorld_at_old w e s k hk⟩

set_option maxRecDepth 100000 in
set_option maxHeartbeats 2000000 in
theorem wrap_block (fb : Nat) (k : Int) (w : World) (h : w.cell? ⟨fb, 0, none⟩ = some (.int .i64 k)) :
    Calls Tryd.prog 16 #[.iface 60 (.pointer (some ⟨fb, 0, none⟩)), .string ⟨#[98, 108, 111, 99, 107]⟩] w fun e w' =>
      ∃ nb, w.heap.size ≤ nb ∧ e = .returned (.iface 67 (.pointer (some ⟨nb, 0, none⟩))) ∧ Below w.heap.size w w' ∧ Blk w' nb 69 #[.string ⟨#[98, 108, 111, 99, 107]⟩, .iface 60 (.pointer (some ⟨fb, 0, none⟩))] := by
  have HN := Lib.hid (notes_fault fb k w h)
  clear h
  have hcv := Lib.run_convert_string_bytes (P := Tryd.prog) w 9 23 5 ⟨#[98, 108, 111, 99, 107]⟩ Tryd.underlying9 Tryd.underlying23 Tryd.underlying5
  have W5 := Lib.hid (word5_new w)
  have B1 := Lib.hid (below_bytesWorld w 5 ⟨#[98, 108, 111, 99, 107]⟩)
  generalize Lib.bytesWorld w 5 ⟨#[98, 108, 111, 99, 107]⟩ = w1 at *
  generalize grownCap w (⟨#[98, 108, 111, 99, 107]⟩ : ByteArray).size 0 5 = cp at *
  simp only [show (⟨#[98, 108, 111, 99, 107]⟩ : ByteArray).size = 5 from rfl] at hcv
  go_enter Tryd.func16, Tryd.ntmps16
  go_wp2_with fail
  refine HN.out.mono ?_
  rintro e w' ⟨rfl, rfl⟩
  go_wp2_with fail
  clear hcv
  refine wp_loop_rounds 6 ?_
  rw [rounds_succ]
  have q0 := W5.out.1
  go_wp2_with fail
  rw [show Utf8.encode 98 = ⟨#[98]⟩ by decide]
  refine (may_yes ⟨#[98]⟩ _ (by rw [ByteArray.toList_eq]; decide) (by decide) (by decide)).mono ?_
  rintro e w2 ⟨rfl, hb⟩
  replace W5 := Lib.hid (W5.out.keep hb)
  replace B1 := Lib.hid (B1.out.trans (hb.mono B1.out.size))
  clear hb q0
  go_wp2_with fail
  rw [rounds_succ]
  have q1 := W5.out.2.1
  go_wp2_with fail
  rw [show Utf8.encode 108 = ⟨#[108]⟩ by decide]
  refine (may_yes ⟨#[108]⟩ _ (by rw [ByteArray.toList_eq]; decide) (by decide) (by decide)).mono ?_
  rintro e w3 ⟨rfl, hb⟩
  replace W5 := Lib.hid (W5.out.keep hb)
  replace B1 := Lib.hid (B1.out.trans (hb.mono B1.out.size))
  clear hb q1
  go_wp2_with fail
  rw [rounds_succ]
  have q2 := W5.out.2.2.1
  go_wp2_with fail
  rw [show Utf8.encode 111 = ⟨#[111]⟩ by decide]
  refine (may_yes ⟨#[111]⟩ _ (by rw [ByteArray.toList_eq]; decide) (by decide) (by decide)).mono ?_
  rintro e w4 ⟨rfl, hb⟩
  replace W5 := Lib.hid (W5.out.keep hb)
  replace B1 := Lib.hid (B1.out.trans (hb.mono B1.out.size))
  clear hb q2
  go_wp2_with fail
  rw [rounds_succ]
  have q3 := W5.out.2.2.2.1
  go_wp2_with fail
  rw [show Utf8.encode 99 = ⟨#[99]⟩ by decide]
  refine (may_yes ⟨#[99]⟩ _ (by rw [ByteArray.toList_eq]; decide) (by decide) (by decide)).mono ?_
  rintro e w5 ⟨rfl, hb⟩
  replace W5 := Lib.hid (W5.out.keep hb)
  replace B1 := Lib.hid (B1.out.trans (hb.mono B1.out.size))
  clear hb q3
  go_wp2_with fail
  rw [rounds_succ]
  have q4 := W5.out.2.2.2.2
  go_wp2_with fail
  rw [show Utf8.encode 107 = ⟨#[107]⟩ by decide]
  refine (may_yes ⟨#[107]⟩ _ (by rw [ByteArray.toList_eq]; decide) (by decide) (by decide)).mono ?_
  rintro e w6 ⟨rfl, hb⟩
  replace W5 := Lib.hid (W5.out.keep hb)
  replace B1 := Lib.hid (B1.out.trans (hb.mono B1.out.size))
  clear hb q4
  go_wp2_with fail
  rw [rounds_succ]
  go_wp2_with fail
  refine (may_yes ⟨#[98, 108, 111, 99, 107]⟩ _ (by rw [ByteArray.toList_eq]; decide) (by decide) (by decide)).mono ?_
  rintro e w7 ⟨rfl, hb⟩
  replace B1 := Lib.hid (B1.out.trans (hb.mono B1.out.size))
  clear hb W5
  go_wp2
  go_ret
  exact ⟨_, B1.out.size, rfl, B1.out.alloc B1.out.size _, Blk.new _ _ _⟩
end Go.Proofs.YtdlpeljdpnohlaaDoor
