/- Arguments opened to what the walks are told of them. -/
import Derived.Test.YtgdnckglfhabnaaDoorApp
import Derived.ProofKit
import Derived.OpenShut
import Derived.ShutString
import Derived.ChangeOld
import Derived.Lib.SmallJoins
namespace Go.Proofs.YtgdnckglfhabnaaDoor
open Go.ChangeShapes Go.WideShapes Go.ChangeAt Go.RowKit

theorem own : ownKnob Tryd.prog.godebug = none := by kernel_rfl
theorem laidOut : laidOutB Tryd.prog = true := by kernel_rfl

section
variable {H : Type} {enc : TypeId × Value → H} {W : World} {base : Nat} {held : Bool}

theorem rd_of_trod {fuel : Nat} {v : Value} {x : DataW H × List MemPlace} (h : DataW.trod enc Tryd.prog W base (fun _ => true) held fuel 33 [v] = some x) :
    ∃ A n c l, v = .slice A n c ∧ Rd W A n c l := by
  rcases open_ints Tryd.underlying33 Tryd.underlying5 (by kernel_rfl) h with ⟨hcs, _⟩ | ⟨a, n, c, zs, hcs, _, hl, hm, hz, _, hcell, hwz⟩
  · injection hcs with hv _
    exact ⟨none, 0, 0, [], hv, Rd.nil W⟩
  · injection hcs with hv _
    refine ⟨some a, n, c, (zs.take n).map fun z => UInt8.ofNat z.toNat, hv, ?_⟩
    have hzl : zs.length = c := by simpa using hz
    refine ⟨by simp; omega, hl, by simpa [maxLen] using hm, fun hn => ?_⟩
    have hc0 := hcell 0 (by omega)
    obtain ⟨b, off, spot⟩ := a
    have hspot : spot = none := by simpa [Addr.add] using World.cell?_spot hc0
    subst hspot
    refine ⟨b, off, rfl, fun k hk => ?_⟩
    have e := hcell k (by omega)
    have hadd : (⟨b, off, none⟩ : Addr).add k = ⟨b, off + k, none⟩ := by unfold Addr.add; split <;> simp_all
    rw [hadd] at e
    rw [e]
    have hkz : k < zs.length := by omega
    have hw := bounds_u8 (hwz (zs[k]) (List.getElem_mem hkz))
    simp only [List.getD, List.getElem?_eq_getElem hkz, Option.getD_some]
    have h2 : ((zs.take n).map fun z => UInt8.ofNat z.toNat)[k]? = some (UInt8.ofNat (zs[k]).toNat) := by
      rw [List.getElem?_map, List.getElem?_take, if_pos hk, List.getElem?_eq_getElem hkz]
      rfl
    rw [h2]
    congr 2
    simp only [Option.getD_some, UInt8.toNat_ofNat']
    omega

theorem int_of_trod {fuel : Nat} {t : TypeId} {k : IntKind} {v : Value} {x : DataW H × List MemPlace} (ht : Tryd.prog.underlying t = some (.int k)) (h : DataW.trod enc Tryd.prog W base (fun _ => true) held fuel t [v] = some x) :
    ∃ z, v = .int k z ∧ (Lit.int k z).wf = true := by
  obtain ⟨z, hv, _, hw⟩ := DataW.trod_int ht h
  injection hv with hv _
  exact ⟨z, hv, hw⟩
theorem bool_of_trod {fuel : Nat} {t : TypeId} {v : Value} {x : DataW H × List MemPlace} (ht : Tryd.prog.underlying t = some .bool) (h : DataW.trod enc Tryd.prog W base (fun _ => true) held fuel t [v] = some x) :
    ∃ z, v = .bool z := by
  obtain ⟨z, hv, _⟩ := DataW.trod_bool ht h
  injection hv with hv _
  exact ⟨z, hv⟩
end
end Go.Proofs.YtgdnckglfhabnaaDoor
