/- strings.ToUpper at every text; the variables that it reads. -/
import Derived.Test.YtgdnckglfhabnaaDoorAdUp
import Derived.Test.YtgdnckglfhabnaaDoorAdJoin
import Derived.Test.YtgdnckglfhabnaaDoorShelfB
namespace Go.Proofs.YtgdnckglfhabnaaDoor
open Go.RowKit Go.Shelf

theorem upExtra : Builder.Extra Tryd.prog lays158_ren := { sizeBuilder := by kernel_rfl, liesBuilder := by kernel_rfl, t5 := Tryd.underlying5, a5 := Tryd.isAgg5, z5 := Tryd.sizeOf5, v5 := Tryd.zeroValue5, infoByte := by kernel_rfl, cellsByte := by kernel_rfl, sizeByte := by kernel_rfl, neB5 := by decide }
structure EnvB (w : World) : Prop where
  env : Env w
  cas : Lib.CaseVar (lays158_ren.g 13) Lib.caseA w
  utf : Lib.Utf8Tabs (lays158_ren.g 3) (lays158_ren.g 4) w
theorem EnvB.below {w w' : World} (h : EnvB w) (hb : Below w.heap.size w w') : EnvB w' := ⟨h.env.below hb, Lib.CaseVar_below h.cas hb, Utf8Tabs_below h.utf hb⟩
theorem upper_any (s : ByteArray) (hs : s.size < 35184372088832) (w : World) (env : EnvB w) :
    Calls Tryd.prog 19 #[.string s] w fun e w' => e = .returned (.string (mkB (Lib.toUpperD s.data.toList))) ∧ Below w.heap.size w w' :=
  Any.strings_ToUpper_any lays158 upExtra s w hs env.cas env.utf
end Go.Proofs.YtgdnckglfhabnaaDoor
