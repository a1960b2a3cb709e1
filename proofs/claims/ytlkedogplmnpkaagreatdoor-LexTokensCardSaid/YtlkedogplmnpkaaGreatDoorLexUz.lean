/- 
  What the rows' list of laid variables gives, and the world in which it is met.
-/
import Derived.Test.YtlkedogplmnpkaaGreatDoorLexTk
import Derived.Test.YtlkedogplmnpkaaGreatDoorCards
import Derived.Test.YtlkedogplmnpkaaGreatDoorTie
import Derived.ProofKit
import Derived.LaidMore
import Derived.OpenShut
import Derived.MakeChecks
import Derived.LaidSub
import Derived.Lib.LaidTab
import Derived.Stop.LaidErr
import Derived.Stop.Joined
import Derived.SevenTiedAt
namespace Go.Proofs.YtlkedogplmnpkaaGreatDoor
open Go.ChangeShapes Go.WideShapes Go.RowKit

theorem own : ownKnob Tryz.prog.godebug = none := by kernel_rfl
theorem laidOut : laidOutB Tryz.prog = true := by kernel_rfl
theorem gSpaceType : (Tryz.prog.globals[2]?).map (·.type) = some 102 := by kernel_rfl
theorem gRangeType : (Tryz.prog.globals[5]?).map (·.type) = some 25 := by kernel_rfl
theorem cellsU8 : Tryz.prog.cellsOf 5 = 1 := by kernel_rfl
theorem cellsSpace : Tryz.prog.cellsOf 102 = 256 := by kernel_rfl
theorem cellsErr : Tryz.prog.cellsOf 141 = 1 := by kernel_rfl
theorem cellsString : Tryz.prog.cellsOf 9 = 1 := by kernel_rfl
theorem star : "*" ++ "errors.errorString" = "*errors.errorString" := by decide
theorem rowErr (u : TypeId) (h : Tryz.prog.typeName? 3 u = some "*errors.errorString") : u = 139 :=
  typeName_ptr_named (nm := "errors.errorString") (by rw [star]; kernel_rfl) (by kernel_rfl) (by decide) u (by rw [star]; exact h)

/-- What the rows list of the world. -/
def laid7 : List (String × DataW Unit) := Rows.lexTokensRow.laid

/-- What they list beside the type's handle. -/
def laidPlain : List (String × DataW Unit) := laid7.filter fun x => x.2.handleName?.isNone
theorem gHandle : Tryz.prog.globalNamed "errors.errorType" = some 0 := by kernel_rfl
theorem rtypeName : (Tryz.prog.cutTypes.find? (·.1 == "internal/reflectlite.rtype")).map (·.2) = some 83 := by kernel_rfl
theorem oneRow : ((List.range 185).filter fun t => Tryz.prog.rowNamed t [101, 114, 114, 111, 114]) = [25] := by kernel_rfl
theorem typesSize : Tryz.prog.types.size = 185 := by kernel_rfl

set_option maxRecDepth 100000 in
theorem tabs_of_laid {W : World} (h : laidMetH Tryz.prog laid7 W) : Tabs W ∧ Han W := by
  have h' := laidMetH_iff.1 h
  constructor
  · have h0 : laidMet Tryz.prog laidPlain W := h'.1
    have h3 := h0.tail.tail.tail
    obtain ⟨a, s, hv, _⟩ := laid_sentinel h3 gRange gRangeType Tryz.underlying25 rowErr Tryz.underlying139 Tryz.underlying141 rfl rfl Tryz.underlying9 cellsErr cellsString
    have h6 := h3.tail.tail.tail
    exact ⟨Lib.tabIs_of_head gSpace gSpaceType Tryz.underlying102 Tryz.underlying5 cellsU8 cellsSpace h6, _, _, hv⟩
  · obtain ⟨name, u, ty, e1, e2, e3, e4, e5⟩ := h'.2 ("errors.errorType", Rows.laid_errors_errorType) (List.mem_singleton.2 rfl)
    have en : name = [101, 114, 114, 111, 114] := (Option.some.inj e1).symm
    subst en
    obtain rfl := Option.some.inj (rtypeName.symm.trans e2)
    have hm : ty ∈ (List.range 185).filter fun t => Tryz.prog.rowNamed t [101, 114, 114, 111, 114] := List.mem_filter.2 ⟨List.mem_range.2 (by rw [← typesSize]; exact e3), e4⟩
    rw [oneRow] at hm
    obtain rfl := List.mem_singleton.1 hm
    have hh : typeHandle Tryz.prog 25 = .pointer (some ⟨10, 25, none⟩) := by kernel_rfl
    rw [hh] at e5
    unfold Han
    simpa using World.var?_cell gHandle e5 0

/-- The door's own heap meets the condition: three closed facts. -/
theorem door_met (os : Os) (args : Array Value) : laidMetH Tryz.prog laid7 ((World.doorLaid Tryz.prog 93 os).forCall (fun _ _ => 0) ⟨#[], args, []⟩).memory :=
  laidMetH_of_parts3 (fuel := 8) (laidMet_of_run' 8 (by kernel_rfl) (by kernel_rfl)) (by kernel_rfl) (by kernel_rfl)

end Go.Proofs.YtlkedogplmnpkaaGreatDoor
