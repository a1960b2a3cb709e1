/- 
  What the rows' list of laid variables gives, and the world in which it is met.
-/
import Derived.Test.YtlkedogplmnpkaaDoorLexV
import Derived.Test.YtlkedogplmnpkaaDoorCards
import Derived.Test.YtlkedogplmnpkaaDoorTie
import Derived.ProofKit
import Derived.LaidMore
import Derived.OpenShut
import Derived.MakeChecks
import Derived.Lib.LaidTab
import Derived.Stop.LaidErr
import Derived.Stop.Joined
import Derived.SevenTiedAt
namespace Go.Proofs.YtlkedogplmnpkaaDoor
open Go.ChangeShapes Go.WideShapes Go.RowKit

theorem own : ownKnob Tryd.prog.godebug = none := by kernel_rfl
theorem laidOut : laidOutB Tryd.prog = true := by kernel_rfl
theorem gSpaceType : (Tryd.prog.globals[1]?).map (·.type) = some 76 := by kernel_rfl
theorem gRangeType : (Tryd.prog.globals[4]?).map (·.type) = some 30 := by kernel_rfl
theorem cellsU8 : Tryd.prog.cellsOf 5 = 1 := by kernel_rfl
theorem cellsSpace : Tryd.prog.cellsOf 76 = 256 := by kernel_rfl
theorem cellsErr : Tryd.prog.cellsOf 119 = 1 := by kernel_rfl
theorem cellsString : Tryd.prog.cellsOf 9 = 1 := by kernel_rfl
theorem star : "*" ++ "errors.errorString" = "*errors.errorString" := by decide
theorem rowErr (u : TypeId) (h : Tryd.prog.typeName? 3 u = some "*errors.errorString") : u = 117 :=
  typeName_ptr_named (nm := "errors.errorString") (by rw [star]; kernel_rfl) (by kernel_rfl) (by decide) u (by rw [star]; exact h)

/-- What the rows list of the world. -/
def laid7 : List (String × DataW Unit) := Rows.lexNamesRow.laid

set_option maxRecDepth 100000 in
theorem tabs_of_laid {W : World} (h : laidMetH Tryd.prog laid7 W) : Tabs W := by
  rw [MakeChecks.laidMetH_plain _ _ _ (by kernel_rfl)] at h
  have h3 := h.tail.tail.tail
  obtain ⟨a, s, hv, _⟩ := laid_sentinel h3 gRange gRangeType Tryd.underlying30 rowErr Tryd.underlying117 Tryd.underlying119 rfl rfl Tryd.underlying9 cellsErr cellsString
  have h6 := h3.tail.tail.tail
  exact ⟨Lib.tabIs_of_head gSpace gSpaceType Tryd.underlying76 Tryd.underlying5 cellsU8 cellsSpace h6, _, _, hv⟩

/-- The door's own heap meets the condition: three closed facts. -/
theorem door_met (os : Os) (args : Array Value) : laidMetH Tryd.prog laid7 ((World.doorLaid Tryd.prog 86 os).forCall (fun _ _ => 0) ⟨#[], args, []⟩).memory :=
  laidMetH_of_parts3 (fuel := 8) (laidMet_of_run' 8 (by kernel_rfl) (by kernel_rfl)) (by kernel_rfl) (by kernel_rfl)

end Go.Proofs.YtlkedogplmnpkaaDoor
