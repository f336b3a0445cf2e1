/- DRAFT: a start that meets the row's listed variables. -/
import Derived.Test.YthpplbigmolnjaaDoorFltDoor
import Derived.OpenShut
import Derived.HandedShaped
set_option linter.unusedVariables false
namespace Go.Proofs.YthpplbigmolnjaaDoor.FltW
open Go Go.ChangeShapes Go.WideShapes Go.ChangeAt Go.RowKit
noncomputable def start (os : Os) : World := World.doorLaid Tryd.prog 600 os
theorem start_met (os : Os) (args : Array Value) : laidMetH Tryd.prog Rows.faultDeeperRow.laid ((start os).forCall (fun _ _ => 0) ⟨#[], args, []⟩).memory :=
  laidMetH_of_parts3 (fuel := 8) (laidMet_of_run' 8 (by kernel_rfl) (by kernel_rfl)) (by kernel_rfl) (by kernel_rfl)
theorem start_shaped (os : Os) (args : Array Value) : ((start os).forCall (fun _ _ => 0) ⟨#[], args, []⟩).Shaped Tryd.prog := World.shaped_of_RefB (by kernel_rfl) (by kernel_rfl)
end Go.Proofs.YthpplbigmolnjaaDoor.FltW
