/-
  The door's own heap meets the laid condition; what the statements' closings share. No statement of the seat is proved here.
-/
import Derived.Test.YtnmfmedoocnofaaDoorCards
import Derived.Test.YtnmfmedoocnofaaDoorTie
import Derived.Test.YtnmfmedoocnofaaDoorSpec
import Derived.Test.YtnmfmedoocnofaaDoorMay
import Derived.Test.YtnmfmedoocnofaaDoorProof
import Derived.ProofKit
import Derived.LaidMore
import Derived.OpenShut
import Derived.Stop.Joined
namespace Go.Proofs.YtnmfmedoocnofaaDoor
open Go.ChangeShapes Go.WideShapes Go.ChangeAt Go.RowKit

theorem own_none : ownKnob Tryd.prog.godebug = none := by kernel_rfl
abbrev laidK : List (String × DataW Unit) := [("souk/schema.kinds", Rows.laid_souk_schema_kinds)]
theorem door_kinds (os : Os) (args : Array Value) : laidMetH Tryd.prog laidK ((World.doorLaid Tryd.prog 105 os).forCall (fun _ _ => 0) ⟨#[], args, []⟩).memory :=
  laidMetH_of_parts3 (fuel := 8) (laidMet_of_run' 8 (by kernel_rfl) (by kernel_rfl)) (by kernel_rfl) (by kernel_rfl)
theorem door_shaped (os : Os) (args : Array Value) : ((World.doorLaid Tryd.prog 105 os).forCall (fun _ _ => 0) ⟨#[], args, []⟩).Shaped Tryd.prog := World.shaped_of_RefB (by kernel_rfl) (by kernel_rfl)
end Go.Proofs.YtnmfmedoocnofaaDoor
