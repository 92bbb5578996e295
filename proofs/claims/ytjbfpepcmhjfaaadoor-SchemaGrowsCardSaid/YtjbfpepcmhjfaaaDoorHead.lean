/-
  What the translation's head says, fact by fact, once for all the seat's statements. No statement of the seat is proved here.
-/
import Derived.Test.YtjbfpepcmhjfaaaDoorCards
import Derived.JoinedOf
import Derived.SevenTiedAt
namespace Go.Proofs.YtjbfpepcmhjfaaaDoor
open Go
set_option maxRecDepth 100000
theorem h_enter : Tryd.prog.mayEnter = true := by kernel_rfl
theorem h_lift : Tryd.prog.liftsFinal = Rows.schemaGrowsRow.lifted := by kernel_rfl
theorem h_make : Tryd.prog.make = some Rows.schemaGrowsRow.make := by kernel_rfl
theorem h_main : Tryd.prog.mainIs = some (Rows.schemaGrowsCard.stood.harness.1, Rows.schemaGrowsCard.stood.harness.2.toList) := by kernel_rfl
theorem h_looks : Tryd.prog.looks [] = Rows.schemaGrowsCard.stood.looks := by kernel_rfl
end Go.Proofs.YtjbfpepcmhjfaaaDoor
