/-
  What the translation's head says, fact by fact, once for all the seat's statements. No statement of the seat is proved here.
-/
import Derived.Test.YtbnedlfejbfeoaaDoorCards
import Derived.JoinedOf
import Derived.SevenTiedAt
namespace Go.Proofs.YtbnedlfejbfeoaaDoor
open Go
set_option maxRecDepth 100000
theorem h_enter : Tryd.prog.mayEnter = true := by kernel_rfl
theorem h_lift : Tryd.prog.liftsFinal = Rows.codecTellsRow.lifted := by kernel_rfl
theorem h_make : Tryd.prog.make = some Rows.codecTellsRow.make := by kernel_rfl
theorem h_main : Tryd.prog.mainIs = some (Rows.codecTellsCard.stood.harness.1, Rows.codecTellsCard.stood.harness.2.toList) := by kernel_rfl
theorem h_looks : Tryd.prog.looks [] = Rows.codecTellsCard.stood.looks := by kernel_rfl
end Go.Proofs.YtbnedlfejbfeoaaDoor
