/-
  What the translation's head says, fact by fact, once for all the seat's statements. No statement of the seat is proved here.
-/
import Derived.Test.YtnmfmedoocnofaaDoorCards
import Derived.JoinedOf
import Derived.SevenTiedAt
namespace Go.Proofs.YtnmfmedoocnofaaDoor
open Go
set_option maxRecDepth 100000
theorem h_enter : Tryd.prog.mayEnter = true := by kernel_rfl
theorem h_lift : Tryd.prog.liftsFinal = Rows.batchReadsRow.lifted := by kernel_rfl
theorem h_make : Tryd.prog.make = some Rows.batchReadsRow.make := by kernel_rfl
theorem h_main : Tryd.prog.mainIs = some (Rows.batchReadsCard.stood.harness.1, Rows.batchReadsCard.stood.harness.2.toList) := by kernel_rfl
theorem h_looks : Tryd.prog.looks [] = Rows.batchReadsCard.stood.looks := by kernel_rfl
end Go.Proofs.YtnmfmedoocnofaaDoor
