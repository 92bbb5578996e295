/-
  What the translation's head says, fact by fact, once for all the seat's statements. No statement of the seat is proved here.
-/
import Derived.Test.YtbihbkjdngjgkaaDoorCards
import Derived.JoinedOf
import Derived.SevenTiedAt
namespace Go.Proofs.YtbihbkjdngjgkaaDoor
open Go
set_option maxRecDepth 100000
theorem h_enter : Tryd.prog.mayEnter = true := by kernel_rfl
theorem h_lift : Tryd.prog.liftsFinal = Rows.schemaBoundsRow.lifted := by kernel_rfl
theorem h_make : Tryd.prog.make = some Rows.schemaBoundsRow.make := by kernel_rfl
theorem h_main : Tryd.prog.mainIs = some (Rows.schemaBoundsCard.stood.harness.1, Rows.schemaBoundsCard.stood.harness.2.toList) := by kernel_rfl
theorem h_looks : Tryd.prog.looks [] = Rows.schemaBoundsCard.stood.looks := by kernel_rfl
end Go.Proofs.YtbihbkjdngjgkaaDoor
