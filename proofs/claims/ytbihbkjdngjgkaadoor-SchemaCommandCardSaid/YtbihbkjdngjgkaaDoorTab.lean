/-
  What the laid condition gives: the tables' cells.
-/
import Derived.Test.YtbihbkjdngjgkaaDoorTables
import Derived.MakeChecks
import Derived.Handed
namespace Go.Proofs.YtbihbkjdngjgkaaDoor
open Go.RowKit

def RowsAt (W : World) (g : Nat) (rows : List RowT) : Prop := ∀ i r, rows[i]? = some r → ∀ j, j < 5 → W.cell? ⟨g, i * 5 + j, none⟩ = (rowV r)[j]?
theorem gKinds : Tryd.prog.globalNamed "souk/schema.kinds" = some 1 := by kernel_rfl
theorem tKinds : (Tryd.prog.globals[1]?).map (·.type) = some 71 := by kernel_rfl

theorem kinds_of_laid {W : World} (h : laidMetH Tryd.prog [("souk/schema.kinds", Rows.laid_souk_schema_kinds)] W) : RowsAt W 1 kindsT := by
  rw [MakeChecks.laidMetH_plain _ _ _ (by kernel_rfl)] at h
  obtain ⟨ps, ⟨g0, t0, cs0, f0, p0, q0, hg0, ht0, hv0, hd0, _, _⟩, _⟩ := h
  obtain rfl := Option.some.inj (gKinds.symm.trans hg0)
  obtain rfl := Option.some.inj (tKinds.symm.trans ht0)
  intro i r hr j hj
  rw [World.var?_cell hg0 hv0]
  have := table_cells (rows := kindsT) Tryd.underlying71 hd0 kindsT_laid i r hr j hj
  simpa using this
theorem gCommands : Tryd.prog.globalNamed "souk/schema.commands" = some 0 := by kernel_rfl
theorem tCommands : (Tryd.prog.globals[0]?).map (·.type) = some 70 := by kernel_rfl
theorem both_of_laid {W : World} (h : laidMetH Tryd.prog [("souk/schema.kinds", Rows.laid_souk_schema_kinds), ("souk/schema.commands", Rows.laid_souk_schema_commands)] W) : RowsAt W 1 kindsT ∧ RowsAt W 0 commandsT := by
  rw [MakeChecks.laidMetH_plain _ _ _ (by kernel_rfl)] at h
  obtain ⟨ps, ⟨g0, t0, cs0, f0, p0, q0, hg0, ht0, hv0, hd0, ⟨g1, t1, cs1, f1, p1, q1, hg1, ht1, hv1, hd1, _, _⟩, _⟩, _⟩ := h
  obtain rfl := Option.some.inj (gKinds.symm.trans hg0)
  obtain rfl := Option.some.inj (tKinds.symm.trans ht0)
  obtain rfl := Option.some.inj (gCommands.symm.trans hg1)
  obtain rfl := Option.some.inj (tCommands.symm.trans ht1)
  refine ⟨fun i r hr j hj => ?_, fun i r hr j hj => ?_⟩
  · rw [World.var?_cell hg0 hv0]
    have := table_cells (rows := kindsT) Tryd.underlying71 hd0 kindsT_laid i r hr j hj
    simpa using this
  · rw [World.var?_cell hg1 hv1]
    have := table_cells (rows := commandsT) Tryd.underlying70 hd1 commandsT_laid i r hr j hj
    simpa using this
end Go.Proofs.YtbihbkjdngjgkaaDoor
