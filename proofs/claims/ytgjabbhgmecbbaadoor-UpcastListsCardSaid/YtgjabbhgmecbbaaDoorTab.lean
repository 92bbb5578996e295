/-
  What the laid condition gives: the tables' cells.
-/
import Derived.Test.YtgjabbhgmecbbaaDoorTables
import Derived.MakeChecks
import Derived.Handed
namespace Go.Proofs.YtgjabbhgmecbbaaDoor
open Go.RowKit

def RowsAt (W : World) (g : Nat) (rows : List RowT) : Prop := ∀ i r, rows[i]? = some r → ∀ j, j < 5 → W.cell? ⟨g, i * 5 + j, none⟩ = (rowV r)[j]?
theorem gKinds : Tryd.prog.globalNamed "souk/schema.kinds" = some 0 := by kernel_rfl
theorem tKinds : (Tryd.prog.globals[0]?).map (·.type) = some 83 := by kernel_rfl

theorem kinds_of_laid {W : World} (h : laidMetH Tryd.prog [("souk/schema.kinds", Rows.laid_souk_schema_kinds)] W) : RowsAt W 0 kindsT := by
  rw [MakeChecks.laidMetH_plain _ _ _ (by kernel_rfl)] at h
  obtain ⟨ps, ⟨g0, t0, cs0, f0, p0, q0, hg0, ht0, hv0, hd0, _, _⟩, _⟩ := h
  obtain rfl := Option.some.inj (gKinds.symm.trans hg0)
  obtain rfl := Option.some.inj (tKinds.symm.trans ht0)
  intro i r hr j hj
  rw [World.var?_cell hg0 hv0]
  have := table_cells (rows := kindsT) Tryd.underlying83 hd0 kindsT_laid i r hr j hj
  simpa using this
end Go.Proofs.YtgjabbhgmecbbaaDoor
