/-
  DERIVED. GIVEN WITH THE SEED: THE CARDS: each row of YtbihbkjdngjgkaaDoorRows.lean that lists a variable, with what it lists TIED to the program's text (the seventh form; the later family's looks); each row that meets fmt, with fmt's text TOLD by the authors' own Lean function (tested against real Go, not proved from fmt's source: count such statements apart). THE CARD IS WHAT COUNTS. Prove the row's statement (the work); the ties are given (YtbihbkjdngjgkaaDoorTie.lean); close each card by the builder's one call (the guide's Derived/Test/ToyasCard.lean, 'card_holds'). Laid BY PROGRAM, IN A SANDBOX (cutbox-door.mjs). By AI agents, Wed Nov 11 2026. No macro, syntax, notation, axiom, sorry.
-/
import Derived.Test.YtbihbkjdngjgkaaDoorRows
import GoSem.ClaimSeven
namespace Go.Proofs.YtbihbkjdngjgkaaDoor
namespace Rows

/-- THE TIED CARD OF 'souklaw05.SchemaBounds'. -/
def schemaBoundsCard : Claim7 := { stood := { row := schemaBoundsRow, standIns := [], harness := (true, "3734fd9b934f7c129f857ec852dec3892035b5ee467e9daa018a4d3989bf3bfb"), looks := false }, kinds := [], alts := [], laidByText := true, laidKinds := [.data, .data], laidTests := true, laidLooks := .later }
def SchemaBoundsCardSaid : Prop := Claim7.holds Tryd.pinned (.plain (OpenSpec.ofChange schemaBoundsSpec)) schemaBoundsCard

/-- THE TIED CARD OF 'souklaw05.SchemaCommand'. -/
def schemaCommandCard : Claim7 := { stood := { row := schemaCommandRow, standIns := [], harness := (true, "3734fd9b934f7c129f857ec852dec3892035b5ee467e9daa018a4d3989bf3bfb"), looks := false }, kinds := [], alts := [], laidByText := true, laidKinds := [.data, .data], laidTests := true, laidLooks := .later }
def SchemaCommandCardSaid : Prop := Claim7.holds Tryd.pinned (.plain (OpenSpec.ofChange schemaCommandSpec)) schemaCommandCard

/-- THE TIED CARD OF 'souklaw05.SchemaMay'. -/
def schemaMayCard : Claim7 := { stood := { row := schemaMayRow, standIns := [], harness := (true, "3734fd9b934f7c129f857ec852dec3892035b5ee467e9daa018a4d3989bf3bfb"), looks := false }, kinds := [], alts := [], laidByText := true, laidKinds := [.data, .data], laidTests := true, laidLooks := .later }
def SchemaMayCardSaid : Prop := Claim7.holds Tryd.pinned (.plain (OpenSpec.ofChange schemaMaySpec)) schemaMayCard

/-- THE TIED CARD OF 'souklaw05.SchemaSame'. -/
def schemaSameCard : Claim7 := { stood := { row := schemaSameRow, standIns := [], harness := (true, "3734fd9b934f7c129f857ec852dec3892035b5ee467e9daa018a4d3989bf3bfb"), looks := false }, kinds := [], alts := [], laidByText := true, laidKinds := [.data, .data], laidTests := true, laidLooks := .later }
def SchemaSameCardSaid : Prop := Claim7.holds Tryd.pinned (.plain (OpenSpec.ofChange schemaSameSpec)) schemaSameCard

/-- THE TIED CARD OF 'souklaw05.SchemaAsks'. -/
def schemaAsksCard : Claim7 := { stood := { row := schemaAsksRow, standIns := [], harness := (true, "3734fd9b934f7c129f857ec852dec3892035b5ee467e9daa018a4d3989bf3bfb"), looks := false }, kinds := [], alts := [], laidByText := true, laidKinds := [.data, .data], laidTests := true, laidLooks := .later }
def SchemaAsksCardSaid : Prop := Claim7.holds Tryd.pinned (.plain (OpenSpec.ofChange schemaAsksSpec)) schemaAsksCard

/-- THE TIED CARD OF 'souklaw05.SchemaNames'. -/
def schemaNamesCard : Claim7 := { stood := { row := schemaNamesRow, standIns := [], harness := (true, "3734fd9b934f7c129f857ec852dec3892035b5ee467e9daa018a4d3989bf3bfb"), looks := false }, kinds := [], alts := [], laidByText := true, laidKinds := [.data, .data], laidTests := true, laidLooks := .later }
def SchemaNamesCardSaid : Prop := Claim7.holds Tryd.pinned (.plain (OpenSpec.ofChange schemaNamesSpec)) schemaNamesCard

/-- THE TIED CARD OF 'souklaw05.SchemaWords'. -/
def schemaWordsCard : Claim7 := { stood := { row := schemaWordsRow, standIns := [], harness := (true, "3734fd9b934f7c129f857ec852dec3892035b5ee467e9daa018a4d3989bf3bfb"), looks := false }, kinds := [], alts := [], laidByText := true, laidKinds := [.data, .data], laidTests := true, laidLooks := .later }
def SchemaWordsCardSaid : Prop := Claim7.holds Tryd.pinned (.plain (OpenSpec.ofChange schemaWordsSpec)) schemaWordsCard

/-- THE TIED CARD OF 'souklaw05.SchemaTells'. -/
def schemaTellsCard : Claim7 := { stood := { row := schemaTellsRow, standIns := [], harness := (true, "3734fd9b934f7c129f857ec852dec3892035b5ee467e9daa018a4d3989bf3bfb"), looks := false }, kinds := [], alts := [], laidByText := true, laidKinds := [.data, .data], laidTests := true, laidLooks := .later }
def SchemaTellsCardSaid : Prop := Claim7.holds Tryd.pinned (.plain (OpenSpec.ofChange schemaTellsSpec)) schemaTellsCard

/-- THE SECOND FORM's CARD OF 'souklaw05.SchemaBounds'. -/
def schemaBoundsUptoCard : Claim7 := { stood := { row := schemaBoundsUptoRow, standIns := [], harness := (true, "3734fd9b934f7c129f857ec852dec3892035b5ee467e9daa018a4d3989bf3bfb"), looks := false }, kinds := [], alts := [], laidByText := true, laidKinds := [.data, .data], laidTests := true, laidLooks := .later }
def SchemaBoundsUptoCardSaid : Prop := Claim7.holds Tryd.pinned (.plain (OpenSpec.upto schemaBoundsSpec)) schemaBoundsUptoCard

/-- THE SECOND FORM's CARD OF 'souklaw05.SchemaCommand'. -/
def schemaCommandUptoCard : Claim7 := { stood := { row := schemaCommandUptoRow, standIns := [], harness := (true, "3734fd9b934f7c129f857ec852dec3892035b5ee467e9daa018a4d3989bf3bfb"), looks := false }, kinds := [], alts := [], laidByText := true, laidKinds := [.data, .data], laidTests := true, laidLooks := .later }
def SchemaCommandUptoCardSaid : Prop := Claim7.holds Tryd.pinned (.plain (OpenSpec.upto schemaCommandSpec)) schemaCommandUptoCard

/-- THE SECOND FORM's CARD OF 'souklaw05.SchemaMay'. -/
def schemaMayUptoCard : Claim7 := { stood := { row := schemaMayUptoRow, standIns := [], harness := (true, "3734fd9b934f7c129f857ec852dec3892035b5ee467e9daa018a4d3989bf3bfb"), looks := false }, kinds := [], alts := [], laidByText := true, laidKinds := [.data, .data], laidTests := true, laidLooks := .later }
def SchemaMayUptoCardSaid : Prop := Claim7.holds Tryd.pinned (.plain (OpenSpec.upto schemaMaySpec)) schemaMayUptoCard

/-- THE SECOND FORM's CARD OF 'souklaw05.SchemaSame'. -/
def schemaSameUptoCard : Claim7 := { stood := { row := schemaSameUptoRow, standIns := [], harness := (true, "3734fd9b934f7c129f857ec852dec3892035b5ee467e9daa018a4d3989bf3bfb"), looks := false }, kinds := [], alts := [], laidByText := true, laidKinds := [.data, .data], laidTests := true, laidLooks := .later }
def SchemaSameUptoCardSaid : Prop := Claim7.holds Tryd.pinned (.plain (OpenSpec.upto schemaSameSpec)) schemaSameUptoCard

/-- THE SECOND FORM's CARD OF 'souklaw05.SchemaAsks'. -/
def schemaAsksUptoCard : Claim7 := { stood := { row := schemaAsksUptoRow, standIns := [], harness := (true, "3734fd9b934f7c129f857ec852dec3892035b5ee467e9daa018a4d3989bf3bfb"), looks := false }, kinds := [], alts := [], laidByText := true, laidKinds := [.data, .data], laidTests := true, laidLooks := .later }
def SchemaAsksUptoCardSaid : Prop := Claim7.holds Tryd.pinned (.plain (OpenSpec.upto schemaAsksSpec)) schemaAsksUptoCard

/-- THE SECOND FORM's CARD OF 'souklaw05.SchemaNames'. -/
def schemaNamesUptoCard : Claim7 := { stood := { row := schemaNamesUptoRow, standIns := [], harness := (true, "3734fd9b934f7c129f857ec852dec3892035b5ee467e9daa018a4d3989bf3bfb"), looks := false }, kinds := [], alts := [], laidByText := true, laidKinds := [.data, .data], laidTests := true, laidLooks := .later }
def SchemaNamesUptoCardSaid : Prop := Claim7.holds Tryd.pinned (.plain (OpenSpec.upto schemaNamesSpec)) schemaNamesUptoCard

/-- THE SECOND FORM's CARD OF 'souklaw05.SchemaWords'. -/
def schemaWordsUptoCard : Claim7 := { stood := { row := schemaWordsUptoRow, standIns := [], harness := (true, "3734fd9b934f7c129f857ec852dec3892035b5ee467e9daa018a4d3989bf3bfb"), looks := false }, kinds := [], alts := [], laidByText := true, laidKinds := [.data, .data], laidTests := true, laidLooks := .later }
def SchemaWordsUptoCardSaid : Prop := Claim7.holds Tryd.pinned (.plain (OpenSpec.upto schemaWordsSpec)) schemaWordsUptoCard

/-- THE SECOND FORM's CARD OF 'souklaw05.SchemaTells'. -/
def schemaTellsUptoCard : Claim7 := { stood := { row := schemaTellsUptoRow, standIns := [], harness := (true, "3734fd9b934f7c129f857ec852dec3892035b5ee467e9daa018a4d3989bf3bfb"), looks := false }, kinds := [], alts := [], laidByText := true, laidKinds := [.data, .data], laidTests := true, laidLooks := .later }
def SchemaTellsUptoCardSaid : Prop := Claim7.holds Tryd.pinned (.plain (OpenSpec.upto schemaTellsSpec)) schemaTellsUptoCard
end Rows
end Go.Proofs.YtbihbkjdngjgkaaDoor
