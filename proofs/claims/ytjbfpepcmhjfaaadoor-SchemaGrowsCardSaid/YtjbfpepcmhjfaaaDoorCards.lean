/-
  DERIVED. GIVEN WITH THE SEED: THE CARDS: each row of YtjbfpepcmhjfaaaDoorRows.lean that lists a variable, with what it lists TIED to the program's text (the seventh form; the later family's looks); each row that meets fmt, with fmt's text TOLD by the authors' own Lean function (tested against real Go, not proved from fmt's source: count such statements apart). THE CARD IS WHAT COUNTS. Prove the row's statement (the work); the ties are given (YtjbfpepcmhjfaaaDoorTie.lean); close each card by the builder's one call (the guide's Derived/Test/ToyasCard.lean, 'card_holds'). Laid BY PROGRAM, IN A SANDBOX (cutbox-door.mjs). By AI agents, Wed Nov 11 2026. No macro, syntax, notation, axiom, sorry.
-/
import Derived.Test.YtjbfpepcmhjfaaaDoorRows
import GoSem.ClaimSeven
namespace Go.Proofs.YtjbfpepcmhjfaaaDoor
namespace Rows

/-- THE TIED CARD OF 'souklaw05.SchemaGrows'. -/
def schemaGrowsCard : Claim7 := { stood := { row := schemaGrowsRow, standIns := [], harness := (true, "6d191f76c7e592803047ad42d9f9427992e81566a50d15316b20c775232cf8a4"), looks := false }, kinds := [], alts := [], laidByText := true, laidKinds := [.data, .data], laidTests := true, laidLooks := .later }
def SchemaGrowsCardSaid : Prop := Claim7.holds Tryd.pinned (.plain (OpenSpec.ofChange schemaGrowsSpec)) schemaGrowsCard

/-- THE TIED CARD OF 'souklaw05.SchemaBounds'. -/
def schemaBoundsCard : Claim7 := { stood := { row := schemaBoundsRow, standIns := [], harness := (true, "6d191f76c7e592803047ad42d9f9427992e81566a50d15316b20c775232cf8a4"), looks := false }, kinds := [], alts := [], laidByText := true, laidKinds := [.data, .data], laidTests := true, laidLooks := .later }
def SchemaBoundsCardSaid : Prop := Claim7.holds Tryd.pinned (.plain (OpenSpec.ofChange schemaBoundsSpec)) schemaBoundsCard

/-- THE TIED CARD OF 'souklaw05.SchemaCommand'. -/
def schemaCommandCard : Claim7 := { stood := { row := schemaCommandRow, standIns := [], harness := (true, "6d191f76c7e592803047ad42d9f9427992e81566a50d15316b20c775232cf8a4"), looks := false }, kinds := [], alts := [], laidByText := true, laidKinds := [.data, .data], laidTests := true, laidLooks := .later }
def SchemaCommandCardSaid : Prop := Claim7.holds Tryd.pinned (.plain (OpenSpec.ofChange schemaCommandSpec)) schemaCommandCard

/-- THE TIED CARD OF 'souklaw05.SchemaMay'. -/
def schemaMayCard : Claim7 := { stood := { row := schemaMayRow, standIns := [], harness := (true, "6d191f76c7e592803047ad42d9f9427992e81566a50d15316b20c775232cf8a4"), looks := false }, kinds := [], alts := [], laidByText := true, laidKinds := [.data, .data], laidTests := true, laidLooks := .later }
def SchemaMayCardSaid : Prop := Claim7.holds Tryd.pinned (.plain (OpenSpec.ofChange schemaMaySpec)) schemaMayCard

/-- THE TIED CARD OF 'souklaw05.SchemaSame'. -/
def schemaSameCard : Claim7 := { stood := { row := schemaSameRow, standIns := [], harness := (true, "6d191f76c7e592803047ad42d9f9427992e81566a50d15316b20c775232cf8a4"), looks := false }, kinds := [], alts := [], laidByText := true, laidKinds := [.data, .data], laidTests := true, laidLooks := .later }
def SchemaSameCardSaid : Prop := Claim7.holds Tryd.pinned (.plain (OpenSpec.ofChange schemaSameSpec)) schemaSameCard

/-- THE TIED CARD OF 'souklaw05.SchemaAsks'. -/
def schemaAsksCard : Claim7 := { stood := { row := schemaAsksRow, standIns := [], harness := (true, "6d191f76c7e592803047ad42d9f9427992e81566a50d15316b20c775232cf8a4"), looks := false }, kinds := [], alts := [], laidByText := true, laidKinds := [.data, .data], laidTests := true, laidLooks := .later }
def SchemaAsksCardSaid : Prop := Claim7.holds Tryd.pinned (.plain (OpenSpec.ofChange schemaAsksSpec)) schemaAsksCard

/-- THE TIED CARD OF 'souklaw05.SchemaNames'. -/
def schemaNamesCard : Claim7 := { stood := { row := schemaNamesRow, standIns := [], harness := (true, "6d191f76c7e592803047ad42d9f9427992e81566a50d15316b20c775232cf8a4"), looks := false }, kinds := [], alts := [], laidByText := true, laidKinds := [.data, .data], laidTests := true, laidLooks := .later }
def SchemaNamesCardSaid : Prop := Claim7.holds Tryd.pinned (.plain (OpenSpec.ofChange schemaNamesSpec)) schemaNamesCard

/-- THE TIED CARD OF 'souklaw05.SchemaWords'. -/
def schemaWordsCard : Claim7 := { stood := { row := schemaWordsRow, standIns := [], harness := (true, "6d191f76c7e592803047ad42d9f9427992e81566a50d15316b20c775232cf8a4"), looks := false }, kinds := [], alts := [], laidByText := true, laidKinds := [.data, .data], laidTests := true, laidLooks := .later }
def SchemaWordsCardSaid : Prop := Claim7.holds Tryd.pinned (.plain (OpenSpec.ofChange schemaWordsSpec)) schemaWordsCard

/-- THE TIED CARD OF 'souklaw05.SchemaTells'. -/
def schemaTellsCard : Claim7 := { stood := { row := schemaTellsRow, standIns := [], harness := (true, "6d191f76c7e592803047ad42d9f9427992e81566a50d15316b20c775232cf8a4"), looks := false }, kinds := [], alts := [], laidByText := true, laidKinds := [.data, .data], laidTests := true, laidLooks := .later }
def SchemaTellsCardSaid : Prop := Claim7.holds Tryd.pinned (.plain (OpenSpec.ofChange schemaTellsSpec)) schemaTellsCard

/-- THE TIED CARD OF 'souklaw07.UpcastSays'. -/
def upcastSaysCard : Claim7 := { stood := { row := upcastSaysRow, standIns := [], harness := (true, "6d191f76c7e592803047ad42d9f9427992e81566a50d15316b20c775232cf8a4"), looks := false }, kinds := [], alts := [], laidByText := true, laidKinds := [.data], laidTests := true, laidLooks := .later }
def UpcastSaysCardSaid : Prop := Claim7.holds Tryd.pinned (.plain (OpenSpec.ofChange upcastSaysSpec)) upcastSaysCard

/-- THE TIED CARD OF 'souklaw07.UpcastBack'. -/
def upcastBackCard : Claim7 := { stood := { row := upcastBackRow, standIns := [], harness := (true, "6d191f76c7e592803047ad42d9f9427992e81566a50d15316b20c775232cf8a4"), looks := false }, kinds := [], alts := [], laidByText := true, laidKinds := [.data], laidTests := true, laidLooks := .later }
def UpcastBackCardSaid : Prop := Claim7.holds Tryd.pinned (.plain (OpenSpec.ofChange upcastBackSpec)) upcastBackCard

/-- THE TIED CARD OF 'souklaw07.UpcastOne'. -/
def upcastOneCard : Claim7 := { stood := { row := upcastOneRow, standIns := [], harness := (true, "6d191f76c7e592803047ad42d9f9427992e81566a50d15316b20c775232cf8a4"), looks := false }, kinds := [], alts := [], laidByText := true, laidKinds := [.data], laidTests := true, laidLooks := .later }
def UpcastOneCardSaid : Prop := Claim7.holds Tryd.pinned (.plain (OpenSpec.ofChange upcastOneSpec)) upcastOneCard

/-- THE TIED CARD OF 'souklaw07.UpcastLists'. -/
def upcastListsCard : Claim7 := { stood := { row := upcastListsRow, standIns := [], harness := (true, "6d191f76c7e592803047ad42d9f9427992e81566a50d15316b20c775232cf8a4"), looks := false }, kinds := [], alts := [], laidByText := true, laidKinds := [.data], laidTests := true, laidLooks := .later }
def UpcastListsCardSaid : Prop := Claim7.holds Tryd.pinned (.plain (OpenSpec.ofChange upcastListsSpec)) upcastListsCard

/-- THE TIED CARD OF 'souklaw06.CodecNames'. -/
def codecNamesCard : Claim7 := { stood := { row := codecNamesRow, standIns := [], harness := (true, "6d191f76c7e592803047ad42d9f9427992e81566a50d15316b20c775232cf8a4"), looks := false }, kinds := [], alts := [], laidByText := true, laidKinds := [.data], laidTests := true, laidLooks := .later }
def CodecNamesCardSaid : Prop := Claim7.holds Tryd.pinned (.plain (OpenSpec.ofChange codecNamesSpec)) codecNamesCard

/-- THE TIED CARD OF 'souklaw06.CodecTells'. -/
def codecTellsCard : Claim7 := { stood := { row := codecTellsRow, standIns := [], harness := (true, "6d191f76c7e592803047ad42d9f9427992e81566a50d15316b20c775232cf8a4"), looks := false }, kinds := [], alts := [], laidByText := true, laidKinds := [.data], laidTests := true, laidLooks := .later }
def CodecTellsCardSaid : Prop := Claim7.holds Tryd.pinned (.plain (OpenSpec.ofChange codecTellsSpec)) codecTellsCard

/-- THE TIED CARD OF 'souklaw06.CodecBack'. -/
def codecBackCard : Claim7 := { stood := { row := codecBackRow, standIns := [], harness := (true, "6d191f76c7e592803047ad42d9f9427992e81566a50d15316b20c775232cf8a4"), looks := false }, kinds := [], alts := [], laidByText := true, laidKinds := [.data], laidTests := true, laidLooks := .later }
def CodecBackCardSaid : Prop := Claim7.holds Tryd.pinned (.plain (OpenSpec.ofChange codecBackSpec)) codecBackCard

/-- THE TIED CARD OF 'souklaw06.CodecCut'. -/
def codecCutCard : Claim7 := { stood := { row := codecCutRow, standIns := [], harness := (true, "6d191f76c7e592803047ad42d9f9427992e81566a50d15316b20c775232cf8a4"), looks := false }, kinds := [], alts := [], laidByText := true, laidKinds := [.data], laidTests := true, laidLooks := .later }
def CodecCutCardSaid : Prop := Claim7.holds Tryd.pinned (.plain (OpenSpec.ofChange codecCutSpec)) codecCutCard

/-- THE TIED CARD OF 'souklaw06.CodecUnlike'. -/
def codecUnlikeCard : Claim7 := { stood := { row := codecUnlikeRow, standIns := [], harness := (true, "6d191f76c7e592803047ad42d9f9427992e81566a50d15316b20c775232cf8a4"), looks := false }, kinds := [], alts := [], laidByText := true, laidKinds := [.data], laidTests := true, laidLooks := .later }
def CodecUnlikeCardSaid : Prop := Claim7.holds Tryd.pinned (.plain (OpenSpec.ofChange codecUnlikeSpec)) codecUnlikeCard

/-- THE TIED CARD OF 'souklaw06.CodecAmong'. -/
def codecAmongCard : Claim7 := { stood := { row := codecAmongRow, standIns := [], harness := (true, "6d191f76c7e592803047ad42d9f9427992e81566a50d15316b20c775232cf8a4"), looks := false }, kinds := [], alts := [], laidByText := true, laidKinds := [.data], laidTests := true, laidLooks := .later }
def CodecAmongCardSaid : Prop := Claim7.holds Tryd.pinned (.plain (OpenSpec.ofChange codecAmongSpec)) codecAmongCard

/-- THE TIED CARD OF 'souklaw06.CodecGets'. -/
def codecGetsCard : Claim7 := { stood := { row := codecGetsRow, standIns := [], harness := (true, "6d191f76c7e592803047ad42d9f9427992e81566a50d15316b20c775232cf8a4"), looks := false }, kinds := [], alts := [], laidByText := true, laidKinds := [.data], laidTests := true, laidLooks := .later }
def CodecGetsCardSaid : Prop := Claim7.holds Tryd.pinned (.plain (OpenSpec.ofChange codecGetsSpec)) codecGetsCard

/-- THE TIED CARD OF 'souklaw08.BatchReads'. -/
def batchReadsCard : Claim7 := { stood := { row := batchReadsRow, standIns := [], harness := (true, "6d191f76c7e592803047ad42d9f9427992e81566a50d15316b20c775232cf8a4"), looks := false }, kinds := [], alts := [], laidByText := true, laidKinds := [.data], laidTests := true, laidLooks := .later }
def BatchReadsCardSaid : Prop := Claim7.holds Tryd.pinned (.plain (OpenSpec.ofChange batchReadsSpec)) batchReadsCard

/-- THE TIED CARD OF 'souklaw08.BatchBack'. -/
def batchBackCard : Claim7 := { stood := { row := batchBackRow, standIns := [], harness := (true, "6d191f76c7e592803047ad42d9f9427992e81566a50d15316b20c775232cf8a4"), looks := false }, kinds := [], alts := [], laidByText := true, laidKinds := [.data], laidTests := true, laidLooks := .later }
def BatchBackCardSaid : Prop := Claim7.holds Tryd.pinned (.plain (OpenSpec.ofChange batchBackSpec)) batchBackCard

/-- THE TIED CARD OF 'souklaw08.BatchLifted'. -/
def batchLiftedCard : Claim7 := { stood := { row := batchLiftedRow, standIns := [], harness := (true, "6d191f76c7e592803047ad42d9f9427992e81566a50d15316b20c775232cf8a4"), looks := false }, kinds := [], alts := [], laidByText := true, laidKinds := [.data], laidTests := true, laidLooks := .later }
def BatchLiftedCardSaid : Prop := Claim7.holds Tryd.pinned (.plain (OpenSpec.ofChange batchLiftedSpec)) batchLiftedCard

/-- THE TIED CARD OF 'souklaw08.BatchCut'. -/
def batchCutCard : Claim7 := { stood := { row := batchCutRow, standIns := [], harness := (true, "6d191f76c7e592803047ad42d9f9427992e81566a50d15316b20c775232cf8a4"), looks := false }, kinds := [], alts := [], laidByText := true, laidKinds := [.data], laidTests := true, laidLooks := .later }
def BatchCutCardSaid : Prop := Claim7.holds Tryd.pinned (.plain (OpenSpec.ofChange batchCutSpec)) batchCutCard

/-- THE TIED CARD OF 'souklaw08.BatchNames'. -/
def batchNamesCard : Claim7 := { stood := { row := batchNamesRow, standIns := [], harness := (true, "6d191f76c7e592803047ad42d9f9427992e81566a50d15316b20c775232cf8a4"), looks := false }, kinds := [], alts := [], laidByText := true, laidKinds := [.data], laidTests := true, laidLooks := .later }
def BatchNamesCardSaid : Prop := Claim7.holds Tryd.pinned (.plain (OpenSpec.ofChange batchNamesSpec)) batchNamesCard

/-- THE TIED CARD OF 'souklaw08.BatchTells'. -/
def batchTellsCard : Claim7 := { stood := { row := batchTellsRow, standIns := [], harness := (true, "6d191f76c7e592803047ad42d9f9427992e81566a50d15316b20c775232cf8a4"), looks := false }, kinds := [], alts := [], laidByText := true, laidKinds := [.data], laidTests := true, laidLooks := .later }
def BatchTellsCardSaid : Prop := Claim7.holds Tryd.pinned (.plain (OpenSpec.ofChange batchTellsSpec)) batchTellsCard

/-- THE SECOND FORM's CARD OF 'souklaw05.SchemaGrows'. -/
def schemaGrowsUptoCard : Claim7 := { stood := { row := schemaGrowsUptoRow, standIns := [], harness := (true, "6d191f76c7e592803047ad42d9f9427992e81566a50d15316b20c775232cf8a4"), looks := false }, kinds := [], alts := [], laidByText := true, laidKinds := [.data, .data], laidTests := true, laidLooks := .later }
def SchemaGrowsUptoCardSaid : Prop := Claim7.holds Tryd.pinned (.plain (OpenSpec.upto schemaGrowsSpec)) schemaGrowsUptoCard

/-- THE SECOND FORM's CARD OF 'souklaw05.SchemaBounds'. -/
def schemaBoundsUptoCard : Claim7 := { stood := { row := schemaBoundsUptoRow, standIns := [], harness := (true, "6d191f76c7e592803047ad42d9f9427992e81566a50d15316b20c775232cf8a4"), looks := false }, kinds := [], alts := [], laidByText := true, laidKinds := [.data, .data], laidTests := true, laidLooks := .later }
def SchemaBoundsUptoCardSaid : Prop := Claim7.holds Tryd.pinned (.plain (OpenSpec.upto schemaBoundsSpec)) schemaBoundsUptoCard

/-- THE SECOND FORM's CARD OF 'souklaw05.SchemaCommand'. -/
def schemaCommandUptoCard : Claim7 := { stood := { row := schemaCommandUptoRow, standIns := [], harness := (true, "6d191f76c7e592803047ad42d9f9427992e81566a50d15316b20c775232cf8a4"), looks := false }, kinds := [], alts := [], laidByText := true, laidKinds := [.data, .data], laidTests := true, laidLooks := .later }
def SchemaCommandUptoCardSaid : Prop := Claim7.holds Tryd.pinned (.plain (OpenSpec.upto schemaCommandSpec)) schemaCommandUptoCard

/-- THE SECOND FORM's CARD OF 'souklaw05.SchemaMay'. -/
def schemaMayUptoCard : Claim7 := { stood := { row := schemaMayUptoRow, standIns := [], harness := (true, "6d191f76c7e592803047ad42d9f9427992e81566a50d15316b20c775232cf8a4"), looks := false }, kinds := [], alts := [], laidByText := true, laidKinds := [.data, .data], laidTests := true, laidLooks := .later }
def SchemaMayUptoCardSaid : Prop := Claim7.holds Tryd.pinned (.plain (OpenSpec.upto schemaMaySpec)) schemaMayUptoCard

/-- THE SECOND FORM's CARD OF 'souklaw05.SchemaSame'. -/
def schemaSameUptoCard : Claim7 := { stood := { row := schemaSameUptoRow, standIns := [], harness := (true, "6d191f76c7e592803047ad42d9f9427992e81566a50d15316b20c775232cf8a4"), looks := false }, kinds := [], alts := [], laidByText := true, laidKinds := [.data, .data], laidTests := true, laidLooks := .later }
def SchemaSameUptoCardSaid : Prop := Claim7.holds Tryd.pinned (.plain (OpenSpec.upto schemaSameSpec)) schemaSameUptoCard

/-- THE SECOND FORM's CARD OF 'souklaw05.SchemaAsks'. -/
def schemaAsksUptoCard : Claim7 := { stood := { row := schemaAsksUptoRow, standIns := [], harness := (true, "6d191f76c7e592803047ad42d9f9427992e81566a50d15316b20c775232cf8a4"), looks := false }, kinds := [], alts := [], laidByText := true, laidKinds := [.data, .data], laidTests := true, laidLooks := .later }
def SchemaAsksUptoCardSaid : Prop := Claim7.holds Tryd.pinned (.plain (OpenSpec.upto schemaAsksSpec)) schemaAsksUptoCard

/-- THE SECOND FORM's CARD OF 'souklaw05.SchemaNames'. -/
def schemaNamesUptoCard : Claim7 := { stood := { row := schemaNamesUptoRow, standIns := [], harness := (true, "6d191f76c7e592803047ad42d9f9427992e81566a50d15316b20c775232cf8a4"), looks := false }, kinds := [], alts := [], laidByText := true, laidKinds := [.data, .data], laidTests := true, laidLooks := .later }
def SchemaNamesUptoCardSaid : Prop := Claim7.holds Tryd.pinned (.plain (OpenSpec.upto schemaNamesSpec)) schemaNamesUptoCard

/-- THE SECOND FORM's CARD OF 'souklaw05.SchemaWords'. -/
def schemaWordsUptoCard : Claim7 := { stood := { row := schemaWordsUptoRow, standIns := [], harness := (true, "6d191f76c7e592803047ad42d9f9427992e81566a50d15316b20c775232cf8a4"), looks := false }, kinds := [], alts := [], laidByText := true, laidKinds := [.data, .data], laidTests := true, laidLooks := .later }
def SchemaWordsUptoCardSaid : Prop := Claim7.holds Tryd.pinned (.plain (OpenSpec.upto schemaWordsSpec)) schemaWordsUptoCard

/-- THE SECOND FORM's CARD OF 'souklaw05.SchemaTells'. -/
def schemaTellsUptoCard : Claim7 := { stood := { row := schemaTellsUptoRow, standIns := [], harness := (true, "6d191f76c7e592803047ad42d9f9427992e81566a50d15316b20c775232cf8a4"), looks := false }, kinds := [], alts := [], laidByText := true, laidKinds := [.data, .data], laidTests := true, laidLooks := .later }
def SchemaTellsUptoCardSaid : Prop := Claim7.holds Tryd.pinned (.plain (OpenSpec.upto schemaTellsSpec)) schemaTellsUptoCard

/-- THE SECOND FORM's CARD OF 'souklaw07.UpcastSays'. -/
def upcastSaysUptoCard : Claim7 := { stood := { row := upcastSaysUptoRow, standIns := [], harness := (true, "6d191f76c7e592803047ad42d9f9427992e81566a50d15316b20c775232cf8a4"), looks := false }, kinds := [], alts := [], laidByText := true, laidKinds := [.data], laidTests := true, laidLooks := .later }
def UpcastSaysUptoCardSaid : Prop := Claim7.holds Tryd.pinned (.plain (OpenSpec.upto upcastSaysSpec)) upcastSaysUptoCard

/-- THE SECOND FORM's CARD OF 'souklaw07.UpcastBack'. -/
def upcastBackUptoCard : Claim7 := { stood := { row := upcastBackUptoRow, standIns := [], harness := (true, "6d191f76c7e592803047ad42d9f9427992e81566a50d15316b20c775232cf8a4"), looks := false }, kinds := [], alts := [], laidByText := true, laidKinds := [.data], laidTests := true, laidLooks := .later }
def UpcastBackUptoCardSaid : Prop := Claim7.holds Tryd.pinned (.plain (OpenSpec.upto upcastBackSpec)) upcastBackUptoCard

/-- THE SECOND FORM's CARD OF 'souklaw07.UpcastOne'. -/
def upcastOneUptoCard : Claim7 := { stood := { row := upcastOneUptoRow, standIns := [], harness := (true, "6d191f76c7e592803047ad42d9f9427992e81566a50d15316b20c775232cf8a4"), looks := false }, kinds := [], alts := [], laidByText := true, laidKinds := [.data], laidTests := true, laidLooks := .later }
def UpcastOneUptoCardSaid : Prop := Claim7.holds Tryd.pinned (.plain (OpenSpec.upto upcastOneSpec)) upcastOneUptoCard

/-- THE SECOND FORM's CARD OF 'souklaw07.UpcastLists'. -/
def upcastListsUptoCard : Claim7 := { stood := { row := upcastListsUptoRow, standIns := [], harness := (true, "6d191f76c7e592803047ad42d9f9427992e81566a50d15316b20c775232cf8a4"), looks := false }, kinds := [], alts := [], laidByText := true, laidKinds := [.data], laidTests := true, laidLooks := .later }
def UpcastListsUptoCardSaid : Prop := Claim7.holds Tryd.pinned (.plain (OpenSpec.upto upcastListsSpec)) upcastListsUptoCard

/-- THE SECOND FORM's CARD OF 'souklaw06.CodecNames'. -/
def codecNamesUptoCard : Claim7 := { stood := { row := codecNamesUptoRow, standIns := [], harness := (true, "6d191f76c7e592803047ad42d9f9427992e81566a50d15316b20c775232cf8a4"), looks := false }, kinds := [], alts := [], laidByText := true, laidKinds := [.data], laidTests := true, laidLooks := .later }
def CodecNamesUptoCardSaid : Prop := Claim7.holds Tryd.pinned (.plain (OpenSpec.upto codecNamesSpec)) codecNamesUptoCard

/-- THE SECOND FORM's CARD OF 'souklaw06.CodecTells'. -/
def codecTellsUptoCard : Claim7 := { stood := { row := codecTellsUptoRow, standIns := [], harness := (true, "6d191f76c7e592803047ad42d9f9427992e81566a50d15316b20c775232cf8a4"), looks := false }, kinds := [], alts := [], laidByText := true, laidKinds := [.data], laidTests := true, laidLooks := .later }
def CodecTellsUptoCardSaid : Prop := Claim7.holds Tryd.pinned (.plain (OpenSpec.upto codecTellsSpec)) codecTellsUptoCard

/-- THE SECOND FORM's CARD OF 'souklaw06.CodecBack'. -/
def codecBackUptoCard : Claim7 := { stood := { row := codecBackUptoRow, standIns := [], harness := (true, "6d191f76c7e592803047ad42d9f9427992e81566a50d15316b20c775232cf8a4"), looks := false }, kinds := [], alts := [], laidByText := true, laidKinds := [.data], laidTests := true, laidLooks := .later }
def CodecBackUptoCardSaid : Prop := Claim7.holds Tryd.pinned (.plain (OpenSpec.upto codecBackSpec)) codecBackUptoCard

/-- THE SECOND FORM's CARD OF 'souklaw06.CodecCut'. -/
def codecCutUptoCard : Claim7 := { stood := { row := codecCutUptoRow, standIns := [], harness := (true, "6d191f76c7e592803047ad42d9f9427992e81566a50d15316b20c775232cf8a4"), looks := false }, kinds := [], alts := [], laidByText := true, laidKinds := [.data], laidTests := true, laidLooks := .later }
def CodecCutUptoCardSaid : Prop := Claim7.holds Tryd.pinned (.plain (OpenSpec.upto codecCutSpec)) codecCutUptoCard

/-- THE SECOND FORM's CARD OF 'souklaw06.CodecUnlike'. -/
def codecUnlikeUptoCard : Claim7 := { stood := { row := codecUnlikeUptoRow, standIns := [], harness := (true, "6d191f76c7e592803047ad42d9f9427992e81566a50d15316b20c775232cf8a4"), looks := false }, kinds := [], alts := [], laidByText := true, laidKinds := [.data], laidTests := true, laidLooks := .later }
def CodecUnlikeUptoCardSaid : Prop := Claim7.holds Tryd.pinned (.plain (OpenSpec.upto codecUnlikeSpec)) codecUnlikeUptoCard

/-- THE SECOND FORM's CARD OF 'souklaw06.CodecAmong'. -/
def codecAmongUptoCard : Claim7 := { stood := { row := codecAmongUptoRow, standIns := [], harness := (true, "6d191f76c7e592803047ad42d9f9427992e81566a50d15316b20c775232cf8a4"), looks := false }, kinds := [], alts := [], laidByText := true, laidKinds := [.data], laidTests := true, laidLooks := .later }
def CodecAmongUptoCardSaid : Prop := Claim7.holds Tryd.pinned (.plain (OpenSpec.upto codecAmongSpec)) codecAmongUptoCard

/-- THE SECOND FORM's CARD OF 'souklaw06.CodecGets'. -/
def codecGetsUptoCard : Claim7 := { stood := { row := codecGetsUptoRow, standIns := [], harness := (true, "6d191f76c7e592803047ad42d9f9427992e81566a50d15316b20c775232cf8a4"), looks := false }, kinds := [], alts := [], laidByText := true, laidKinds := [.data], laidTests := true, laidLooks := .later }
def CodecGetsUptoCardSaid : Prop := Claim7.holds Tryd.pinned (.plain (OpenSpec.upto codecGetsSpec)) codecGetsUptoCard

/-- THE SECOND FORM's CARD OF 'souklaw08.BatchReads'. -/
def batchReadsUptoCard : Claim7 := { stood := { row := batchReadsUptoRow, standIns := [], harness := (true, "6d191f76c7e592803047ad42d9f9427992e81566a50d15316b20c775232cf8a4"), looks := false }, kinds := [], alts := [], laidByText := true, laidKinds := [.data], laidTests := true, laidLooks := .later }
def BatchReadsUptoCardSaid : Prop := Claim7.holds Tryd.pinned (.plain (OpenSpec.upto batchReadsSpec)) batchReadsUptoCard

/-- THE SECOND FORM's CARD OF 'souklaw08.BatchBack'. -/
def batchBackUptoCard : Claim7 := { stood := { row := batchBackUptoRow, standIns := [], harness := (true, "6d191f76c7e592803047ad42d9f9427992e81566a50d15316b20c775232cf8a4"), looks := false }, kinds := [], alts := [], laidByText := true, laidKinds := [.data], laidTests := true, laidLooks := .later }
def BatchBackUptoCardSaid : Prop := Claim7.holds Tryd.pinned (.plain (OpenSpec.upto batchBackSpec)) batchBackUptoCard

/-- THE SECOND FORM's CARD OF 'souklaw08.BatchLifted'. -/
def batchLiftedUptoCard : Claim7 := { stood := { row := batchLiftedUptoRow, standIns := [], harness := (true, "6d191f76c7e592803047ad42d9f9427992e81566a50d15316b20c775232cf8a4"), looks := false }, kinds := [], alts := [], laidByText := true, laidKinds := [.data], laidTests := true, laidLooks := .later }
def BatchLiftedUptoCardSaid : Prop := Claim7.holds Tryd.pinned (.plain (OpenSpec.upto batchLiftedSpec)) batchLiftedUptoCard

/-- THE SECOND FORM's CARD OF 'souklaw08.BatchCut'. -/
def batchCutUptoCard : Claim7 := { stood := { row := batchCutUptoRow, standIns := [], harness := (true, "6d191f76c7e592803047ad42d9f9427992e81566a50d15316b20c775232cf8a4"), looks := false }, kinds := [], alts := [], laidByText := true, laidKinds := [.data], laidTests := true, laidLooks := .later }
def BatchCutUptoCardSaid : Prop := Claim7.holds Tryd.pinned (.plain (OpenSpec.upto batchCutSpec)) batchCutUptoCard

/-- THE SECOND FORM's CARD OF 'souklaw08.BatchNames'. -/
def batchNamesUptoCard : Claim7 := { stood := { row := batchNamesUptoRow, standIns := [], harness := (true, "6d191f76c7e592803047ad42d9f9427992e81566a50d15316b20c775232cf8a4"), looks := false }, kinds := [], alts := [], laidByText := true, laidKinds := [.data], laidTests := true, laidLooks := .later }
def BatchNamesUptoCardSaid : Prop := Claim7.holds Tryd.pinned (.plain (OpenSpec.upto batchNamesSpec)) batchNamesUptoCard

/-- THE SECOND FORM's CARD OF 'souklaw08.BatchTells'. -/
def batchTellsUptoCard : Claim7 := { stood := { row := batchTellsUptoRow, standIns := [], harness := (true, "6d191f76c7e592803047ad42d9f9427992e81566a50d15316b20c775232cf8a4"), looks := false }, kinds := [], alts := [], laidByText := true, laidKinds := [.data], laidTests := true, laidLooks := .later }
def BatchTellsUptoCardSaid : Prop := Claim7.holds Tryd.pinned (.plain (OpenSpec.upto batchTellsSpec)) batchTellsUptoCard
end Rows
end Go.Proofs.YtjbfpepcmhjfaaaDoor
