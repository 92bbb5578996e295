/-
  NARROWER THAN 'FOR EVERY INPUT', by the rows' own cells (each row's printed sentence says how): SchemaGrows: laid · SchemaBounds: laid · SchemaCommand: laid · SchemaMay: laid · SchemaSame: laid · SchemaAsks: laid · SchemaNames: laid · SchemaWords: laid · SchemaTells: laid · UpcastSays: laid · UpcastBack: laid · UpcastOne: laid · UpcastLists: laid · CodecNames: laid · CodecTells: laid · CodecBack: laid · CodecCut: laid · CodecUnlike: laid · CodecAmong: laid · CodecGets: laid · BatchReads: laid · BatchBack: laid · BatchLifted: laid · BatchCut: laid · BatchNames: laid · BatchTells: laid.
  DERIVED. THE GIVEN ROWS OF THIS SEAT. 26 by the template 'for every input the law returns true; each argument reads behind the call as it read before'; 0 by the template 'total and deterministic' (their statements: YtjbfpepcmhjfaaaDoorTotals.lean).
  GIVEN WITH THE SEED: the statements are not yours to turn. If you find one false, say at which input.
  Laid BY PROGRAM, IN A SANDBOX (cutbox-rows.mjs): the forced cells as the released guide's own fill.sh prints them over the translation 8f68df55d78f876e… (all of the seat's roots in one cut). By AI agents, Wed Nov 11 2026. No macro, syntax, notation, axiom, sorry.
-/
import Derived.Test.YtjbfpepcmhjfaaaDoorChecked
import GoSem.Claim
import GoSem.ClaimJoined
import GoSem.ClaimMapViews
import Derived.JoinedTies
import Derived.KernelRfl
namespace Go.Proofs.YtjbfpepcmhjfaaaDoor
/- THE CELL 'sum', in the pinned program and in every row, IS THE sha256 OF THE DUMP (.gsa) THAT YtjbfpepcmhjfaaaDoorProg.lean LOADS. Nothing in Lean hashes anything: it is a label: what it is worth is what the hold of that sum in a sandbox is worth. -/
noncomputable def Tryd.pinned : Pinned := { name := "ytjbfpepcmhjfaaadoor", sum := "8f68df55d78f876ec78ca2f57334594aab0097ded4b572e7532de787cacdc4b9", checked := Tryd.checked }
namespace Rows
def none {H : Type} : Left H := { results := [], args := [] }

/- WHAT THE LISTED PACKAGE-LEVEL VARIABLES READ AS WHEN THE CALL BEGINS. Each datum BY PROGRAM (the guide's laid-datum.mjs) off the statement by which the dump's own 'gosem.cut.vars' lays the variable. In a bare row this is a premise. The card (YtjbfpepcmhjfaaaDoorCards.lean) ties it to the program's text. -/
def laid_souk_schema_kinds {H : Type} : DataW H := .agg [.agg [.lit (.string [111, 112, 101, 110, 101, 100]), .agg [.lit (.string [97]), .lit (.string [97]), .lit (.string [97])], .lit (.bool true)], .agg [.lit (.string [99, 108, 111, 115, 101, 100]), .agg [.lit (.string [97]), .lit (.string [97]), .lit (.string [97])], .lit (.bool false)], .agg [.lit (.string [108, 105, 115, 116, 101, 100]), .agg [.lit (.string [105]), .lit (.string [105, 107]), .lit (.string [105, 107])], .lit (.bool true)], .agg [.lit (.string [104, 97, 108, 116, 101, 100]), .agg [.lit (.string [105]), .lit (.string [105]), .lit (.string [105])], .lit (.bool false)], .agg [.lit (.string [114, 101, 115, 117, 109, 101, 100]), .agg [.lit (.string [105]), .lit (.string [105]), .lit (.string [105])], .lit (.bool false)], .agg [.lit (.string [100, 101, 112, 111, 115, 105, 116, 101, 100]), .agg [.lit (.string [97, 109]), .lit (.string [97, 109]), .lit (.string [97, 109])], .lit (.bool false)], .agg [.lit (.string [119, 105, 116, 104, 100, 114, 97, 119, 110]), .agg [.lit (.string [97, 109]), .lit (.string [97, 109]), .lit (.string [97, 109])], .lit (.bool false)], .agg [.lit (.string [105, 115, 115, 117, 101, 100]), .agg [.lit (.string [97, 105, 113]), .lit (.string [97, 105, 113]), .lit (.string [97, 105, 113])], .lit (.bool false)], .agg [.lit (.string [114, 101, 100, 101, 101, 109, 101, 100]), .agg [.lit (.string [97, 105, 113]), .lit (.string [97, 105, 113]), .lit (.string [97, 105, 113])], .lit (.bool false)], .agg [.lit (.string [102, 101, 101, 32, 115, 101, 116]), .agg [.lit (.string [98]), .lit (.string [98]), .lit (.string [98])], .lit (.bool false)], .agg [.lit (.string [112, 108, 97, 99, 101, 100]), .agg [.lit (.string [111, 97, 105, 115, 112, 113]), .lit (.string [111, 97, 105, 115, 112, 113]), .lit (.string [111, 97, 105, 115, 112, 113])], .lit (.bool false)], .agg [.lit (.string [99, 97, 110, 99, 101, 108, 108, 101, 100]), .agg [.lit (.string [111]), .lit (.string [111]), .lit (.string [111])], .lit (.bool false)], .agg [.lit (.string [116, 114, 97, 100, 101, 100]), .agg [.lit (.string [111, 111, 112, 113]), .lit (.string [111, 111, 112, 113, 122]), .lit (.string [111, 111, 112, 113, 122])], .lit (.bool false)], .agg [.lit (.string [101, 110, 103, 108, 105, 115, 104]), .agg [.lit (.string [99, 97, 105, 113, 109, 116]), .lit (.string [99, 97, 105, 113, 109, 109, 116]), .lit (.string [99, 97, 105, 113, 109, 109, 116])], .lit (.bool false)], .agg [.lit (.string [114, 97, 105, 115, 101, 100]), .agg [.lit (.string [99, 97, 109]), .lit (.string [99, 97, 109]), .lit (.string [99, 97, 109])], .lit (.bool false)], .agg [.lit (.string [115, 101, 97, 108, 101, 100]), .agg [.lit (.string [99, 97, 105, 113, 109, 116]), .lit (.string [99, 97, 105, 113, 109, 116]), .lit (.string [99, 97, 105, 113, 109, 116])], .lit (.bool false)], .agg [.lit (.string [98, 105, 100]), .agg [.lit (.string [99, 97, 109]), .lit (.string [99, 97, 109]), .lit (.string [99, 97, 109])], .lit (.bool false)], .agg [.lit (.string [115, 111, 108, 100]), .agg [.lit (.string [99, 97, 109]), .lit (.string [99, 97, 109, 122]), .lit (.string [99, 97, 109, 122])], .lit (.bool false)], .agg [.lit (.string [117, 110, 115, 111, 108, 100]), .agg [.lit (.string [99]), .lit (.string [99]), .lit (.string [99])], .lit (.bool false)], .agg [.lit (.string [109, 111, 118, 101, 100]), .agg [.lit (.string [116]), .lit (.string [116]), .lit (.string [116])], .lit (.bool false)], .agg [.lit (.string [116, 114, 97, 110, 115, 102, 101, 114, 114, 101, 100]), .agg [.lit (.string [32]), .lit (.string [97, 97, 109]), .lit (.string [97, 97, 109])], .lit (.bool false)], .agg [.lit (.string [114, 101, 110, 97, 109, 101, 100]), .agg [.lit (.string [32]), .lit (.string [32]), .lit (.string [97])], .lit (.bool true)], .agg [.lit (.string [116, 105, 99, 107, 101, 100]), .agg [.lit (.string [32]), .lit (.string [32]), .lit (.string [105, 107])], .lit (.bool false)]]
def laid_souk_schema_commands {H : Type} : DataW H := .agg [.agg [.lit (.string [111, 112, 101, 110]), .agg [.lit (.string [32]), .lit (.string [32]), .lit (.string [])], .lit (.bool true)], .agg [.lit (.string [99, 108, 111, 115, 101]), .agg [.lit (.string [32]), .lit (.string [32]), .lit (.string [97])], .lit (.bool false)], .agg [.lit (.string [108, 105, 115, 116]), .agg [.lit (.string [32]), .lit (.string [32]), .lit (.string [107])], .lit (.bool true)], .agg [.lit (.string [104, 97, 108, 116]), .agg [.lit (.string [32]), .lit (.string [32]), .lit (.string [105])], .lit (.bool false)], .agg [.lit (.string [114, 101, 115, 117, 109, 101]), .agg [.lit (.string [32]), .lit (.string [32]), .lit (.string [105])], .lit (.bool false)], .agg [.lit (.string [100, 101, 112, 111, 115, 105, 116]), .agg [.lit (.string [32]), .lit (.string [32]), .lit (.string [97, 109])], .lit (.bool false)], .agg [.lit (.string [119, 105, 116, 104, 100, 114, 97, 119]), .agg [.lit (.string [32]), .lit (.string [32]), .lit (.string [97, 109])], .lit (.bool false)], .agg [.lit (.string [105, 115, 115, 117, 101]), .agg [.lit (.string [32]), .lit (.string [32]), .lit (.string [97, 105, 113])], .lit (.bool false)], .agg [.lit (.string [114, 101, 100, 101, 101, 109]), .agg [.lit (.string [32]), .lit (.string [32]), .lit (.string [97, 105, 113])], .lit (.bool false)], .agg [.lit (.string [102, 101, 101]), .agg [.lit (.string [32]), .lit (.string [32]), .lit (.string [98])], .lit (.bool false)], .agg [.lit (.string [112, 108, 97, 99, 101]), .agg [.lit (.string [32]), .lit (.string [32]), .lit (.string [97, 105, 115, 112, 113])], .lit (.bool false)], .agg [.lit (.string [99, 97, 110, 99, 101, 108]), .agg [.lit (.string [32]), .lit (.string [32]), .lit (.string [97, 111])], .lit (.bool false)], .agg [.lit (.string [101, 110, 103, 108, 105, 115, 104]), .agg [.lit (.string [32]), .lit (.string [32]), .lit (.string [97, 105, 113, 109, 109, 116])], .lit (.bool false)], .agg [.lit (.string [114, 97, 105, 115, 101]), .agg [.lit (.string [32]), .lit (.string [32]), .lit (.string [97, 99, 109])], .lit (.bool false)], .agg [.lit (.string [115, 101, 97, 108, 101, 100]), .agg [.lit (.string [32]), .lit (.string [32]), .lit (.string [97, 105, 113, 109, 116])], .lit (.bool false)], .agg [.lit (.string [98, 105, 100]), .agg [.lit (.string [32]), .lit (.string [32]), .lit (.string [97, 99, 109])], .lit (.bool false)], .agg [.lit (.string [109, 111, 118, 101]), .agg [.lit (.string [32]), .lit (.string [32]), .lit (.string [116])], .lit (.bool false)], .agg [.lit (.string [116, 114, 97, 110, 115, 102, 101, 114]), .agg [.lit (.string [32]), .lit (.string [32]), .lit (.string [97, 97, 109])], .lit (.bool false)], .agg [.lit (.string [114, 101, 110, 97, 109, 101]), .agg [.lit (.string [32]), .lit (.string [32]), .lit (.string [97])], .lit (.bool true)], .agg [.lit (.string [116, 105, 99, 107]), .agg [.lit (.string [32]), .lit (.string [32]), .lit (.string [105, 107])], .lit (.bool false)]]

/-- 'souklaw05.SchemaGrows': WHATEVER THE INPUT: true; the input reads as it did. -/
def schemaGrowsSpec : ChangeSpec := { name := "schemaGrows", fn := fun _ => fun
  | [d1, d2] => { results := [.lit (.bool true)], args := [d1, d2] }
  | _ => none }
def schemaGrowsRow : OpenClaim := { program := "ytjbfpepcmhjfaaadoor", sum := "8f68df55d78f876ec78ca2f57334594aab0097ded4b572e7532de787cacdc4b9", func := "souk/souklaw05.SchemaGrows", spec := "schemaGrows", named := ["souk/schema.kinds", "souk/schema.commands"], apart := false, laid := [("souk/schema.kinds", laid_souk_schema_kinds), ("souk/schema.commands", laid_souk_schema_commands)] }
def SchemaGrowsSaid : Prop := schemaGrowsRow.holds Tryd.pinned (OpenSpec.ofChange schemaGrowsSpec)

/-- ITS FALSE NEIGHBOUR: 'it returns false'. Refute it at one input. -/
def schemaGrowsWrong : ChangeSpec := { name := "schemaGrows", fn := fun _ => fun
  | [d1, d2] => { results := [.lit (.bool false)], args := [d1, d2] }
  | _ => none }
def SchemaGrowsWrongFalsely : Prop := schemaGrowsRow.holds Tryd.pinned (OpenSpec.ofChange schemaGrowsWrong)

/-- 'souklaw05.SchemaBounds': WHATEVER THE INPUT: true; the input reads as it did. -/
def schemaBoundsSpec : ChangeSpec := { name := "schemaBounds", fn := fun _ => fun
  | [d1, d2, d3] => { results := [.lit (.bool true)], args := [d1, d2, d3] }
  | _ => none }
def schemaBoundsRow : OpenClaim := { program := "ytjbfpepcmhjfaaadoor", sum := "8f68df55d78f876ec78ca2f57334594aab0097ded4b572e7532de787cacdc4b9", func := "souk/souklaw05.SchemaBounds", spec := "schemaBounds", named := ["souk/schema.kinds", "souk/schema.commands"], apart := false, laid := [("souk/schema.kinds", laid_souk_schema_kinds), ("souk/schema.commands", laid_souk_schema_commands)] }
def SchemaBoundsSaid : Prop := schemaBoundsRow.holds Tryd.pinned (OpenSpec.ofChange schemaBoundsSpec)

/-- ITS FALSE NEIGHBOUR: 'it returns false'. Refute it at one input. -/
def schemaBoundsWrong : ChangeSpec := { name := "schemaBounds", fn := fun _ => fun
  | [d1, d2, d3] => { results := [.lit (.bool false)], args := [d1, d2, d3] }
  | _ => none }
def SchemaBoundsWrongFalsely : Prop := schemaBoundsRow.holds Tryd.pinned (OpenSpec.ofChange schemaBoundsWrong)

/-- 'souklaw05.SchemaCommand': WHATEVER THE INPUT: true; the input reads as it did. -/
def schemaCommandSpec : ChangeSpec := { name := "schemaCommand", fn := fun _ => fun
  | [d1, d2, d3] => { results := [.lit (.bool true)], args := [d1, d2, d3] }
  | _ => none }
def schemaCommandRow : OpenClaim := { program := "ytjbfpepcmhjfaaadoor", sum := "8f68df55d78f876ec78ca2f57334594aab0097ded4b572e7532de787cacdc4b9", func := "souk/souklaw05.SchemaCommand", spec := "schemaCommand", named := ["souk/schema.kinds", "souk/schema.commands"], apart := false, laid := [("souk/schema.kinds", laid_souk_schema_kinds), ("souk/schema.commands", laid_souk_schema_commands)] }
def SchemaCommandSaid : Prop := schemaCommandRow.holds Tryd.pinned (OpenSpec.ofChange schemaCommandSpec)

/-- ITS FALSE NEIGHBOUR: 'it returns false'. Refute it at one input. -/
def schemaCommandWrong : ChangeSpec := { name := "schemaCommand", fn := fun _ => fun
  | [d1, d2, d3] => { results := [.lit (.bool false)], args := [d1, d2, d3] }
  | _ => none }
def SchemaCommandWrongFalsely : Prop := schemaCommandRow.holds Tryd.pinned (OpenSpec.ofChange schemaCommandWrong)

/-- 'souklaw05.SchemaMay': WHATEVER THE INPUT: true; the input reads as it did. -/
def schemaMaySpec : ChangeSpec := { name := "schemaMay", fn := fun _ => fun
  | [d1, d2, d3] => { results := [.lit (.bool true)], args := [d1, d2, d3] }
  | _ => none }
def schemaMayRow : OpenClaim := { program := "ytjbfpepcmhjfaaadoor", sum := "8f68df55d78f876ec78ca2f57334594aab0097ded4b572e7532de787cacdc4b9", func := "souk/souklaw05.SchemaMay", spec := "schemaMay", named := ["souk/schema.kinds", "souk/schema.commands"], apart := false, laid := [("souk/schema.kinds", laid_souk_schema_kinds), ("souk/schema.commands", laid_souk_schema_commands)] }
def SchemaMaySaid : Prop := schemaMayRow.holds Tryd.pinned (OpenSpec.ofChange schemaMaySpec)

/-- ITS FALSE NEIGHBOUR: 'it returns false'. Refute it at one input. -/
def schemaMayWrong : ChangeSpec := { name := "schemaMay", fn := fun _ => fun
  | [d1, d2, d3] => { results := [.lit (.bool false)], args := [d1, d2, d3] }
  | _ => none }
def SchemaMayWrongFalsely : Prop := schemaMayRow.holds Tryd.pinned (OpenSpec.ofChange schemaMayWrong)

/-- 'souklaw05.SchemaSame': WHATEVER THE INPUT: true; the input reads as it did. -/
def schemaSameSpec : ChangeSpec := { name := "schemaSame", fn := fun _ => fun
  | [d1, d2, d3, d4] => { results := [.lit (.bool true)], args := [d1, d2, d3, d4] }
  | _ => none }
def schemaSameRow : OpenClaim := { program := "ytjbfpepcmhjfaaadoor", sum := "8f68df55d78f876ec78ca2f57334594aab0097ded4b572e7532de787cacdc4b9", func := "souk/souklaw05.SchemaSame", spec := "schemaSame", named := ["souk/schema.kinds", "souk/schema.commands"], apart := false, laid := [("souk/schema.kinds", laid_souk_schema_kinds), ("souk/schema.commands", laid_souk_schema_commands)] }
def SchemaSameSaid : Prop := schemaSameRow.holds Tryd.pinned (OpenSpec.ofChange schemaSameSpec)

/-- ITS FALSE NEIGHBOUR: 'it returns false'. Refute it at one input. -/
def schemaSameWrong : ChangeSpec := { name := "schemaSame", fn := fun _ => fun
  | [d1, d2, d3, d4] => { results := [.lit (.bool false)], args := [d1, d2, d3, d4] }
  | _ => none }
def SchemaSameWrongFalsely : Prop := schemaSameRow.holds Tryd.pinned (OpenSpec.ofChange schemaSameWrong)

/-- 'souklaw05.SchemaAsks': WHATEVER THE INPUT: true; the input reads as it did. -/
def schemaAsksSpec : ChangeSpec := { name := "schemaAsks", fn := fun _ => fun
  | [d1, d2, d3] => { results := [.lit (.bool true)], args := [d1, d2, d3] }
  | _ => none }
def schemaAsksRow : OpenClaim := { program := "ytjbfpepcmhjfaaadoor", sum := "8f68df55d78f876ec78ca2f57334594aab0097ded4b572e7532de787cacdc4b9", func := "souk/souklaw05.SchemaAsks", spec := "schemaAsks", named := ["souk/schema.kinds", "souk/schema.commands"], apart := false, laid := [("souk/schema.kinds", laid_souk_schema_kinds), ("souk/schema.commands", laid_souk_schema_commands)] }
def SchemaAsksSaid : Prop := schemaAsksRow.holds Tryd.pinned (OpenSpec.ofChange schemaAsksSpec)

/-- ITS FALSE NEIGHBOUR: 'it returns false'. Refute it at one input. -/
def schemaAsksWrong : ChangeSpec := { name := "schemaAsks", fn := fun _ => fun
  | [d1, d2, d3] => { results := [.lit (.bool false)], args := [d1, d2, d3] }
  | _ => none }
def SchemaAsksWrongFalsely : Prop := schemaAsksRow.holds Tryd.pinned (OpenSpec.ofChange schemaAsksWrong)

/-- 'souklaw05.SchemaNames': WHATEVER THE INPUT: true; the input reads as it did. -/
def schemaNamesSpec : ChangeSpec := { name := "schemaNames", fn := fun _ => fun
  | [] => { results := [.lit (.bool true)], args := [] }
  | _ => none }
def schemaNamesRow : OpenClaim := { program := "ytjbfpepcmhjfaaadoor", sum := "8f68df55d78f876ec78ca2f57334594aab0097ded4b572e7532de787cacdc4b9", func := "souk/souklaw05.SchemaNames", spec := "schemaNames", named := ["souk/schema.kinds", "souk/schema.commands"], apart := false, laid := [("souk/schema.kinds", laid_souk_schema_kinds), ("souk/schema.commands", laid_souk_schema_commands)] }
def SchemaNamesSaid : Prop := schemaNamesRow.holds Tryd.pinned (OpenSpec.ofChange schemaNamesSpec)

/-- ITS FALSE NEIGHBOUR: 'it returns false'. Refute it at one input. -/
def schemaNamesWrong : ChangeSpec := { name := "schemaNames", fn := fun _ => fun
  | [] => { results := [.lit (.bool false)], args := [] }
  | _ => none }
def SchemaNamesWrongFalsely : Prop := schemaNamesRow.holds Tryd.pinned (OpenSpec.ofChange schemaNamesWrong)

/-- 'souklaw05.SchemaWords': WHATEVER THE INPUT: true; the input reads as it did. -/
def schemaWordsSpec : ChangeSpec := { name := "schemaWords", fn := fun _ => fun
  | [d1, d2, d3] => { results := [.lit (.bool true)], args := [d1, d2, d3] }
  | _ => none }
def schemaWordsRow : OpenClaim := { program := "ytjbfpepcmhjfaaadoor", sum := "8f68df55d78f876ec78ca2f57334594aab0097ded4b572e7532de787cacdc4b9", func := "souk/souklaw05.SchemaWords", spec := "schemaWords", named := ["souk/schema.kinds", "souk/schema.commands"], apart := false, laid := [("souk/schema.kinds", laid_souk_schema_kinds), ("souk/schema.commands", laid_souk_schema_commands)] }
def SchemaWordsSaid : Prop := schemaWordsRow.holds Tryd.pinned (OpenSpec.ofChange schemaWordsSpec)

/-- ITS FALSE NEIGHBOUR: 'it returns false'. Refute it at one input. -/
def schemaWordsWrong : ChangeSpec := { name := "schemaWords", fn := fun _ => fun
  | [d1, d2, d3] => { results := [.lit (.bool false)], args := [d1, d2, d3] }
  | _ => none }
def SchemaWordsWrongFalsely : Prop := schemaWordsRow.holds Tryd.pinned (OpenSpec.ofChange schemaWordsWrong)

/-- 'souklaw05.SchemaTells': WHATEVER THE INPUT: true; the input reads as it did. -/
def schemaTellsSpec : ChangeSpec := { name := "schemaTells", fn := fun _ => fun
  | [d1, d2, d3, d4, d5] => { results := [.lit (.bool true)], args := [d1, d2, d3, d4, d5] }
  | _ => none }
def schemaTellsRow : OpenClaim := { program := "ytjbfpepcmhjfaaadoor", sum := "8f68df55d78f876ec78ca2f57334594aab0097ded4b572e7532de787cacdc4b9", func := "souk/souklaw05.SchemaTells", spec := "schemaTells", named := ["souk/schema.kinds", "souk/schema.commands"], apart := false, laid := [("souk/schema.kinds", laid_souk_schema_kinds), ("souk/schema.commands", laid_souk_schema_commands)] }
def SchemaTellsSaid : Prop := schemaTellsRow.holds Tryd.pinned (OpenSpec.ofChange schemaTellsSpec)

/-- ITS FALSE NEIGHBOUR: 'it returns false'. Refute it at one input. -/
def schemaTellsWrong : ChangeSpec := { name := "schemaTells", fn := fun _ => fun
  | [d1, d2, d3, d4, d5] => { results := [.lit (.bool false)], args := [d1, d2, d3, d4, d5] }
  | _ => none }
def SchemaTellsWrongFalsely : Prop := schemaTellsRow.holds Tryd.pinned (OpenSpec.ofChange schemaTellsWrong)

/-- 'souklaw07.UpcastSays': WHATEVER THE INPUT: true; the input reads as it did. -/
def upcastSaysSpec : ChangeSpec := { name := "upcastSays", fn := fun _ => fun
  | [d1, d2, d3] => { results := [.lit (.bool true)], args := [d1, d2, d3] }
  | _ => none }
def upcastSaysRow : OpenClaim := { program := "ytjbfpepcmhjfaaadoor", sum := "8f68df55d78f876ec78ca2f57334594aab0097ded4b572e7532de787cacdc4b9", func := "souk/souklaw07.UpcastSays", spec := "upcastSays", unfollowed := true, recurses := true, named := ["souk/schema.kinds"], apart := false, laid := [("souk/schema.kinds", laid_souk_schema_kinds)] }
def UpcastSaysSaid : Prop := upcastSaysRow.holds Tryd.pinned (OpenSpec.ofChange upcastSaysSpec)

/-- ITS FALSE NEIGHBOUR: 'it returns false'. Refute it at one input. -/
def upcastSaysWrong : ChangeSpec := { name := "upcastSays", fn := fun _ => fun
  | [d1, d2, d3] => { results := [.lit (.bool false)], args := [d1, d2, d3] }
  | _ => none }
def UpcastSaysWrongFalsely : Prop := upcastSaysRow.holds Tryd.pinned (OpenSpec.ofChange upcastSaysWrong)

/-- 'souklaw07.UpcastBack': WHATEVER THE INPUT: true; the input reads as it did. -/
def upcastBackSpec : ChangeSpec := { name := "upcastBack", fn := fun _ => fun
  | [d1, d2] => { results := [.lit (.bool true)], args := [d1, d2] }
  | _ => none }
def upcastBackRow : OpenClaim := { program := "ytjbfpepcmhjfaaadoor", sum := "8f68df55d78f876ec78ca2f57334594aab0097ded4b572e7532de787cacdc4b9", func := "souk/souklaw07.UpcastBack", spec := "upcastBack", unfollowed := true, recurses := true, named := ["souk/schema.kinds"], apart := false, laid := [("souk/schema.kinds", laid_souk_schema_kinds)] }
def UpcastBackSaid : Prop := upcastBackRow.holds Tryd.pinned (OpenSpec.ofChange upcastBackSpec)

/-- ITS FALSE NEIGHBOUR: 'it returns false'. Refute it at one input. -/
def upcastBackWrong : ChangeSpec := { name := "upcastBack", fn := fun _ => fun
  | [d1, d2] => { results := [.lit (.bool false)], args := [d1, d2] }
  | _ => none }
def UpcastBackWrongFalsely : Prop := upcastBackRow.holds Tryd.pinned (OpenSpec.ofChange upcastBackWrong)

/-- 'souklaw07.UpcastOne': WHATEVER THE INPUT: true; the input reads as it did. -/
def upcastOneSpec : ChangeSpec := { name := "upcastOne", fn := fun _ => fun
  | [d1, d2, d3, d4] => { results := [.lit (.bool true)], args := [d1, d2, d3, d4] }
  | _ => none }
def upcastOneRow : OpenClaim := { program := "ytjbfpepcmhjfaaadoor", sum := "8f68df55d78f876ec78ca2f57334594aab0097ded4b572e7532de787cacdc4b9", func := "souk/souklaw07.UpcastOne", spec := "upcastOne", unfollowed := true, recurses := true, named := ["souk/schema.kinds"], apart := false, laid := [("souk/schema.kinds", laid_souk_schema_kinds)] }
def UpcastOneSaid : Prop := upcastOneRow.holds Tryd.pinned (OpenSpec.ofChange upcastOneSpec)

/-- ITS FALSE NEIGHBOUR: 'it returns false'. Refute it at one input. -/
def upcastOneWrong : ChangeSpec := { name := "upcastOne", fn := fun _ => fun
  | [d1, d2, d3, d4] => { results := [.lit (.bool false)], args := [d1, d2, d3, d4] }
  | _ => none }
def UpcastOneWrongFalsely : Prop := upcastOneRow.holds Tryd.pinned (OpenSpec.ofChange upcastOneWrong)

/-- 'souklaw07.UpcastLists': WHATEVER THE INPUT: true; the input reads as it did. -/
def upcastListsSpec : ChangeSpec := { name := "upcastLists", fn := fun _ => fun
  | [d1, d2, d3] => { results := [.lit (.bool true)], args := [d1, d2, d3] }
  | _ => none }
def upcastListsRow : OpenClaim := { program := "ytjbfpepcmhjfaaadoor", sum := "8f68df55d78f876ec78ca2f57334594aab0097ded4b572e7532de787cacdc4b9", func := "souk/souklaw07.UpcastLists", spec := "upcastLists", unfollowed := true, recurses := true, named := ["souk/schema.kinds"], apart := false, laid := [("souk/schema.kinds", laid_souk_schema_kinds)] }
def UpcastListsSaid : Prop := upcastListsRow.holds Tryd.pinned (OpenSpec.ofChange upcastListsSpec)

/-- ITS FALSE NEIGHBOUR: 'it returns false'. Refute it at one input. -/
def upcastListsWrong : ChangeSpec := { name := "upcastLists", fn := fun _ => fun
  | [d1, d2, d3] => { results := [.lit (.bool false)], args := [d1, d2, d3] }
  | _ => none }
def UpcastListsWrongFalsely : Prop := upcastListsRow.holds Tryd.pinned (OpenSpec.ofChange upcastListsWrong)

/-- 'souklaw06.CodecNames': WHATEVER THE INPUT: true; the input reads as it did. -/
def codecNamesSpec : ChangeSpec := { name := "codecNames", fn := fun _ => fun
  | [] => { results := [.lit (.bool true)], args := [] }
  | _ => none }
def codecNamesRow : OpenClaim := { program := "ytjbfpepcmhjfaaadoor", sum := "8f68df55d78f876ec78ca2f57334594aab0097ded4b572e7532de787cacdc4b9", func := "souk/souklaw06.CodecNames", spec := "codecNames", unfollowed := true, recurses := true, named := ["souk/schema.kinds"], apart := false, laid := [("souk/schema.kinds", laid_souk_schema_kinds)] }
def CodecNamesSaid : Prop := codecNamesRow.holds Tryd.pinned (OpenSpec.ofChange codecNamesSpec)

/-- ITS FALSE NEIGHBOUR: 'it returns false'. Refute it at one input. -/
def codecNamesWrong : ChangeSpec := { name := "codecNames", fn := fun _ => fun
  | [] => { results := [.lit (.bool false)], args := [] }
  | _ => none }
def CodecNamesWrongFalsely : Prop := codecNamesRow.holds Tryd.pinned (OpenSpec.ofChange codecNamesWrong)

/-- 'souklaw06.CodecTells': WHATEVER THE INPUT: true; the input reads as it did. -/
def codecTellsSpec : ChangeSpec := { name := "codecTells", fn := fun _ => fun
  | [d1, d2] => { results := [.lit (.bool true)], args := [d1, d2] }
  | _ => none }
def codecTellsRow : OpenClaim := { program := "ytjbfpepcmhjfaaadoor", sum := "8f68df55d78f876ec78ca2f57334594aab0097ded4b572e7532de787cacdc4b9", func := "souk/souklaw06.CodecTells", spec := "codecTells", unfollowed := true, recurses := true, named := ["souk/schema.kinds"], apart := false, laid := [("souk/schema.kinds", laid_souk_schema_kinds)] }
def CodecTellsSaid : Prop := codecTellsRow.holds Tryd.pinned (OpenSpec.ofChange codecTellsSpec)

/-- ITS FALSE NEIGHBOUR: 'it returns false'. Refute it at one input. -/
def codecTellsWrong : ChangeSpec := { name := "codecTells", fn := fun _ => fun
  | [d1, d2] => { results := [.lit (.bool false)], args := [d1, d2] }
  | _ => none }
def CodecTellsWrongFalsely : Prop := codecTellsRow.holds Tryd.pinned (OpenSpec.ofChange codecTellsWrong)

/-- 'souklaw06.CodecBack': WHATEVER THE INPUT: true; the input reads as it did. -/
def codecBackSpec : ChangeSpec := { name := "codecBack", fn := fun _ => fun
  | [d1, d2] => { results := [.lit (.bool true)], args := [d1, d2] }
  | _ => none }
def codecBackRow : OpenClaim := { program := "ytjbfpepcmhjfaaadoor", sum := "8f68df55d78f876ec78ca2f57334594aab0097ded4b572e7532de787cacdc4b9", func := "souk/souklaw06.CodecBack", spec := "codecBack", unfollowed := true, recurses := true, named := ["souk/schema.kinds"], apart := false, laid := [("souk/schema.kinds", laid_souk_schema_kinds)] }
def CodecBackSaid : Prop := codecBackRow.holds Tryd.pinned (OpenSpec.ofChange codecBackSpec)

/-- ITS FALSE NEIGHBOUR: 'it returns false'. Refute it at one input. -/
def codecBackWrong : ChangeSpec := { name := "codecBack", fn := fun _ => fun
  | [d1, d2] => { results := [.lit (.bool false)], args := [d1, d2] }
  | _ => none }
def CodecBackWrongFalsely : Prop := codecBackRow.holds Tryd.pinned (OpenSpec.ofChange codecBackWrong)

/-- 'souklaw06.CodecCut': WHATEVER THE INPUT: true; the input reads as it did. -/
def codecCutSpec : ChangeSpec := { name := "codecCut", fn := fun _ => fun
  | [d1, d2, d3] => { results := [.lit (.bool true)], args := [d1, d2, d3] }
  | _ => none }
def codecCutRow : OpenClaim := { program := "ytjbfpepcmhjfaaadoor", sum := "8f68df55d78f876ec78ca2f57334594aab0097ded4b572e7532de787cacdc4b9", func := "souk/souklaw06.CodecCut", spec := "codecCut", unfollowed := true, recurses := true, named := ["souk/schema.kinds"], apart := false, laid := [("souk/schema.kinds", laid_souk_schema_kinds)] }
def CodecCutSaid : Prop := codecCutRow.holds Tryd.pinned (OpenSpec.ofChange codecCutSpec)

/-- ITS FALSE NEIGHBOUR: 'it returns false'. Refute it at one input. -/
def codecCutWrong : ChangeSpec := { name := "codecCut", fn := fun _ => fun
  | [d1, d2, d3] => { results := [.lit (.bool false)], args := [d1, d2, d3] }
  | _ => none }
def CodecCutWrongFalsely : Prop := codecCutRow.holds Tryd.pinned (OpenSpec.ofChange codecCutWrong)

/-- 'souklaw06.CodecUnlike': WHATEVER THE INPUT: true; the input reads as it did. -/
def codecUnlikeSpec : ChangeSpec := { name := "codecUnlike", fn := fun _ => fun
  | [d1, d2] => { results := [.lit (.bool true)], args := [d1, d2] }
  | _ => none }
def codecUnlikeRow : OpenClaim := { program := "ytjbfpepcmhjfaaadoor", sum := "8f68df55d78f876ec78ca2f57334594aab0097ded4b572e7532de787cacdc4b9", func := "souk/souklaw06.CodecUnlike", spec := "codecUnlike", unfollowed := true, recurses := true, named := ["souk/schema.kinds"], apart := false, laid := [("souk/schema.kinds", laid_souk_schema_kinds)] }
def CodecUnlikeSaid : Prop := codecUnlikeRow.holds Tryd.pinned (OpenSpec.ofChange codecUnlikeSpec)

/-- ITS FALSE NEIGHBOUR: 'it returns false'. Refute it at one input. -/
def codecUnlikeWrong : ChangeSpec := { name := "codecUnlike", fn := fun _ => fun
  | [d1, d2] => { results := [.lit (.bool false)], args := [d1, d2] }
  | _ => none }
def CodecUnlikeWrongFalsely : Prop := codecUnlikeRow.holds Tryd.pinned (OpenSpec.ofChange codecUnlikeWrong)

/-- 'souklaw06.CodecAmong': WHATEVER THE INPUT: true; the input reads as it did. -/
def codecAmongSpec : ChangeSpec := { name := "codecAmong", fn := fun _ => fun
  | [d1, d2, d3] => { results := [.lit (.bool true)], args := [d1, d2, d3] }
  | _ => none }
def codecAmongRow : OpenClaim := { program := "ytjbfpepcmhjfaaadoor", sum := "8f68df55d78f876ec78ca2f57334594aab0097ded4b572e7532de787cacdc4b9", func := "souk/souklaw06.CodecAmong", spec := "codecAmong", unfollowed := true, recurses := true, named := ["souk/schema.kinds"], apart := false, laid := [("souk/schema.kinds", laid_souk_schema_kinds)] }
def CodecAmongSaid : Prop := codecAmongRow.holds Tryd.pinned (OpenSpec.ofChange codecAmongSpec)

/-- ITS FALSE NEIGHBOUR: 'it returns false'. Refute it at one input. -/
def codecAmongWrong : ChangeSpec := { name := "codecAmong", fn := fun _ => fun
  | [d1, d2, d3] => { results := [.lit (.bool false)], args := [d1, d2, d3] }
  | _ => none }
def CodecAmongWrongFalsely : Prop := codecAmongRow.holds Tryd.pinned (OpenSpec.ofChange codecAmongWrong)

/-- 'souklaw06.CodecGets': WHATEVER THE INPUT: true; the input reads as it did. -/
def codecGetsSpec : ChangeSpec := { name := "codecGets", fn := fun _ => fun
  | [d1, d2] => { results := [.lit (.bool true)], args := [d1, d2] }
  | _ => none }
def codecGetsRow : OpenClaim := { program := "ytjbfpepcmhjfaaadoor", sum := "8f68df55d78f876ec78ca2f57334594aab0097ded4b572e7532de787cacdc4b9", func := "souk/souklaw06.CodecGets", spec := "codecGets", unfollowed := true, recurses := true, named := ["souk/schema.kinds"], apart := false, laid := [("souk/schema.kinds", laid_souk_schema_kinds)] }
def CodecGetsSaid : Prop := codecGetsRow.holds Tryd.pinned (OpenSpec.ofChange codecGetsSpec)

/-- ITS FALSE NEIGHBOUR: 'it returns false'. Refute it at one input. -/
def codecGetsWrong : ChangeSpec := { name := "codecGets", fn := fun _ => fun
  | [d1, d2] => { results := [.lit (.bool false)], args := [d1, d2] }
  | _ => none }
def CodecGetsWrongFalsely : Prop := codecGetsRow.holds Tryd.pinned (OpenSpec.ofChange codecGetsWrong)

/-- 'souklaw08.BatchReads': WHATEVER THE INPUT: true; the input reads as it did. -/
def batchReadsSpec : ChangeSpec := { name := "batchReads", fn := fun _ => fun
  | [d] => { results := [.lit (.bool true)], args := [d] }
  | _ => none }
def batchReadsRow : OpenClaim := { program := "ytjbfpepcmhjfaaadoor", sum := "8f68df55d78f876ec78ca2f57334594aab0097ded4b572e7532de787cacdc4b9", func := "souk/souklaw08.BatchReads", spec := "batchReads", unfollowed := true, recurses := true, named := ["souk/schema.kinds"], apart := false, laid := [("souk/schema.kinds", laid_souk_schema_kinds)] }
def BatchReadsSaid : Prop := batchReadsRow.holds Tryd.pinned (OpenSpec.ofChange batchReadsSpec)

/-- ITS FALSE NEIGHBOUR: 'it returns false'. Refute it at one input. -/
def batchReadsWrong : ChangeSpec := { name := "batchReads", fn := fun _ => fun
  | [d] => { results := [.lit (.bool false)], args := [d] }
  | _ => none }
def BatchReadsWrongFalsely : Prop := batchReadsRow.holds Tryd.pinned (OpenSpec.ofChange batchReadsWrong)

/-- 'souklaw08.BatchBack': WHATEVER THE INPUT: true; the input reads as it did. -/
def batchBackSpec : ChangeSpec := { name := "batchBack", fn := fun _ => fun
  | [d1, d2] => { results := [.lit (.bool true)], args := [d1, d2] }
  | _ => none }
def batchBackRow : OpenClaim := { program := "ytjbfpepcmhjfaaadoor", sum := "8f68df55d78f876ec78ca2f57334594aab0097ded4b572e7532de787cacdc4b9", func := "souk/souklaw08.BatchBack", spec := "batchBack", unfollowed := true, recurses := true, named := ["souk/schema.kinds"], apart := false, laid := [("souk/schema.kinds", laid_souk_schema_kinds)] }
def BatchBackSaid : Prop := batchBackRow.holds Tryd.pinned (OpenSpec.ofChange batchBackSpec)

/-- ITS FALSE NEIGHBOUR: 'it returns false'. Refute it at one input. -/
def batchBackWrong : ChangeSpec := { name := "batchBack", fn := fun _ => fun
  | [d1, d2] => { results := [.lit (.bool false)], args := [d1, d2] }
  | _ => none }
def BatchBackWrongFalsely : Prop := batchBackRow.holds Tryd.pinned (OpenSpec.ofChange batchBackWrong)

/-- 'souklaw08.BatchLifted': WHATEVER THE INPUT: true; the input reads as it did. -/
def batchLiftedSpec : ChangeSpec := { name := "batchLifted", fn := fun _ => fun
  | [d1, d2] => { results := [.lit (.bool true)], args := [d1, d2] }
  | _ => none }
def batchLiftedRow : OpenClaim := { program := "ytjbfpepcmhjfaaadoor", sum := "8f68df55d78f876ec78ca2f57334594aab0097ded4b572e7532de787cacdc4b9", func := "souk/souklaw08.BatchLifted", spec := "batchLifted", unfollowed := true, recurses := true, named := ["souk/schema.kinds"], apart := false, laid := [("souk/schema.kinds", laid_souk_schema_kinds)] }
def BatchLiftedSaid : Prop := batchLiftedRow.holds Tryd.pinned (OpenSpec.ofChange batchLiftedSpec)

/-- ITS FALSE NEIGHBOUR: 'it returns false'. Refute it at one input. -/
def batchLiftedWrong : ChangeSpec := { name := "batchLifted", fn := fun _ => fun
  | [d1, d2] => { results := [.lit (.bool false)], args := [d1, d2] }
  | _ => none }
def BatchLiftedWrongFalsely : Prop := batchLiftedRow.holds Tryd.pinned (OpenSpec.ofChange batchLiftedWrong)

/-- 'souklaw08.BatchCut': WHATEVER THE INPUT: true; the input reads as it did. -/
def batchCutSpec : ChangeSpec := { name := "batchCut", fn := fun _ => fun
  | [d1, d2, d3] => { results := [.lit (.bool true)], args := [d1, d2, d3] }
  | _ => none }
def batchCutRow : OpenClaim := { program := "ytjbfpepcmhjfaaadoor", sum := "8f68df55d78f876ec78ca2f57334594aab0097ded4b572e7532de787cacdc4b9", func := "souk/souklaw08.BatchCut", spec := "batchCut", unfollowed := true, recurses := true, named := ["souk/schema.kinds"], apart := false, laid := [("souk/schema.kinds", laid_souk_schema_kinds)] }
def BatchCutSaid : Prop := batchCutRow.holds Tryd.pinned (OpenSpec.ofChange batchCutSpec)

/-- ITS FALSE NEIGHBOUR: 'it returns false'. Refute it at one input. -/
def batchCutWrong : ChangeSpec := { name := "batchCut", fn := fun _ => fun
  | [d1, d2, d3] => { results := [.lit (.bool false)], args := [d1, d2, d3] }
  | _ => none }
def BatchCutWrongFalsely : Prop := batchCutRow.holds Tryd.pinned (OpenSpec.ofChange batchCutWrong)

/-- 'souklaw08.BatchNames': WHATEVER THE INPUT: true; the input reads as it did. -/
def batchNamesSpec : ChangeSpec := { name := "batchNames", fn := fun _ => fun
  | [] => { results := [.lit (.bool true)], args := [] }
  | _ => none }
def batchNamesRow : OpenClaim := { program := "ytjbfpepcmhjfaaadoor", sum := "8f68df55d78f876ec78ca2f57334594aab0097ded4b572e7532de787cacdc4b9", func := "souk/souklaw08.BatchNames", spec := "batchNames", unfollowed := true, recurses := true, named := ["souk/schema.kinds"], apart := false, laid := [("souk/schema.kinds", laid_souk_schema_kinds)] }
def BatchNamesSaid : Prop := batchNamesRow.holds Tryd.pinned (OpenSpec.ofChange batchNamesSpec)

/-- ITS FALSE NEIGHBOUR: 'it returns false'. Refute it at one input. -/
def batchNamesWrong : ChangeSpec := { name := "batchNames", fn := fun _ => fun
  | [] => { results := [.lit (.bool false)], args := [] }
  | _ => none }
def BatchNamesWrongFalsely : Prop := batchNamesRow.holds Tryd.pinned (OpenSpec.ofChange batchNamesWrong)

/-- 'souklaw08.BatchTells': WHATEVER THE INPUT: true; the input reads as it did. -/
def batchTellsSpec : ChangeSpec := { name := "batchTells", fn := fun _ => fun
  | [d1, d2, d3] => { results := [.lit (.bool true)], args := [d1, d2, d3] }
  | _ => none }
def batchTellsRow : OpenClaim := { program := "ytjbfpepcmhjfaaadoor", sum := "8f68df55d78f876ec78ca2f57334594aab0097ded4b572e7532de787cacdc4b9", func := "souk/souklaw08.BatchTells", spec := "batchTells", unfollowed := true, recurses := true, named := ["souk/schema.kinds"], apart := false, laid := [("souk/schema.kinds", laid_souk_schema_kinds)] }
def BatchTellsSaid : Prop := batchTellsRow.holds Tryd.pinned (OpenSpec.ofChange batchTellsSpec)

/-- ITS FALSE NEIGHBOUR: 'it returns false'. Refute it at one input. -/
def batchTellsWrong : ChangeSpec := { name := "batchTells", fn := fun _ => fun
  | [d1, d2, d3] => { results := [.lit (.bool false)], args := [d1, d2, d3] }
  | _ => none }
def BatchTellsWrongFalsely : Prop := batchTellsRow.holds Tryd.pinned (OpenSpec.ofChange batchTellsWrong)

/- THE SECOND FORM. 'bulk': how many values and letters a reading holds, each counted each time it is reached (what is shared counts as often as it is met; a slice's spare places count too). A statement '..UptoSaid' is the law's where the arguments, and the package variables that the reading takes, are together of bulk at most 1048576: NARROWER than '..Said'. Prove '..Said' where nothing that the law and all that it calls make is longer than what came in: it says more and counts as full. Else prove '..UptoSaid'. A law counts once. -/
mutual
def uptoBulk {H : Type} : DataW H → Nat
  | .lit (.string bytes) => bytes.length + 1
  | .lit _ => 1
  | .nil => 1
  | .ptr d => uptoBulk d + 1
  | .slice elems spare => uptoBulkAll elems + uptoBulkAll spare + 1
  | .agg parts => uptoBulkAll parts + 1
  | .iface _ d => uptoBulk d + 1
  | .map entries => uptoBulkEntries entries + 1
  | .held _ => 1
def uptoBulkAll {H : Type} : List (DataW H) → Nat
  | [] => 0
  | d :: r => uptoBulk d + uptoBulkAll r
def uptoBulkEntries {H : Type} : List (Lit × DataW H) → Nat
  | [] => 0
  | x :: r => uptoBulkEntry x + uptoBulkEntries r
def uptoBulkEntry {H : Type} : Lit × DataW H → Nat
  | (.string bytes, d) => bytes.length + uptoBulk d + 1
  | (_, d) => uptoBulk d + 1
 end
def uptoSmall : (H : Type) → List (DataW H) → Bool := fun _ ds => decide (uptoBulkAll ds ≤ 1048576)
def OpenSpec.upto (s : _root_.Go.ChangeSpec) : _root_.Go.OpenSpec := { _root_.Go.OpenSpec.ofChange s with cond := some uptoSmall }

/-- 'souklaw05.SchemaGrows', WHERE WHAT IT READS IS OF BULK AT MOST 1048576: true; the input reads as it did. -/
def schemaGrowsUptoRow : OpenClaim := { program := "ytjbfpepcmhjfaaadoor", sum := "8f68df55d78f876ec78ca2f57334594aab0097ded4b572e7532de787cacdc4b9", func := "souk/souklaw05.SchemaGrows", spec := "schemaGrows", named := ["souk/schema.kinds", "souk/schema.commands"], apart := false, laid := [("souk/schema.kinds", laid_souk_schema_kinds), ("souk/schema.commands", laid_souk_schema_commands)], narrowed := true }
def SchemaGrowsUptoSaid : Prop := schemaGrowsUptoRow.holds Tryd.pinned (OpenSpec.upto schemaGrowsSpec)

/-- 'souklaw05.SchemaBounds', WHERE WHAT IT READS IS OF BULK AT MOST 1048576: true; the input reads as it did. -/
def schemaBoundsUptoRow : OpenClaim := { program := "ytjbfpepcmhjfaaadoor", sum := "8f68df55d78f876ec78ca2f57334594aab0097ded4b572e7532de787cacdc4b9", func := "souk/souklaw05.SchemaBounds", spec := "schemaBounds", named := ["souk/schema.kinds", "souk/schema.commands"], apart := false, laid := [("souk/schema.kinds", laid_souk_schema_kinds), ("souk/schema.commands", laid_souk_schema_commands)], narrowed := true }
def SchemaBoundsUptoSaid : Prop := schemaBoundsUptoRow.holds Tryd.pinned (OpenSpec.upto schemaBoundsSpec)

/-- 'souklaw05.SchemaCommand', WHERE WHAT IT READS IS OF BULK AT MOST 1048576: true; the input reads as it did. -/
def schemaCommandUptoRow : OpenClaim := { program := "ytjbfpepcmhjfaaadoor", sum := "8f68df55d78f876ec78ca2f57334594aab0097ded4b572e7532de787cacdc4b9", func := "souk/souklaw05.SchemaCommand", spec := "schemaCommand", named := ["souk/schema.kinds", "souk/schema.commands"], apart := false, laid := [("souk/schema.kinds", laid_souk_schema_kinds), ("souk/schema.commands", laid_souk_schema_commands)], narrowed := true }
def SchemaCommandUptoSaid : Prop := schemaCommandUptoRow.holds Tryd.pinned (OpenSpec.upto schemaCommandSpec)

/-- 'souklaw05.SchemaMay', WHERE WHAT IT READS IS OF BULK AT MOST 1048576: true; the input reads as it did. -/
def schemaMayUptoRow : OpenClaim := { program := "ytjbfpepcmhjfaaadoor", sum := "8f68df55d78f876ec78ca2f57334594aab0097ded4b572e7532de787cacdc4b9", func := "souk/souklaw05.SchemaMay", spec := "schemaMay", named := ["souk/schema.kinds", "souk/schema.commands"], apart := false, laid := [("souk/schema.kinds", laid_souk_schema_kinds), ("souk/schema.commands", laid_souk_schema_commands)], narrowed := true }
def SchemaMayUptoSaid : Prop := schemaMayUptoRow.holds Tryd.pinned (OpenSpec.upto schemaMaySpec)

/-- 'souklaw05.SchemaSame', WHERE WHAT IT READS IS OF BULK AT MOST 1048576: true; the input reads as it did. -/
def schemaSameUptoRow : OpenClaim := { program := "ytjbfpepcmhjfaaadoor", sum := "8f68df55d78f876ec78ca2f57334594aab0097ded4b572e7532de787cacdc4b9", func := "souk/souklaw05.SchemaSame", spec := "schemaSame", named := ["souk/schema.kinds", "souk/schema.commands"], apart := false, laid := [("souk/schema.kinds", laid_souk_schema_kinds), ("souk/schema.commands", laid_souk_schema_commands)], narrowed := true }
def SchemaSameUptoSaid : Prop := schemaSameUptoRow.holds Tryd.pinned (OpenSpec.upto schemaSameSpec)

/-- 'souklaw05.SchemaAsks', WHERE WHAT IT READS IS OF BULK AT MOST 1048576: true; the input reads as it did. -/
def schemaAsksUptoRow : OpenClaim := { program := "ytjbfpepcmhjfaaadoor", sum := "8f68df55d78f876ec78ca2f57334594aab0097ded4b572e7532de787cacdc4b9", func := "souk/souklaw05.SchemaAsks", spec := "schemaAsks", named := ["souk/schema.kinds", "souk/schema.commands"], apart := false, laid := [("souk/schema.kinds", laid_souk_schema_kinds), ("souk/schema.commands", laid_souk_schema_commands)], narrowed := true }
def SchemaAsksUptoSaid : Prop := schemaAsksUptoRow.holds Tryd.pinned (OpenSpec.upto schemaAsksSpec)

/-- 'souklaw05.SchemaNames', WHERE WHAT IT READS IS OF BULK AT MOST 1048576: true; the input reads as it did. -/
def schemaNamesUptoRow : OpenClaim := { program := "ytjbfpepcmhjfaaadoor", sum := "8f68df55d78f876ec78ca2f57334594aab0097ded4b572e7532de787cacdc4b9", func := "souk/souklaw05.SchemaNames", spec := "schemaNames", named := ["souk/schema.kinds", "souk/schema.commands"], apart := false, laid := [("souk/schema.kinds", laid_souk_schema_kinds), ("souk/schema.commands", laid_souk_schema_commands)], narrowed := true }
def SchemaNamesUptoSaid : Prop := schemaNamesUptoRow.holds Tryd.pinned (OpenSpec.upto schemaNamesSpec)

/-- 'souklaw05.SchemaWords', WHERE WHAT IT READS IS OF BULK AT MOST 1048576: true; the input reads as it did. -/
def schemaWordsUptoRow : OpenClaim := { program := "ytjbfpepcmhjfaaadoor", sum := "8f68df55d78f876ec78ca2f57334594aab0097ded4b572e7532de787cacdc4b9", func := "souk/souklaw05.SchemaWords", spec := "schemaWords", named := ["souk/schema.kinds", "souk/schema.commands"], apart := false, laid := [("souk/schema.kinds", laid_souk_schema_kinds), ("souk/schema.commands", laid_souk_schema_commands)], narrowed := true }
def SchemaWordsUptoSaid : Prop := schemaWordsUptoRow.holds Tryd.pinned (OpenSpec.upto schemaWordsSpec)

/-- 'souklaw05.SchemaTells', WHERE WHAT IT READS IS OF BULK AT MOST 1048576: true; the input reads as it did. -/
def schemaTellsUptoRow : OpenClaim := { program := "ytjbfpepcmhjfaaadoor", sum := "8f68df55d78f876ec78ca2f57334594aab0097ded4b572e7532de787cacdc4b9", func := "souk/souklaw05.SchemaTells", spec := "schemaTells", named := ["souk/schema.kinds", "souk/schema.commands"], apart := false, laid := [("souk/schema.kinds", laid_souk_schema_kinds), ("souk/schema.commands", laid_souk_schema_commands)], narrowed := true }
def SchemaTellsUptoSaid : Prop := schemaTellsUptoRow.holds Tryd.pinned (OpenSpec.upto schemaTellsSpec)

/-- 'souklaw07.UpcastSays', WHERE WHAT IT READS IS OF BULK AT MOST 1048576: true; the input reads as it did. -/
def upcastSaysUptoRow : OpenClaim := { program := "ytjbfpepcmhjfaaadoor", sum := "8f68df55d78f876ec78ca2f57334594aab0097ded4b572e7532de787cacdc4b9", func := "souk/souklaw07.UpcastSays", spec := "upcastSays", unfollowed := true, recurses := true, named := ["souk/schema.kinds"], apart := false, laid := [("souk/schema.kinds", laid_souk_schema_kinds)], narrowed := true }
def UpcastSaysUptoSaid : Prop := upcastSaysUptoRow.holds Tryd.pinned (OpenSpec.upto upcastSaysSpec)

/-- 'souklaw07.UpcastBack', WHERE WHAT IT READS IS OF BULK AT MOST 1048576: true; the input reads as it did. -/
def upcastBackUptoRow : OpenClaim := { program := "ytjbfpepcmhjfaaadoor", sum := "8f68df55d78f876ec78ca2f57334594aab0097ded4b572e7532de787cacdc4b9", func := "souk/souklaw07.UpcastBack", spec := "upcastBack", unfollowed := true, recurses := true, named := ["souk/schema.kinds"], apart := false, laid := [("souk/schema.kinds", laid_souk_schema_kinds)], narrowed := true }
def UpcastBackUptoSaid : Prop := upcastBackUptoRow.holds Tryd.pinned (OpenSpec.upto upcastBackSpec)

/-- 'souklaw07.UpcastOne', WHERE WHAT IT READS IS OF BULK AT MOST 1048576: true; the input reads as it did. -/
def upcastOneUptoRow : OpenClaim := { program := "ytjbfpepcmhjfaaadoor", sum := "8f68df55d78f876ec78ca2f57334594aab0097ded4b572e7532de787cacdc4b9", func := "souk/souklaw07.UpcastOne", spec := "upcastOne", unfollowed := true, recurses := true, named := ["souk/schema.kinds"], apart := false, laid := [("souk/schema.kinds", laid_souk_schema_kinds)], narrowed := true }
def UpcastOneUptoSaid : Prop := upcastOneUptoRow.holds Tryd.pinned (OpenSpec.upto upcastOneSpec)

/-- 'souklaw07.UpcastLists', WHERE WHAT IT READS IS OF BULK AT MOST 1048576: true; the input reads as it did. -/
def upcastListsUptoRow : OpenClaim := { program := "ytjbfpepcmhjfaaadoor", sum := "8f68df55d78f876ec78ca2f57334594aab0097ded4b572e7532de787cacdc4b9", func := "souk/souklaw07.UpcastLists", spec := "upcastLists", unfollowed := true, recurses := true, named := ["souk/schema.kinds"], apart := false, laid := [("souk/schema.kinds", laid_souk_schema_kinds)], narrowed := true }
def UpcastListsUptoSaid : Prop := upcastListsUptoRow.holds Tryd.pinned (OpenSpec.upto upcastListsSpec)

/-- 'souklaw06.CodecNames', WHERE WHAT IT READS IS OF BULK AT MOST 1048576: true; the input reads as it did. -/
def codecNamesUptoRow : OpenClaim := { program := "ytjbfpepcmhjfaaadoor", sum := "8f68df55d78f876ec78ca2f57334594aab0097ded4b572e7532de787cacdc4b9", func := "souk/souklaw06.CodecNames", spec := "codecNames", unfollowed := true, recurses := true, named := ["souk/schema.kinds"], apart := false, laid := [("souk/schema.kinds", laid_souk_schema_kinds)], narrowed := true }
def CodecNamesUptoSaid : Prop := codecNamesUptoRow.holds Tryd.pinned (OpenSpec.upto codecNamesSpec)

/-- 'souklaw06.CodecTells', WHERE WHAT IT READS IS OF BULK AT MOST 1048576: true; the input reads as it did. -/
def codecTellsUptoRow : OpenClaim := { program := "ytjbfpepcmhjfaaadoor", sum := "8f68df55d78f876ec78ca2f57334594aab0097ded4b572e7532de787cacdc4b9", func := "souk/souklaw06.CodecTells", spec := "codecTells", unfollowed := true, recurses := true, named := ["souk/schema.kinds"], apart := false, laid := [("souk/schema.kinds", laid_souk_schema_kinds)], narrowed := true }
def CodecTellsUptoSaid : Prop := codecTellsUptoRow.holds Tryd.pinned (OpenSpec.upto codecTellsSpec)

/-- 'souklaw06.CodecBack', WHERE WHAT IT READS IS OF BULK AT MOST 1048576: true; the input reads as it did. -/
def codecBackUptoRow : OpenClaim := { program := "ytjbfpepcmhjfaaadoor", sum := "8f68df55d78f876ec78ca2f57334594aab0097ded4b572e7532de787cacdc4b9", func := "souk/souklaw06.CodecBack", spec := "codecBack", unfollowed := true, recurses := true, named := ["souk/schema.kinds"], apart := false, laid := [("souk/schema.kinds", laid_souk_schema_kinds)], narrowed := true }
def CodecBackUptoSaid : Prop := codecBackUptoRow.holds Tryd.pinned (OpenSpec.upto codecBackSpec)

/-- 'souklaw06.CodecCut', WHERE WHAT IT READS IS OF BULK AT MOST 1048576: true; the input reads as it did. -/
def codecCutUptoRow : OpenClaim := { program := "ytjbfpepcmhjfaaadoor", sum := "8f68df55d78f876ec78ca2f57334594aab0097ded4b572e7532de787cacdc4b9", func := "souk/souklaw06.CodecCut", spec := "codecCut", unfollowed := true, recurses := true, named := ["souk/schema.kinds"], apart := false, laid := [("souk/schema.kinds", laid_souk_schema_kinds)], narrowed := true }
def CodecCutUptoSaid : Prop := codecCutUptoRow.holds Tryd.pinned (OpenSpec.upto codecCutSpec)

/-- 'souklaw06.CodecUnlike', WHERE WHAT IT READS IS OF BULK AT MOST 1048576: true; the input reads as it did. -/
def codecUnlikeUptoRow : OpenClaim := { program := "ytjbfpepcmhjfaaadoor", sum := "8f68df55d78f876ec78ca2f57334594aab0097ded4b572e7532de787cacdc4b9", func := "souk/souklaw06.CodecUnlike", spec := "codecUnlike", unfollowed := true, recurses := true, named := ["souk/schema.kinds"], apart := false, laid := [("souk/schema.kinds", laid_souk_schema_kinds)], narrowed := true }
def CodecUnlikeUptoSaid : Prop := codecUnlikeUptoRow.holds Tryd.pinned (OpenSpec.upto codecUnlikeSpec)

/-- 'souklaw06.CodecAmong', WHERE WHAT IT READS IS OF BULK AT MOST 1048576: true; the input reads as it did. -/
def codecAmongUptoRow : OpenClaim := { program := "ytjbfpepcmhjfaaadoor", sum := "8f68df55d78f876ec78ca2f57334594aab0097ded4b572e7532de787cacdc4b9", func := "souk/souklaw06.CodecAmong", spec := "codecAmong", unfollowed := true, recurses := true, named := ["souk/schema.kinds"], apart := false, laid := [("souk/schema.kinds", laid_souk_schema_kinds)], narrowed := true }
def CodecAmongUptoSaid : Prop := codecAmongUptoRow.holds Tryd.pinned (OpenSpec.upto codecAmongSpec)

/-- 'souklaw06.CodecGets', WHERE WHAT IT READS IS OF BULK AT MOST 1048576: true; the input reads as it did. -/
def codecGetsUptoRow : OpenClaim := { program := "ytjbfpepcmhjfaaadoor", sum := "8f68df55d78f876ec78ca2f57334594aab0097ded4b572e7532de787cacdc4b9", func := "souk/souklaw06.CodecGets", spec := "codecGets", unfollowed := true, recurses := true, named := ["souk/schema.kinds"], apart := false, laid := [("souk/schema.kinds", laid_souk_schema_kinds)], narrowed := true }
def CodecGetsUptoSaid : Prop := codecGetsUptoRow.holds Tryd.pinned (OpenSpec.upto codecGetsSpec)

/-- 'souklaw08.BatchReads', WHERE WHAT IT READS IS OF BULK AT MOST 1048576: true; the input reads as it did. -/
def batchReadsUptoRow : OpenClaim := { program := "ytjbfpepcmhjfaaadoor", sum := "8f68df55d78f876ec78ca2f57334594aab0097ded4b572e7532de787cacdc4b9", func := "souk/souklaw08.BatchReads", spec := "batchReads", unfollowed := true, recurses := true, named := ["souk/schema.kinds"], apart := false, laid := [("souk/schema.kinds", laid_souk_schema_kinds)], narrowed := true }
def BatchReadsUptoSaid : Prop := batchReadsUptoRow.holds Tryd.pinned (OpenSpec.upto batchReadsSpec)

/-- 'souklaw08.BatchBack', WHERE WHAT IT READS IS OF BULK AT MOST 1048576: true; the input reads as it did. -/
def batchBackUptoRow : OpenClaim := { program := "ytjbfpepcmhjfaaadoor", sum := "8f68df55d78f876ec78ca2f57334594aab0097ded4b572e7532de787cacdc4b9", func := "souk/souklaw08.BatchBack", spec := "batchBack", unfollowed := true, recurses := true, named := ["souk/schema.kinds"], apart := false, laid := [("souk/schema.kinds", laid_souk_schema_kinds)], narrowed := true }
def BatchBackUptoSaid : Prop := batchBackUptoRow.holds Tryd.pinned (OpenSpec.upto batchBackSpec)

/-- 'souklaw08.BatchLifted', WHERE WHAT IT READS IS OF BULK AT MOST 1048576: true; the input reads as it did. -/
def batchLiftedUptoRow : OpenClaim := { program := "ytjbfpepcmhjfaaadoor", sum := "8f68df55d78f876ec78ca2f57334594aab0097ded4b572e7532de787cacdc4b9", func := "souk/souklaw08.BatchLifted", spec := "batchLifted", unfollowed := true, recurses := true, named := ["souk/schema.kinds"], apart := false, laid := [("souk/schema.kinds", laid_souk_schema_kinds)], narrowed := true }
def BatchLiftedUptoSaid : Prop := batchLiftedUptoRow.holds Tryd.pinned (OpenSpec.upto batchLiftedSpec)

/-- 'souklaw08.BatchCut', WHERE WHAT IT READS IS OF BULK AT MOST 1048576: true; the input reads as it did. -/
def batchCutUptoRow : OpenClaim := { program := "ytjbfpepcmhjfaaadoor", sum := "8f68df55d78f876ec78ca2f57334594aab0097ded4b572e7532de787cacdc4b9", func := "souk/souklaw08.BatchCut", spec := "batchCut", unfollowed := true, recurses := true, named := ["souk/schema.kinds"], apart := false, laid := [("souk/schema.kinds", laid_souk_schema_kinds)], narrowed := true }
def BatchCutUptoSaid : Prop := batchCutUptoRow.holds Tryd.pinned (OpenSpec.upto batchCutSpec)

/-- 'souklaw08.BatchNames', WHERE WHAT IT READS IS OF BULK AT MOST 1048576: true; the input reads as it did. -/
def batchNamesUptoRow : OpenClaim := { program := "ytjbfpepcmhjfaaadoor", sum := "8f68df55d78f876ec78ca2f57334594aab0097ded4b572e7532de787cacdc4b9", func := "souk/souklaw08.BatchNames", spec := "batchNames", unfollowed := true, recurses := true, named := ["souk/schema.kinds"], apart := false, laid := [("souk/schema.kinds", laid_souk_schema_kinds)], narrowed := true }
def BatchNamesUptoSaid : Prop := batchNamesUptoRow.holds Tryd.pinned (OpenSpec.upto batchNamesSpec)

/-- 'souklaw08.BatchTells', WHERE WHAT IT READS IS OF BULK AT MOST 1048576: true; the input reads as it did. -/
def batchTellsUptoRow : OpenClaim := { program := "ytjbfpepcmhjfaaadoor", sum := "8f68df55d78f876ec78ca2f57334594aab0097ded4b572e7532de787cacdc4b9", func := "souk/souklaw08.BatchTells", spec := "batchTells", unfollowed := true, recurses := true, named := ["souk/schema.kinds"], apart := false, laid := [("souk/schema.kinds", laid_souk_schema_kinds)], narrowed := true }
def BatchTellsUptoSaid : Prop := batchTellsUptoRow.holds Tryd.pinned (OpenSpec.upto batchTellsSpec)

end Rows
end Go.Proofs.YtjbfpepcmhjfaaaDoor
