/-
  No cell of these rows narrows 'for every input' (looked for: loops, veiled, ifaces, maps, wideKeys, modest, calm, conditions, laid).
  DERIVED. THE GIVEN ROWS OF THIS SEAT. 6 by the template 'for every input the law returns true; each argument reads behind the call as it read before'; 0 by the template 'total and deterministic' (their statements: YtfogbbnfedcldaaTotals.lean).
  GIVEN WITH THE SEED: the statements are not yours to turn. If you find one false, say at which input.
  Laid BY PROGRAM, IN A SANDBOX (cutbox-rows.mjs): the forced cells as the released guide's own fill.sh prints them over the translation 1535e8282f5eba05… (all of the seat's roots in one cut). By AI agents, Wed Nov 11 2026. No macro, syntax, notation, axiom, sorry.
-/
import Derived.Test.YtfogbbnfedcldaaChecked
import GoSem.Claim
import GoSem.ClaimJoined
import GoSem.ClaimMapViews
import Derived.JoinedTies
import Derived.KernelRfl
namespace Go.Proofs.Ytfogbbnfedcldaa
/- THE CELL 'sum', in the pinned program and in every row, IS THE sha256 OF THE DUMP (.gsa) THAT YtfogbbnfedcldaaProg.lean LOADS. Nothing in Lean hashes anything: it is a label: what it is worth is what the hold of that sum in a sandbox is worth. -/
noncomputable def Try.pinned : Pinned := { name := "ytfogbbnfedcldaa", sum := "1535e8282f5eba05ae67047127ac14be25b5759bcc9ca0ab1a74b8795435fc5c", checked := Try.checked }
namespace Rows
def none {H : Type} : Left H := { results := [], args := [] }

/-- 'armoirelaw12.SchemaTells': WHATEVER THE INPUT: true; the input reads as it did. -/
def schemaTellsSpec : ChangeSpec := { name := "schemaTells", fn := fun _ => fun
  | [d1, d2, d3] => { results := [.lit (.bool true)], args := [d1, d2, d3] }
  | _ => none }
def schemaTellsRow : OpenClaim := { program := "ytfogbbnfedcldaa", sum := "1535e8282f5eba05ae67047127ac14be25b5759bcc9ca0ab1a74b8795435fc5c", func := "armoire/armoirelaw12.SchemaTells", spec := "schemaTells", unfollowed := true, recurses := true, apart := false }
def SchemaTellsSaid : Prop := schemaTellsRow.holds Try.pinned (OpenSpec.ofChange schemaTellsSpec)

/-- ITS FALSE NEIGHBOUR: 'it returns false'. Refute it at one input. -/
def schemaTellsWrong : ChangeSpec := { name := "schemaTells", fn := fun _ => fun
  | [d1, d2, d3] => { results := [.lit (.bool false)], args := [d1, d2, d3] }
  | _ => none }
def SchemaTellsWrongFalsely : Prop := schemaTellsRow.holds Try.pinned (OpenSpec.ofChange schemaTellsWrong)

/-- 'armoirelaw12.SchemaStates': WHATEVER THE INPUT: true; the input reads as it did. -/
def schemaStatesSpec : ChangeSpec := { name := "schemaStates", fn := fun _ => fun
  | [d1, d2] => { results := [.lit (.bool true)], args := [d1, d2] }
  | _ => none }
def schemaStatesRow : OpenClaim := { program := "ytfogbbnfedcldaa", sum := "1535e8282f5eba05ae67047127ac14be25b5759bcc9ca0ab1a74b8795435fc5c", func := "armoire/armoirelaw12.SchemaStates", spec := "schemaStates", unfollowed := true, recurses := true, apart := false }
def SchemaStatesSaid : Prop := schemaStatesRow.holds Try.pinned (OpenSpec.ofChange schemaStatesSpec)

/-- ITS FALSE NEIGHBOUR: 'it returns false'. Refute it at one input. -/
def schemaStatesWrong : ChangeSpec := { name := "schemaStates", fn := fun _ => fun
  | [d1, d2] => { results := [.lit (.bool false)], args := [d1, d2] }
  | _ => none }
def SchemaStatesWrongFalsely : Prop := schemaStatesRow.holds Try.pinned (OpenSpec.ofChange schemaStatesWrong)

/-- 'armoirelaw12.SchemaOthers': WHATEVER THE INPUT: true; the input reads as it did. -/
def schemaOthersSpec : ChangeSpec := { name := "schemaOthers", fn := fun _ => fun
  | [d1, d2, d3, d4] => { results := [.lit (.bool true)], args := [d1, d2, d3, d4] }
  | _ => none }
def schemaOthersRow : OpenClaim := { program := "ytfogbbnfedcldaa", sum := "1535e8282f5eba05ae67047127ac14be25b5759bcc9ca0ab1a74b8795435fc5c", func := "armoire/armoirelaw12.SchemaOthers", spec := "schemaOthers", unfollowed := true, recurses := true, apart := false }
def SchemaOthersSaid : Prop := schemaOthersRow.holds Try.pinned (OpenSpec.ofChange schemaOthersSpec)

/-- ITS FALSE NEIGHBOUR: 'it returns false'. Refute it at one input. -/
def schemaOthersWrong : ChangeSpec := { name := "schemaOthers", fn := fun _ => fun
  | [d1, d2, d3, d4] => { results := [.lit (.bool false)], args := [d1, d2, d3, d4] }
  | _ => none }
def SchemaOthersWrongFalsely : Prop := schemaOthersRow.holds Try.pinned (OpenSpec.ofChange schemaOthersWrong)

/-- 'armoirelaw12.SchemaChanges': WHATEVER THE INPUT: true; the input reads as it did. -/
def schemaChangesSpec : ChangeSpec := { name := "schemaChanges", fn := fun _ => fun
  | [d1, d2] => { results := [.lit (.bool true)], args := [d1, d2] }
  | _ => none }
def schemaChangesRow : OpenClaim := { program := "ytfogbbnfedcldaa", sum := "1535e8282f5eba05ae67047127ac14be25b5759bcc9ca0ab1a74b8795435fc5c", func := "armoire/armoirelaw12.SchemaChanges", spec := "schemaChanges", unfollowed := true, recurses := true, apart := false }
def SchemaChangesSaid : Prop := schemaChangesRow.holds Try.pinned (OpenSpec.ofChange schemaChangesSpec)

/-- ITS FALSE NEIGHBOUR: 'it returns false'. Refute it at one input. -/
def schemaChangesWrong : ChangeSpec := { name := "schemaChanges", fn := fun _ => fun
  | [d1, d2] => { results := [.lit (.bool false)], args := [d1, d2] }
  | _ => none }
def SchemaChangesWrongFalsely : Prop := schemaChangesRow.holds Try.pinned (OpenSpec.ofChange schemaChangesWrong)

/-- 'armoirelaw12.SchemaLife': WHATEVER THE INPUT: true; the input reads as it did. -/
def schemaLifeSpec : ChangeSpec := { name := "schemaLife", fn := fun _ => fun
  | [d1, d2, d3, d4] => { results := [.lit (.bool true)], args := [d1, d2, d3, d4] }
  | _ => none }
def schemaLifeRow : OpenClaim := { program := "ytfogbbnfedcldaa", sum := "1535e8282f5eba05ae67047127ac14be25b5759bcc9ca0ab1a74b8795435fc5c", func := "armoire/armoirelaw12.SchemaLife", spec := "schemaLife", unfollowed := true, recurses := true, apart := false }
def SchemaLifeSaid : Prop := schemaLifeRow.holds Try.pinned (OpenSpec.ofChange schemaLifeSpec)

/-- ITS FALSE NEIGHBOUR: 'it returns false'. Refute it at one input. -/
def schemaLifeWrong : ChangeSpec := { name := "schemaLife", fn := fun _ => fun
  | [d1, d2, d3, d4] => { results := [.lit (.bool false)], args := [d1, d2, d3, d4] }
  | _ => none }
def SchemaLifeWrongFalsely : Prop := schemaLifeRow.holds Try.pinned (OpenSpec.ofChange schemaLifeWrong)

/-- 'armoirelaw12.SchemaSides': WHATEVER THE INPUT: true; the input reads as it did. -/
def schemaSidesSpec : ChangeSpec := { name := "schemaSides", fn := fun _ => fun
  | [d1, d2] => { results := [.lit (.bool true)], args := [d1, d2] }
  | _ => none }
def schemaSidesRow : OpenClaim := { program := "ytfogbbnfedcldaa", sum := "1535e8282f5eba05ae67047127ac14be25b5759bcc9ca0ab1a74b8795435fc5c", func := "armoire/armoirelaw12.SchemaSides", spec := "schemaSides", unfollowed := true, recurses := true, apart := false }
def SchemaSidesSaid : Prop := schemaSidesRow.holds Try.pinned (OpenSpec.ofChange schemaSidesSpec)

/-- ITS FALSE NEIGHBOUR: 'it returns false'. Refute it at one input. -/
def schemaSidesWrong : ChangeSpec := { name := "schemaSides", fn := fun _ => fun
  | [d1, d2] => { results := [.lit (.bool false)], args := [d1, d2] }
  | _ => none }
def SchemaSidesWrongFalsely : Prop := schemaSidesRow.holds Try.pinned (OpenSpec.ofChange schemaSidesWrong)

/- THE SECOND FORM. 'bulk': how many values and letters a reading holds, each counted each time it is reached (what is shared counts as often as it is met; a slice's spare places count too). A statement '..UptoSaid' is the law's where the arguments, and the package variables that the reading takes, are together of bulk at most 1048576: NARROWER than '..Said'. Prove '..Said' where nothing that the law and all that it calls make is longer than what came in: it says more and counts as full. Else prove '..UptoSaid'. A law counts once. -/
mutual
def uptoBulk {H : Type} : DataW H → Nat
  | .lit (.string bytes) => bytes.length + 1
  | .lit _ => 1
  | .nil => 1
  | .ptr d => uptoBulk d + 1
  | .slice elems spare => uptoBulkAll elems + uptoBulkAll spare + 1
  | .agg parts => uptoBulkAll parts + 1
  | .iface _ d => uptoBulk d + 1
  | .map entries => uptoBulkEntries entries + 1
  | .held _ => 1
def uptoBulkAll {H : Type} : List (DataW H) → Nat
  | [] => 0
  | d :: r => uptoBulk d + uptoBulkAll r
def uptoBulkEntries {H : Type} : List (Lit × DataW H) → Nat
  | [] => 0
  | x :: r => uptoBulkEntry x + uptoBulkEntries r
def uptoBulkEntry {H : Type} : Lit × DataW H → Nat
  | (.string bytes, d) => bytes.length + uptoBulk d + 1
  | (_, d) => uptoBulk d + 1
 end
def uptoSmall : (H : Type) → List (DataW H) → Bool := fun _ ds => decide (uptoBulkAll ds ≤ 1048576)
def OpenSpec.upto (s : _root_.Go.ChangeSpec) : _root_.Go.OpenSpec := { _root_.Go.OpenSpec.ofChange s with cond := some uptoSmall }

/-- 'armoirelaw12.SchemaTells', WHERE WHAT IT READS IS OF BULK AT MOST 1048576: true; the input reads as it did. -/
def schemaTellsUptoRow : OpenClaim := { program := "ytfogbbnfedcldaa", sum := "1535e8282f5eba05ae67047127ac14be25b5759bcc9ca0ab1a74b8795435fc5c", func := "armoire/armoirelaw12.SchemaTells", spec := "schemaTells", unfollowed := true, recurses := true, apart := false, narrowed := true }
def SchemaTellsUptoSaid : Prop := schemaTellsUptoRow.holds Try.pinned (OpenSpec.upto schemaTellsSpec)

/-- 'armoirelaw12.SchemaStates', WHERE WHAT IT READS IS OF BULK AT MOST 1048576: true; the input reads as it did. -/
def schemaStatesUptoRow : OpenClaim := { program := "ytfogbbnfedcldaa", sum := "1535e8282f5eba05ae67047127ac14be25b5759bcc9ca0ab1a74b8795435fc5c", func := "armoire/armoirelaw12.SchemaStates", spec := "schemaStates", unfollowed := true, recurses := true, apart := false, narrowed := true }
def SchemaStatesUptoSaid : Prop := schemaStatesUptoRow.holds Try.pinned (OpenSpec.upto schemaStatesSpec)

/-- 'armoirelaw12.SchemaOthers', WHERE WHAT IT READS IS OF BULK AT MOST 1048576: true; the input reads as it did. -/
def schemaOthersUptoRow : OpenClaim := { program := "ytfogbbnfedcldaa", sum := "1535e8282f5eba05ae67047127ac14be25b5759bcc9ca0ab1a74b8795435fc5c", func := "armoire/armoirelaw12.SchemaOthers", spec := "schemaOthers", unfollowed := true, recurses := true, apart := false, narrowed := true }
def SchemaOthersUptoSaid : Prop := schemaOthersUptoRow.holds Try.pinned (OpenSpec.upto schemaOthersSpec)

/-- 'armoirelaw12.SchemaChanges', WHERE WHAT IT READS IS OF BULK AT MOST 1048576: true; the input reads as it did. -/
def schemaChangesUptoRow : OpenClaim := { program := "ytfogbbnfedcldaa", sum := "1535e8282f5eba05ae67047127ac14be25b5759bcc9ca0ab1a74b8795435fc5c", func := "armoire/armoirelaw12.SchemaChanges", spec := "schemaChanges", unfollowed := true, recurses := true, apart := false, narrowed := true }
def SchemaChangesUptoSaid : Prop := schemaChangesUptoRow.holds Try.pinned (OpenSpec.upto schemaChangesSpec)

/-- 'armoirelaw12.SchemaLife', WHERE WHAT IT READS IS OF BULK AT MOST 1048576: true; the input reads as it did. -/
def schemaLifeUptoRow : OpenClaim := { program := "ytfogbbnfedcldaa", sum := "1535e8282f5eba05ae67047127ac14be25b5759bcc9ca0ab1a74b8795435fc5c", func := "armoire/armoirelaw12.SchemaLife", spec := "schemaLife", unfollowed := true, recurses := true, apart := false, narrowed := true }
def SchemaLifeUptoSaid : Prop := schemaLifeUptoRow.holds Try.pinned (OpenSpec.upto schemaLifeSpec)

/-- 'armoirelaw12.SchemaSides', WHERE WHAT IT READS IS OF BULK AT MOST 1048576: true; the input reads as it did. -/
def schemaSidesUptoRow : OpenClaim := { program := "ytfogbbnfedcldaa", sum := "1535e8282f5eba05ae67047127ac14be25b5759bcc9ca0ab1a74b8795435fc5c", func := "armoire/armoirelaw12.SchemaSides", spec := "schemaSides", unfollowed := true, recurses := true, apart := false, narrowed := true }
def SchemaSidesUptoSaid : Prop := schemaSidesUptoRow.holds Try.pinned (OpenSpec.upto schemaSidesSpec)

end Rows
end Go.Proofs.Ytfogbbnfedcldaa
