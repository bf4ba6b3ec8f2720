/-
  No cell of these rows narrows 'for every input' (looked for: loops, veiled, ifaces, maps, wideKeys, modest, calm, conditions, laid).
  DERIVED. THE GIVEN ROWS OF THIS SEAT. 5 by the template 'for every input the law returns true; each argument reads behind the call as it read before'; 0 by the template 'total and deterministic' (their statements: YthchpdflnpfjkaaTotals.lean).
  GIVEN WITH THE SEED: the statements are not yours to turn. If you find one false, say at which input.
  Laid BY PROGRAM, IN A SANDBOX (cutbox-rows.mjs): the forced cells as the released guide's own fill.sh prints them over the translation 59ba0d7942df3851… (all of the seat's roots in one cut). By AI agents, Wed Nov 11 2026. No macro, syntax, notation, axiom, sorry.
-/
import Derived.Test.YthchpdflnpfjkaaChecked
import GoSem.Claim
import GoSem.ClaimJoined
import GoSem.ClaimMapViews
import Derived.JoinedTies
import Derived.KernelRfl
namespace Go.Proofs.Ythchpdflnpfjkaa
/- THE CELL 'sum', in the pinned program and in every row, IS THE sha256 OF THE DUMP (.gsa) THAT YthchpdflnpfjkaaProg.lean LOADS. Nothing in Lean hashes anything: it is a label: what it is worth is what the hold of that sum in a sandbox is worth. -/
noncomputable def Try.pinned : Pinned := { name := "ythchpdflnpfjkaa", sum := "59ba0d7942df38511b01572f739294d10acf7c5d8e868f22048250614fba8ffa", checked := Try.checked }
namespace Rows
def none {H : Type} : Left H := { results := [], args := [] }

/-- 'armoirelaw10.DedupTwice': WHATEVER THE INPUT: true; the input reads as it did. -/
def dedupTwiceSpec : ChangeSpec := { name := "dedupTwice", fn := fun _ => fun
  | [d1, d2] => { results := [.lit (.bool true)], args := [d1, d2] }
  | _ => none }
def dedupTwiceRow : OpenClaim := { program := "ythchpdflnpfjkaa", sum := "59ba0d7942df38511b01572f739294d10acf7c5d8e868f22048250614fba8ffa", func := "armoire/armoirelaw10.DedupTwice", spec := "dedupTwice", unfollowed := true, recurses := true, apart := false }
def DedupTwiceSaid : Prop := dedupTwiceRow.holds Try.pinned (OpenSpec.ofChange dedupTwiceSpec)

/-- ITS FALSE NEIGHBOUR: 'it returns false'. Refute it at one input. -/
def dedupTwiceWrong : ChangeSpec := { name := "dedupTwice", fn := fun _ => fun
  | [d1, d2] => { results := [.lit (.bool false)], args := [d1, d2] }
  | _ => none }
def DedupTwiceWrongFalsely : Prop := dedupTwiceRow.holds Try.pinned (OpenSpec.ofChange dedupTwiceWrong)

/-- 'armoirelaw10.DedupApart': WHATEVER THE INPUT: true; the input reads as it did. -/
def dedupApartSpec : ChangeSpec := { name := "dedupApart", fn := fun _ => fun
  | [d1, d2] => { results := [.lit (.bool true)], args := [d1, d2] }
  | _ => none }
def dedupApartRow : OpenClaim := { program := "ythchpdflnpfjkaa", sum := "59ba0d7942df38511b01572f739294d10acf7c5d8e868f22048250614fba8ffa", func := "armoire/armoirelaw10.DedupApart", spec := "dedupApart", unfollowed := true, recurses := true, apart := false }
def DedupApartSaid : Prop := dedupApartRow.holds Try.pinned (OpenSpec.ofChange dedupApartSpec)

/-- ITS FALSE NEIGHBOUR: 'it returns false'. Refute it at one input. -/
def dedupApartWrong : ChangeSpec := { name := "dedupApart", fn := fun _ => fun
  | [d1, d2] => { results := [.lit (.bool false)], args := [d1, d2] }
  | _ => none }
def DedupApartWrongFalsely : Prop := dedupApartRow.holds Try.pinned (OpenSpec.ofChange dedupApartWrong)

/-- 'armoirelaw10.DedupLoads': WHATEVER THE INPUT: true; the input reads as it did. -/
def dedupLoadsSpec : ChangeSpec := { name := "dedupLoads", fn := fun _ => fun
  | [d1, d2] => { results := [.lit (.bool true)], args := [d1, d2] }
  | _ => none }
def dedupLoadsRow : OpenClaim := { program := "ythchpdflnpfjkaa", sum := "59ba0d7942df38511b01572f739294d10acf7c5d8e868f22048250614fba8ffa", func := "armoire/armoirelaw10.DedupLoads", spec := "dedupLoads", unfollowed := true, recurses := true, apart := false }
def DedupLoadsSaid : Prop := dedupLoadsRow.holds Try.pinned (OpenSpec.ofChange dedupLoadsSpec)

/-- ITS FALSE NEIGHBOUR: 'it returns false'. Refute it at one input. -/
def dedupLoadsWrong : ChangeSpec := { name := "dedupLoads", fn := fun _ => fun
  | [d1, d2] => { results := [.lit (.bool false)], args := [d1, d2] }
  | _ => none }
def DedupLoadsWrongFalsely : Prop := dedupLoadsRow.holds Try.pinned (OpenSpec.ofChange dedupLoadsWrong)

/-- 'armoirelaw10.DedupPlays': WHATEVER THE INPUT: true; the input reads as it did. -/
def dedupPlaysSpec : ChangeSpec := { name := "dedupPlays", fn := fun _ => fun
  | [d1, d2, d3] => { results := [.lit (.bool true)], args := [d1, d2, d3] }
  | _ => none }
def dedupPlaysRow : OpenClaim := { program := "ythchpdflnpfjkaa", sum := "59ba0d7942df38511b01572f739294d10acf7c5d8e868f22048250614fba8ffa", func := "armoire/armoirelaw10.DedupPlays", spec := "dedupPlays", unfollowed := true, recurses := true, apart := false }
def DedupPlaysSaid : Prop := dedupPlaysRow.holds Try.pinned (OpenSpec.ofChange dedupPlaysSpec)

/-- ITS FALSE NEIGHBOUR: 'it returns false'. Refute it at one input. -/
def dedupPlaysWrong : ChangeSpec := { name := "dedupPlays", fn := fun _ => fun
  | [d1, d2, d3] => { results := [.lit (.bool false)], args := [d1, d2, d3] }
  | _ => none }
def DedupPlaysWrongFalsely : Prop := dedupPlaysRow.holds Try.pinned (OpenSpec.ofChange dedupPlaysWrong)

/-- 'armoirelaw10.DedupNil': WHATEVER THE INPUT: true; the input reads as it did. -/
def dedupNilSpec : ChangeSpec := { name := "dedupNil", fn := fun _ => fun
  | [d1, d2, d3] => { results := [.lit (.bool true)], args := [d1, d2, d3] }
  | _ => none }
def dedupNilRow : OpenClaim := { program := "ythchpdflnpfjkaa", sum := "59ba0d7942df38511b01572f739294d10acf7c5d8e868f22048250614fba8ffa", func := "armoire/armoirelaw10.DedupNil", spec := "dedupNil", unfollowed := true, recurses := true, apart := false }
def DedupNilSaid : Prop := dedupNilRow.holds Try.pinned (OpenSpec.ofChange dedupNilSpec)

/-- ITS FALSE NEIGHBOUR: 'it returns false'. Refute it at one input. -/
def dedupNilWrong : ChangeSpec := { name := "dedupNil", fn := fun _ => fun
  | [d1, d2, d3] => { results := [.lit (.bool false)], args := [d1, d2, d3] }
  | _ => none }
def DedupNilWrongFalsely : Prop := dedupNilRow.holds Try.pinned (OpenSpec.ofChange dedupNilWrong)

/- THE SECOND FORM. 'bulk': how many values and letters a reading holds, each counted each time it is reached (what is shared counts as often as it is met; a slice's spare places count too). A statement '..UptoSaid' is the law's where the arguments, and the package variables that the reading takes, are together of bulk at most 1048576: NARROWER than '..Said'. Prove '..Said' where nothing that the law and all that it calls make is longer than what came in: it says more and counts as full. Else prove '..UptoSaid'. A law counts once. -/
mutual
def uptoBulk {H : Type} : DataW H → Nat
  | .lit (.string bytes) => bytes.length + 1
  | .lit _ => 1
  | .nil => 1
  | .ptr d => uptoBulk d + 1
  | .slice elems spare => uptoBulkAll elems + uptoBulkAll spare + 1
  | .agg parts => uptoBulkAll parts + 1
  | .iface _ d => uptoBulk d + 1
  | .map entries => uptoBulkEntries entries + 1
  | .held _ => 1
def uptoBulkAll {H : Type} : List (DataW H) → Nat
  | [] => 0
  | d :: r => uptoBulk d + uptoBulkAll r
def uptoBulkEntries {H : Type} : List (Lit × DataW H) → Nat
  | [] => 0
  | x :: r => uptoBulkEntry x + uptoBulkEntries r
def uptoBulkEntry {H : Type} : Lit × DataW H → Nat
  | (.string bytes, d) => bytes.length + uptoBulk d + 1
  | (_, d) => uptoBulk d + 1
 end
def uptoSmall : (H : Type) → List (DataW H) → Bool := fun _ ds => decide (uptoBulkAll ds ≤ 1048576)
def OpenSpec.upto (s : _root_.Go.ChangeSpec) : _root_.Go.OpenSpec := { _root_.Go.OpenSpec.ofChange s with cond := some uptoSmall }

/-- 'armoirelaw10.DedupTwice', WHERE WHAT IT READS IS OF BULK AT MOST 1048576: true; the input reads as it did. -/
def dedupTwiceUptoRow : OpenClaim := { program := "ythchpdflnpfjkaa", sum := "59ba0d7942df38511b01572f739294d10acf7c5d8e868f22048250614fba8ffa", func := "armoire/armoirelaw10.DedupTwice", spec := "dedupTwice", unfollowed := true, recurses := true, apart := false, narrowed := true }
def DedupTwiceUptoSaid : Prop := dedupTwiceUptoRow.holds Try.pinned (OpenSpec.upto dedupTwiceSpec)

/-- 'armoirelaw10.DedupApart', WHERE WHAT IT READS IS OF BULK AT MOST 1048576: true; the input reads as it did. -/
def dedupApartUptoRow : OpenClaim := { program := "ythchpdflnpfjkaa", sum := "59ba0d7942df38511b01572f739294d10acf7c5d8e868f22048250614fba8ffa", func := "armoire/armoirelaw10.DedupApart", spec := "dedupApart", unfollowed := true, recurses := true, apart := false, narrowed := true }
def DedupApartUptoSaid : Prop := dedupApartUptoRow.holds Try.pinned (OpenSpec.upto dedupApartSpec)

/-- 'armoirelaw10.DedupLoads', WHERE WHAT IT READS IS OF BULK AT MOST 1048576: true; the input reads as it did. -/
def dedupLoadsUptoRow : OpenClaim := { program := "ythchpdflnpfjkaa", sum := "59ba0d7942df38511b01572f739294d10acf7c5d8e868f22048250614fba8ffa", func := "armoire/armoirelaw10.DedupLoads", spec := "dedupLoads", unfollowed := true, recurses := true, apart := false, narrowed := true }
def DedupLoadsUptoSaid : Prop := dedupLoadsUptoRow.holds Try.pinned (OpenSpec.upto dedupLoadsSpec)

/-- 'armoirelaw10.DedupPlays', WHERE WHAT IT READS IS OF BULK AT MOST 1048576: true; the input reads as it did. -/
def dedupPlaysUptoRow : OpenClaim := { program := "ythchpdflnpfjkaa", sum := "59ba0d7942df38511b01572f739294d10acf7c5d8e868f22048250614fba8ffa", func := "armoire/armoirelaw10.DedupPlays", spec := "dedupPlays", unfollowed := true, recurses := true, apart := false, narrowed := true }
def DedupPlaysUptoSaid : Prop := dedupPlaysUptoRow.holds Try.pinned (OpenSpec.upto dedupPlaysSpec)

/-- 'armoirelaw10.DedupNil', WHERE WHAT IT READS IS OF BULK AT MOST 1048576: true; the input reads as it did. -/
def dedupNilUptoRow : OpenClaim := { program := "ythchpdflnpfjkaa", sum := "59ba0d7942df38511b01572f739294d10acf7c5d8e868f22048250614fba8ffa", func := "armoire/armoirelaw10.DedupNil", spec := "dedupNil", unfollowed := true, recurses := true, apart := false, narrowed := true }
def DedupNilUptoSaid : Prop := dedupNilUptoRow.holds Try.pinned (OpenSpec.upto dedupNilSpec)

end Rows
end Go.Proofs.Ythchpdflnpfjkaa
