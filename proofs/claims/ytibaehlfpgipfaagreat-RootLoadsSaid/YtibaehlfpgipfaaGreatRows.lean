/-
  No cell of these rows narrows 'for every input' (looked for: loops, veiled, ifaces, maps, wideKeys, modest, calm, conditions, laid).
  DERIVED. THE GIVEN ROWS OF THIS SEAT. 3 by the template 'for every input the law returns true; each argument reads behind the call as it read before'; 0 by the template 'total and deterministic' (their statements: YtibaehlfpgipfaaGreatTotals.lean).
  GIVEN WITH THE SEED: the statements are not yours to turn. If you find one false, say at which input.
  Laid BY PROGRAM, IN A SANDBOX (cutbox-rows.mjs): the forced cells as the released guide's own fill.sh prints them over the translation cfd0f0f8fbc7a4b4… (all of the seat's roots in one cut). By AI agents, Wed Nov 11 2026. No macro, syntax, notation, axiom, sorry.
-/
import Derived.Test.YtibaehlfpgipfaaGreatChecked
import GoSem.Claim
import GoSem.ClaimJoined
import GoSem.ClaimMapViews
import Derived.JoinedTies
import Derived.KernelRfl
namespace Go.Proofs.YtibaehlfpgipfaaGreat
/- THE CELL 'sum', in the pinned program and in every row, IS THE sha256 OF THE DUMP (.gsa) THAT YtibaehlfpgipfaaGreatProg.lean LOADS. Nothing in Lean hashes anything: it is a label: what it is worth is what the hold of that sum in a sandbox is worth. -/
noncomputable def Tryz.pinned : Pinned := { name := "ytibaehlfpgipfaagreat", sum := "cfd0f0f8fbc7a4b4b7efd4b2745511a4a7928b618695c7275f30662a9825870e", checked := Tryz.checked }
namespace Rows
def none {H : Type} : Left H := { results := [], args := [] }

/-- 'armoirelaw17.RootNumbers': WHATEVER THE INPUT: true; the input reads as it did. -/
def rootNumbersSpec : ChangeSpec := { name := "rootNumbers", fn := fun _ => fun
  | [d] => { results := [.lit (.bool true)], args := [d] }
  | _ => none }
def rootNumbersRow : OpenClaim := { program := "ytibaehlfpgipfaagreat", sum := "cfd0f0f8fbc7a4b4b7efd4b2745511a4a7928b618695c7275f30662a9825870e", func := "armoire/armoirelaw17.RootNumbers", spec := "rootNumbers", inPlace := ["internal/bytealg.Compare", "slices.overlaps[armoire/api.Owner]"], unfollowed := true, recurses := true, apart := false }
def RootNumbersSaid : Prop := rootNumbersRow.holds Tryz.pinned (OpenSpec.ofChange rootNumbersSpec)

/-- ITS FALSE NEIGHBOUR: 'it returns false'. Refute it at one input. -/
def rootNumbersWrong : ChangeSpec := { name := "rootNumbers", fn := fun _ => fun
  | [d] => { results := [.lit (.bool false)], args := [d] }
  | _ => none }
def RootNumbersWrongFalsely : Prop := rootNumbersRow.holds Tryz.pinned (OpenSpec.ofChange rootNumbersWrong)

/-- 'armoirelaw17.RootLoads': WHATEVER THE INPUT: true; the input reads as it did. -/
def rootLoadsSpec : ChangeSpec := { name := "rootLoads", fn := fun _ => fun
  | [d1, d2] => { results := [.lit (.bool true)], args := [d1, d2] }
  | _ => none }
def rootLoadsRow : OpenClaim := { program := "ytibaehlfpgipfaagreat", sum := "cfd0f0f8fbc7a4b4b7efd4b2745511a4a7928b618695c7275f30662a9825870e", func := "armoire/armoirelaw17.RootLoads", spec := "rootLoads", inPlace := ["internal/bytealg.Compare", "slices.overlaps[armoire/api.Owner]"], unfollowed := true, recurses := true, apart := false }
def RootLoadsSaid : Prop := rootLoadsRow.holds Tryz.pinned (OpenSpec.ofChange rootLoadsSpec)

/-- ITS FALSE NEIGHBOUR: 'it returns false'. Refute it at one input. -/
def rootLoadsWrong : ChangeSpec := { name := "rootLoads", fn := fun _ => fun
  | [d1, d2] => { results := [.lit (.bool false)], args := [d1, d2] }
  | _ => none }
def RootLoadsWrongFalsely : Prop := rootLoadsRow.holds Tryz.pinned (OpenSpec.ofChange rootLoadsWrong)

/-- 'armoirelaw17.RootNil': WHATEVER THE INPUT: true; the input reads as it did. -/
def rootNilSpec : ChangeSpec := { name := "rootNil", fn := fun _ => fun
  | [d1, d2, d3, d4] => { results := [.lit (.bool true)], args := [d1, d2, d3, d4] }
  | _ => none }
def rootNilRow : OpenClaim := { program := "ytibaehlfpgipfaagreat", sum := "cfd0f0f8fbc7a4b4b7efd4b2745511a4a7928b618695c7275f30662a9825870e", func := "armoire/armoirelaw17.RootNil", spec := "rootNil", inPlace := ["internal/bytealg.Compare", "slices.overlaps[armoire/api.Owner]"], unfollowed := true, recurses := true, apart := false }
def RootNilSaid : Prop := rootNilRow.holds Tryz.pinned (OpenSpec.ofChange rootNilSpec)

/-- ITS FALSE NEIGHBOUR: 'it returns false'. Refute it at one input. -/
def rootNilWrong : ChangeSpec := { name := "rootNil", fn := fun _ => fun
  | [d1, d2, d3, d4] => { results := [.lit (.bool false)], args := [d1, d2, d3, d4] }
  | _ => none }
def RootNilWrongFalsely : Prop := rootNilRow.holds Tryz.pinned (OpenSpec.ofChange rootNilWrong)

/- THE SECOND FORM. 'bulk': how many values and letters a reading holds, each counted each time it is reached (what is shared counts as often as it is met; a slice's spare places count too). A statement '..UptoSaid' is the law's where the arguments, and the package variables that the reading takes, are together of bulk at most 1048576: NARROWER than '..Said'. Prove '..Said' where nothing that the law and all that it calls make is longer than what came in: it says more and counts as full. Else prove '..UptoSaid'. A law counts once. -/
mutual
def uptoBulk {H : Type} : DataW H → Nat
  | .lit (.string bytes) => bytes.length + 1
  | .lit _ => 1
  | .nil => 1
  | .ptr d => uptoBulk d + 1
  | .slice elems spare => uptoBulkAll elems + uptoBulkAll spare + 1
  | .agg parts => uptoBulkAll parts + 1
  | .iface _ d => uptoBulk d + 1
  | .map entries => uptoBulkEntries entries + 1
  | .held _ => 1
def uptoBulkAll {H : Type} : List (DataW H) → Nat
  | [] => 0
  | d :: r => uptoBulk d + uptoBulkAll r
def uptoBulkEntries {H : Type} : List (Lit × DataW H) → Nat
  | [] => 0
  | x :: r => uptoBulkEntry x + uptoBulkEntries r
def uptoBulkEntry {H : Type} : Lit × DataW H → Nat
  | (.string bytes, d) => bytes.length + uptoBulk d + 1
  | (_, d) => uptoBulk d + 1
 end
def uptoSmall : (H : Type) → List (DataW H) → Bool := fun _ ds => decide (uptoBulkAll ds ≤ 1048576)
def OpenSpec.upto (s : _root_.Go.ChangeSpec) : _root_.Go.OpenSpec := { _root_.Go.OpenSpec.ofChange s with cond := some uptoSmall }

/-- 'armoirelaw17.RootNumbers', WHERE WHAT IT READS IS OF BULK AT MOST 1048576: true; the input reads as it did. -/
def rootNumbersUptoRow : OpenClaim := { program := "ytibaehlfpgipfaagreat", sum := "cfd0f0f8fbc7a4b4b7efd4b2745511a4a7928b618695c7275f30662a9825870e", func := "armoire/armoirelaw17.RootNumbers", spec := "rootNumbers", inPlace := ["internal/bytealg.Compare", "slices.overlaps[armoire/api.Owner]"], unfollowed := true, recurses := true, apart := false, narrowed := true }
def RootNumbersUptoSaid : Prop := rootNumbersUptoRow.holds Tryz.pinned (OpenSpec.upto rootNumbersSpec)

/-- 'armoirelaw17.RootLoads', WHERE WHAT IT READS IS OF BULK AT MOST 1048576: true; the input reads as it did. -/
def rootLoadsUptoRow : OpenClaim := { program := "ytibaehlfpgipfaagreat", sum := "cfd0f0f8fbc7a4b4b7efd4b2745511a4a7928b618695c7275f30662a9825870e", func := "armoire/armoirelaw17.RootLoads", spec := "rootLoads", inPlace := ["internal/bytealg.Compare", "slices.overlaps[armoire/api.Owner]"], unfollowed := true, recurses := true, apart := false, narrowed := true }
def RootLoadsUptoSaid : Prop := rootLoadsUptoRow.holds Tryz.pinned (OpenSpec.upto rootLoadsSpec)

/-- 'armoirelaw17.RootNil', WHERE WHAT IT READS IS OF BULK AT MOST 1048576: true; the input reads as it did. -/
def rootNilUptoRow : OpenClaim := { program := "ytibaehlfpgipfaagreat", sum := "cfd0f0f8fbc7a4b4b7efd4b2745511a4a7928b618695c7275f30662a9825870e", func := "armoire/armoirelaw17.RootNil", spec := "rootNil", inPlace := ["internal/bytealg.Compare", "slices.overlaps[armoire/api.Owner]"], unfollowed := true, recurses := true, apart := false, narrowed := true }
def RootNilUptoSaid : Prop := rootNilUptoRow.holds Tryz.pinned (OpenSpec.upto rootNilSpec)

end Rows
end Go.Proofs.YtibaehlfpgipfaaGreat
