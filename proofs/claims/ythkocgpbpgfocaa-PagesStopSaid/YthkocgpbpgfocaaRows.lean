/-
  No cell of these rows narrows 'for every input' (looked for: loops, veiled, ifaces, maps, wideKeys, modest, calm, conditions, laid).
  DERIVED. THE GIVEN ROWS OF THIS SEAT. 6 by the template 'for every input the law returns true; each argument reads behind the call as it read before'; 0 by the template 'total and deterministic' (their statements: YthkocgpbpgfocaaTotals.lean).
  GIVEN WITH THE SEED: the statements are not yours to turn. If you find one false, say at which input.
  Laid BY PROGRAM, IN A SANDBOX (cutbox-rows.mjs): the forced cells as the released guide's own fill.sh prints them over the translation aa2dde8ac659b75c… (all of the seat's roots in one cut). By AI agents, Wed Nov 11 2026. No macro, syntax, notation, axiom, sorry.
-/
import Derived.Test.YthkocgpbpgfocaaChecked
import GoSem.Claim
import GoSem.ClaimJoined
import GoSem.ClaimMapViews
import Derived.JoinedTies
import Derived.KernelRfl
namespace Go.Proofs.Ythkocgpbpgfocaa
/- THE CELL 'sum', in the pinned program and in every row, IS THE sha256 OF THE DUMP (.gsa) THAT YthkocgpbpgfocaaProg.lean LOADS. Nothing in Lean hashes anything: it is a label: what it is worth is what the hold of that sum in a sandbox is worth. -/
noncomputable def Try.pinned : Pinned := { name := "ythkocgpbpgfocaa", sum := "aa2dde8ac659b75c32f70718e855f86d5f1f038f21e3286861274a9a9b00dcbd", checked := Try.checked }
namespace Rows
def none {H : Type} : Left H := { results := [], args := [] }

/-- 'armoirelaw04.PagesOrder': WHATEVER THE INPUT: true; the input reads as it did. -/
def pagesOrderSpec : ChangeSpec := { name := "pagesOrder", fn := fun _ => fun
  | [d1, d2] => { results := [.lit (.bool true)], args := [d1, d2] }
  | _ => none }
def pagesOrderRow : OpenClaim := { program := "ythkocgpbpgfocaa", sum := "aa2dde8ac659b75c32f70718e855f86d5f1f038f21e3286861274a9a9b00dcbd", func := "armoire/armoirelaw04.PagesOrder", spec := "pagesOrder", inPlace := ["internal/bytealg.Compare", "slices.overlaps[armoire/api.Pair]", "slices.overlaps[[]armoire/api.Pair]"], unfollowed := true, recurses := true, apart := false }
def PagesOrderSaid : Prop := pagesOrderRow.holds Try.pinned (OpenSpec.ofChange pagesOrderSpec)

/-- ITS FALSE NEIGHBOUR: 'it returns false'. Refute it at one input. -/
def pagesOrderWrong : ChangeSpec := { name := "pagesOrder", fn := fun _ => fun
  | [d1, d2] => { results := [.lit (.bool false)], args := [d1, d2] }
  | _ => none }
def PagesOrderWrongFalsely : Prop := pagesOrderRow.holds Try.pinned (OpenSpec.ofChange pagesOrderWrong)

/-- 'armoirelaw04.PagesTwice': WHATEVER THE INPUT: true; the input reads as it did. -/
def pagesTwiceSpec : ChangeSpec := { name := "pagesTwice", fn := fun _ => fun
  | [d1, d2, d3] => { results := [.lit (.bool true)], args := [d1, d2, d3] }
  | _ => none }
def pagesTwiceRow : OpenClaim := { program := "ythkocgpbpgfocaa", sum := "aa2dde8ac659b75c32f70718e855f86d5f1f038f21e3286861274a9a9b00dcbd", func := "armoire/armoirelaw04.PagesTwice", spec := "pagesTwice", inPlace := ["internal/bytealg.Compare", "slices.overlaps[armoire/api.Pair]", "slices.overlaps[[]armoire/api.Pair]"], unfollowed := true, recurses := true, apart := false }
def PagesTwiceSaid : Prop := pagesTwiceRow.holds Try.pinned (OpenSpec.ofChange pagesTwiceSpec)

/-- ITS FALSE NEIGHBOUR: 'it returns false'. Refute it at one input. -/
def pagesTwiceWrong : ChangeSpec := { name := "pagesTwice", fn := fun _ => fun
  | [d1, d2, d3] => { results := [.lit (.bool false)], args := [d1, d2, d3] }
  | _ => none }
def PagesTwiceWrongFalsely : Prop := pagesTwiceRow.holds Try.pinned (OpenSpec.ofChange pagesTwiceWrong)

/-- 'armoirelaw04.PagesStop': WHATEVER THE INPUT: true; the input reads as it did. -/
def pagesStopSpec : ChangeSpec := { name := "pagesStop", fn := fun _ => fun
  | [d1, d2, d3, d4] => { results := [.lit (.bool true)], args := [d1, d2, d3, d4] }
  | _ => none }
def pagesStopRow : OpenClaim := { program := "ythkocgpbpgfocaa", sum := "aa2dde8ac659b75c32f70718e855f86d5f1f038f21e3286861274a9a9b00dcbd", func := "armoire/armoirelaw04.PagesStop", spec := "pagesStop", inPlace := ["internal/bytealg.Compare", "slices.overlaps[armoire/api.Pair]", "slices.overlaps[[]armoire/api.Pair]"], unfollowed := true, recurses := true, apart := false }
def PagesStopSaid : Prop := pagesStopRow.holds Try.pinned (OpenSpec.ofChange pagesStopSpec)

/-- ITS FALSE NEIGHBOUR: 'it returns false'. Refute it at one input. -/
def pagesStopWrong : ChangeSpec := { name := "pagesStop", fn := fun _ => fun
  | [d1, d2, d3, d4] => { results := [.lit (.bool false)], args := [d1, d2, d3, d4] }
  | _ => none }
def PagesStopWrongFalsely : Prop := pagesStopRow.holds Try.pinned (OpenSpec.ofChange pagesStopWrong)

/-- 'armoirelaw04.PagesParts': WHATEVER THE INPUT: true; the input reads as it did. -/
def pagesPartsSpec : ChangeSpec := { name := "pagesParts", fn := fun _ => fun
  | [d1, d2] => { results := [.lit (.bool true)], args := [d1, d2] }
  | _ => none }
def pagesPartsRow : OpenClaim := { program := "ythkocgpbpgfocaa", sum := "aa2dde8ac659b75c32f70718e855f86d5f1f038f21e3286861274a9a9b00dcbd", func := "armoire/armoirelaw04.PagesParts", spec := "pagesParts", inPlace := ["internal/bytealg.Compare", "slices.overlaps[armoire/api.Pair]", "slices.overlaps[[]armoire/api.Pair]"], unfollowed := true, recurses := true, apart := false }
def PagesPartsSaid : Prop := pagesPartsRow.holds Try.pinned (OpenSpec.ofChange pagesPartsSpec)

/-- ITS FALSE NEIGHBOUR: 'it returns false'. Refute it at one input. -/
def pagesPartsWrong : ChangeSpec := { name := "pagesParts", fn := fun _ => fun
  | [d1, d2] => { results := [.lit (.bool false)], args := [d1, d2] }
  | _ => none }
def PagesPartsWrongFalsely : Prop := pagesPartsRow.holds Try.pinned (OpenSpec.ofChange pagesPartsWrong)

/-- 'armoirelaw04.PagesPlay': WHATEVER THE INPUT: true; the input reads as it did. -/
def pagesPlaySpec : ChangeSpec := { name := "pagesPlay", fn := fun _ => fun
  | [d1, d2] => { results := [.lit (.bool true)], args := [d1, d2] }
  | _ => none }
def pagesPlayRow : OpenClaim := { program := "ythkocgpbpgfocaa", sum := "aa2dde8ac659b75c32f70718e855f86d5f1f038f21e3286861274a9a9b00dcbd", func := "armoire/armoirelaw04.PagesPlay", spec := "pagesPlay", inPlace := ["internal/bytealg.Compare", "slices.overlaps[armoire/api.Pair]", "slices.overlaps[[]armoire/api.Pair]"], unfollowed := true, recurses := true, apart := false }
def PagesPlaySaid : Prop := pagesPlayRow.holds Try.pinned (OpenSpec.ofChange pagesPlaySpec)

/-- ITS FALSE NEIGHBOUR: 'it returns false'. Refute it at one input. -/
def pagesPlayWrong : ChangeSpec := { name := "pagesPlay", fn := fun _ => fun
  | [d1, d2] => { results := [.lit (.bool false)], args := [d1, d2] }
  | _ => none }
def PagesPlayWrongFalsely : Prop := pagesPlayRow.holds Try.pinned (OpenSpec.ofChange pagesPlayWrong)

/-- 'armoirelaw04.PagesNil': WHATEVER THE INPUT: true; the input reads as it did. -/
def pagesNilSpec : ChangeSpec := { name := "pagesNil", fn := fun _ => fun
  | [d1, d2] => { results := [.lit (.bool true)], args := [d1, d2] }
  | _ => none }
def pagesNilRow : OpenClaim := { program := "ythkocgpbpgfocaa", sum := "aa2dde8ac659b75c32f70718e855f86d5f1f038f21e3286861274a9a9b00dcbd", func := "armoire/armoirelaw04.PagesNil", spec := "pagesNil", inPlace := ["internal/bytealg.Compare", "slices.overlaps[armoire/api.Pair]", "slices.overlaps[[]armoire/api.Pair]"], unfollowed := true, recurses := true, apart := false }
def PagesNilSaid : Prop := pagesNilRow.holds Try.pinned (OpenSpec.ofChange pagesNilSpec)

/-- ITS FALSE NEIGHBOUR: 'it returns false'. Refute it at one input. -/
def pagesNilWrong : ChangeSpec := { name := "pagesNil", fn := fun _ => fun
  | [d1, d2] => { results := [.lit (.bool false)], args := [d1, d2] }
  | _ => none }
def PagesNilWrongFalsely : Prop := pagesNilRow.holds Try.pinned (OpenSpec.ofChange pagesNilWrong)

/- THE SECOND FORM. 'bulk': how many values and letters a reading holds, each counted each time it is reached (what is shared counts as often as it is met; a slice's spare places count too). A statement '..UptoSaid' is the law's where the arguments, and the package variables that the reading takes, are together of bulk at most 1048576: NARROWER than '..Said'. Prove '..Said' where nothing that the law and all that it calls make is longer than what came in: it says more and counts as full. Else prove '..UptoSaid'. A law counts once. -/
mutual
def uptoBulk {H : Type} : DataW H → Nat
  | .lit (.string bytes) => bytes.length + 1
  | .lit _ => 1
  | .nil => 1
  | .ptr d => uptoBulk d + 1
  | .slice elems spare => uptoBulkAll elems + uptoBulkAll spare + 1
  | .agg parts => uptoBulkAll parts + 1
  | .iface _ d => uptoBulk d + 1
  | .map entries => uptoBulkEntries entries + 1
  | .held _ => 1
def uptoBulkAll {H : Type} : List (DataW H) → Nat
  | [] => 0
  | d :: r => uptoBulk d + uptoBulkAll r
def uptoBulkEntries {H : Type} : List (Lit × DataW H) → Nat
  | [] => 0
  | x :: r => uptoBulkEntry x + uptoBulkEntries r
def uptoBulkEntry {H : Type} : Lit × DataW H → Nat
  | (.string bytes, d) => bytes.length + uptoBulk d + 1
  | (_, d) => uptoBulk d + 1
 end
def uptoSmall : (H : Type) → List (DataW H) → Bool := fun _ ds => decide (uptoBulkAll ds ≤ 1048576)
def OpenSpec.upto (s : _root_.Go.ChangeSpec) : _root_.Go.OpenSpec := { _root_.Go.OpenSpec.ofChange s with cond := some uptoSmall }

/-- 'armoirelaw04.PagesOrder', WHERE WHAT IT READS IS OF BULK AT MOST 1048576: true; the input reads as it did. -/
def pagesOrderUptoRow : OpenClaim := { program := "ythkocgpbpgfocaa", sum := "aa2dde8ac659b75c32f70718e855f86d5f1f038f21e3286861274a9a9b00dcbd", func := "armoire/armoirelaw04.PagesOrder", spec := "pagesOrder", inPlace := ["internal/bytealg.Compare", "slices.overlaps[armoire/api.Pair]", "slices.overlaps[[]armoire/api.Pair]"], unfollowed := true, recurses := true, apart := false, narrowed := true }
def PagesOrderUptoSaid : Prop := pagesOrderUptoRow.holds Try.pinned (OpenSpec.upto pagesOrderSpec)

/-- 'armoirelaw04.PagesTwice', WHERE WHAT IT READS IS OF BULK AT MOST 1048576: true; the input reads as it did. -/
def pagesTwiceUptoRow : OpenClaim := { program := "ythkocgpbpgfocaa", sum := "aa2dde8ac659b75c32f70718e855f86d5f1f038f21e3286861274a9a9b00dcbd", func := "armoire/armoirelaw04.PagesTwice", spec := "pagesTwice", inPlace := ["internal/bytealg.Compare", "slices.overlaps[armoire/api.Pair]", "slices.overlaps[[]armoire/api.Pair]"], unfollowed := true, recurses := true, apart := false, narrowed := true }
def PagesTwiceUptoSaid : Prop := pagesTwiceUptoRow.holds Try.pinned (OpenSpec.upto pagesTwiceSpec)

/-- 'armoirelaw04.PagesStop', WHERE WHAT IT READS IS OF BULK AT MOST 1048576: true; the input reads as it did. -/
def pagesStopUptoRow : OpenClaim := { program := "ythkocgpbpgfocaa", sum := "aa2dde8ac659b75c32f70718e855f86d5f1f038f21e3286861274a9a9b00dcbd", func := "armoire/armoirelaw04.PagesStop", spec := "pagesStop", inPlace := ["internal/bytealg.Compare", "slices.overlaps[armoire/api.Pair]", "slices.overlaps[[]armoire/api.Pair]"], unfollowed := true, recurses := true, apart := false, narrowed := true }
def PagesStopUptoSaid : Prop := pagesStopUptoRow.holds Try.pinned (OpenSpec.upto pagesStopSpec)

/-- 'armoirelaw04.PagesParts', WHERE WHAT IT READS IS OF BULK AT MOST 1048576: true; the input reads as it did. -/
def pagesPartsUptoRow : OpenClaim := { program := "ythkocgpbpgfocaa", sum := "aa2dde8ac659b75c32f70718e855f86d5f1f038f21e3286861274a9a9b00dcbd", func := "armoire/armoirelaw04.PagesParts", spec := "pagesParts", inPlace := ["internal/bytealg.Compare", "slices.overlaps[armoire/api.Pair]", "slices.overlaps[[]armoire/api.Pair]"], unfollowed := true, recurses := true, apart := false, narrowed := true }
def PagesPartsUptoSaid : Prop := pagesPartsUptoRow.holds Try.pinned (OpenSpec.upto pagesPartsSpec)

/-- 'armoirelaw04.PagesPlay', WHERE WHAT IT READS IS OF BULK AT MOST 1048576: true; the input reads as it did. -/
def pagesPlayUptoRow : OpenClaim := { program := "ythkocgpbpgfocaa", sum := "aa2dde8ac659b75c32f70718e855f86d5f1f038f21e3286861274a9a9b00dcbd", func := "armoire/armoirelaw04.PagesPlay", spec := "pagesPlay", inPlace := ["internal/bytealg.Compare", "slices.overlaps[armoire/api.Pair]", "slices.overlaps[[]armoire/api.Pair]"], unfollowed := true, recurses := true, apart := false, narrowed := true }
def PagesPlayUptoSaid : Prop := pagesPlayUptoRow.holds Try.pinned (OpenSpec.upto pagesPlaySpec)

/-- 'armoirelaw04.PagesNil', WHERE WHAT IT READS IS OF BULK AT MOST 1048576: true; the input reads as it did. -/
def pagesNilUptoRow : OpenClaim := { program := "ythkocgpbpgfocaa", sum := "aa2dde8ac659b75c32f70718e855f86d5f1f038f21e3286861274a9a9b00dcbd", func := "armoire/armoirelaw04.PagesNil", spec := "pagesNil", inPlace := ["internal/bytealg.Compare", "slices.overlaps[armoire/api.Pair]", "slices.overlaps[[]armoire/api.Pair]"], unfollowed := true, recurses := true, apart := false, narrowed := true }
def PagesNilUptoSaid : Prop := pagesNilUptoRow.holds Try.pinned (OpenSpec.upto pagesNilSpec)

end Rows
end Go.Proofs.Ythkocgpbpgfocaa
