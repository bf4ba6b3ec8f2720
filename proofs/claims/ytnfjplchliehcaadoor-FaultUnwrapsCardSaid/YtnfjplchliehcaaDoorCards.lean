/-
  DERIVED. GIVEN WITH THE SEED: THE CARDS: each row of YtnfjplchliehcaaDoorRows.lean that lists a variable, with what it lists TIED to the program's text (the seventh form; the later family's looks); each row that meets fmt, with fmt's text TOLD by the authors' own Lean function (tested against real Go, not proved from fmt's source: count such statements apart). THE CARD IS WHAT COUNTS. Prove the row's statement (the work); the ties are given (YtnfjplchliehcaaDoorTie.lean); close each card by the builder's one call (the guide's Derived/Test/ToyasCard.lean, 'card_holds'). Laid BY PROGRAM, IN A SANDBOX (cutbox-door.mjs). By AI agents, Wed Nov 11 2026. No macro, syntax, notation, axiom, sorry.
-/
import Derived.Test.YtnfjplchliehcaaDoorRows
import GoSem.ClaimSeven
namespace Go.Proofs.YtnfjplchliehcaaDoor
namespace Rows

/-- THE TIED CARD OF 'armoirelaw02.FaultUnwraps'. -/
def faultUnwrapsCard : Claim7 := { stood := { row := faultUnwrapsRow, standIns := [], harness := (true, "91e491469f183ee1801ca1c42b7a20baacf720b700cffb727b5cfdafd8d5308e"), looks := true }, kinds := [], alts := [], laidByText := true, laidKinds := [.handle], laidTests := true, laidLooks := .later }
def FaultUnwrapsCardSaid : Prop := Claim7.holds Tryd.pinned (.plain (OpenSpec.ofChange faultUnwrapsSpec)) faultUnwrapsCard

/-- THE TIED CARD OF 'armoirelaw02.FaultTells'. -/
def faultTellsCard : Claim7 := { stood := { row := faultTellsRow, standIns := [], harness := (true, "91e491469f183ee1801ca1c42b7a20baacf720b700cffb727b5cfdafd8d5308e"), looks := true }, kinds := [], alts := [], laidByText := true, laidKinds := [.handle], laidTests := true, laidLooks := .later }
def FaultTellsCardSaid : Prop := Claim7.holds Tryd.pinned (.plain (OpenSpec.ofChange faultTellsSpec)) faultTellsCard

/-- THE TIED CARD OF 'armoirelaw02.FaultSays'. -/
def faultSaysCard : Claim7 := { stood := { row := faultSaysRow, standIns := [], harness := (true, "91e491469f183ee1801ca1c42b7a20baacf720b700cffb727b5cfdafd8d5308e"), looks := true }, kinds := [], alts := [], laidByText := true, laidKinds := [.handle], laidTests := true, laidLooks := .later }
def FaultSaysCardSaid : Prop := Claim7.holds Tryd.pinned (.plain (OpenSpec.ofChange faultSaysSpec)) faultSaysCard

/-- THE TIED CARD OF 'armoirelaw02.FaultAgain'. -/
def faultAgainCard : Claim7 := { stood := { row := faultAgainRow, standIns := [], harness := (true, "91e491469f183ee1801ca1c42b7a20baacf720b700cffb727b5cfdafd8d5308e"), looks := true }, kinds := [], alts := [], laidByText := true, laidKinds := [.handle], laidTests := true, laidLooks := .later }
def FaultAgainCardSaid : Prop := Claim7.holds Tryd.pinned (.plain (OpenSpec.ofChange faultAgainSpec)) faultAgainCard

/-- THE TIED CARD OF 'armoirelaw02.FaultIs'. -/
def faultIsCard : Claim7 := { stood := { row := faultIsRow, standIns := [], harness := (true, "91e491469f183ee1801ca1c42b7a20baacf720b700cffb727b5cfdafd8d5308e"), looks := true }, kinds := [], alts := [], laidByText := true, laidKinds := [.handle], laidTests := true, laidLooks := .later }
def FaultIsCardSaid : Prop := Claim7.holds Tryd.pinned (.plain (OpenSpec.ofChange faultIsSpec)) faultIsCard

/-- THE SECOND FORM's CARD OF 'armoirelaw02.FaultUnwraps'. -/
def faultUnwrapsUptoCard : Claim7 := { stood := { row := faultUnwrapsUptoRow, standIns := [], harness := (true, "91e491469f183ee1801ca1c42b7a20baacf720b700cffb727b5cfdafd8d5308e"), looks := true }, kinds := [], alts := [], laidByText := true, laidKinds := [.handle], laidTests := true, laidLooks := .later }
def FaultUnwrapsUptoCardSaid : Prop := Claim7.holds Tryd.pinned (.plain (OpenSpec.upto faultUnwrapsSpec)) faultUnwrapsUptoCard

/-- THE SECOND FORM's CARD OF 'armoirelaw02.FaultTells'. -/
def faultTellsUptoCard : Claim7 := { stood := { row := faultTellsUptoRow, standIns := [], harness := (true, "91e491469f183ee1801ca1c42b7a20baacf720b700cffb727b5cfdafd8d5308e"), looks := true }, kinds := [], alts := [], laidByText := true, laidKinds := [.handle], laidTests := true, laidLooks := .later }
def FaultTellsUptoCardSaid : Prop := Claim7.holds Tryd.pinned (.plain (OpenSpec.upto faultTellsSpec)) faultTellsUptoCard

/-- THE SECOND FORM's CARD OF 'armoirelaw02.FaultSays'. -/
def faultSaysUptoCard : Claim7 := { stood := { row := faultSaysUptoRow, standIns := [], harness := (true, "91e491469f183ee1801ca1c42b7a20baacf720b700cffb727b5cfdafd8d5308e"), looks := true }, kinds := [], alts := [], laidByText := true, laidKinds := [.handle], laidTests := true, laidLooks := .later }
def FaultSaysUptoCardSaid : Prop := Claim7.holds Tryd.pinned (.plain (OpenSpec.upto faultSaysSpec)) faultSaysUptoCard

/-- THE SECOND FORM's CARD OF 'armoirelaw02.FaultAgain'. -/
def faultAgainUptoCard : Claim7 := { stood := { row := faultAgainUptoRow, standIns := [], harness := (true, "91e491469f183ee1801ca1c42b7a20baacf720b700cffb727b5cfdafd8d5308e"), looks := true }, kinds := [], alts := [], laidByText := true, laidKinds := [.handle], laidTests := true, laidLooks := .later }
def FaultAgainUptoCardSaid : Prop := Claim7.holds Tryd.pinned (.plain (OpenSpec.upto faultAgainSpec)) faultAgainUptoCard

/-- THE SECOND FORM's CARD OF 'armoirelaw02.FaultIs'. -/
def faultIsUptoCard : Claim7 := { stood := { row := faultIsUptoRow, standIns := [], harness := (true, "91e491469f183ee1801ca1c42b7a20baacf720b700cffb727b5cfdafd8d5308e"), looks := true }, kinds := [], alts := [], laidByText := true, laidKinds := [.handle], laidTests := true, laidLooks := .later }
def FaultIsUptoCardSaid : Prop := Claim7.holds Tryd.pinned (.plain (OpenSpec.upto faultIsSpec)) faultIsUptoCard
end Rows
end Go.Proofs.YtnfjplchliehcaaDoor
