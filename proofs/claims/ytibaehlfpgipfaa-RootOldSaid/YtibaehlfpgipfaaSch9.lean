/- SCHEMA: which catalogs are right: the walk. Printed by gen21.py. -/
import Derived.Test.YtibaehlfpgipfaaSch8
namespace Go.Proofs.Ytibaehlfpgipfaa
open Go.RowKit

def lastT (c : GCatalog) : Nat → Int
  | 0 => 0
  | j + 1 => match c.fTables[j]? with
    | some t => t.fID
    | none => 0
def tabOk (c : GCatalog) (i : Nat) (t : GTable) : Bool := decide (lastT c i < t.fID) && (decide (t.fID < c.fNext) && (tableB t && decide (findB (fun o => decide (o.fName = t.fName)) c.fTables = (i : Int))))
def tabQ (c : GCatalog) (i : Nat) : Bool := match c.fTables[i]? with
  | some t => tabOk c i t
  | none => true
theorem tabQ_at {c : GCatalog} {i : Nat} (h : i < c.fTables.length) : tabQ c i = tabOk c i c.fTables[i] := by unfold tabQ; rw [List.getElem?_eq_getElem h]
theorem lastT_succ {c : GCatalog} {i : Nat} (h : i < c.fTables.length) : lastT c (i + 1) = c.fTables[i].fID := by show (match c.fTables[i]? with | some t => t.fID | none => 0) = _; rw [List.getElem?_eq_getElem h]
def lastX (c : GCatalog) : Nat → Int
  | 0 => 0
  | j + 1 => match c.fIndexes[j]? with
    | some t => t.fID
    | none => 0
def idxOk (c : GCatalog) (i : Nat) (x : GIndex) : Bool := decide (lastX c i < x.fID) && (decide (x.fID < c.fNext) && (!(tabOf c x.fID).2 && (indexB c x && decide (findB (fun o => decide (o.fName = x.fName)) c.fIndexes = (i : Int)))))
def idxQ (c : GCatalog) (i : Nat) : Bool := match c.fIndexes[i]? with
  | some x => idxOk c i x
  | none => true
theorem idxQ_at {c : GCatalog} {i : Nat} (h : i < c.fIndexes.length) : idxQ c i = idxOk c i c.fIndexes[i] := by unfold idxQ; rw [List.getElem?_eq_getElem h]
theorem lastX_succ {c : GCatalog} {i : Nat} (h : i < c.fIndexes.length) : lastX c (i + 1) = c.fIndexes[i].fID := by show (match c.fIndexes[i]? with | some t => t.fID | none => 0) = _; rw [List.getElem?_eq_getElem h]
def headB (c : GCatalog) : Bool := decide (0 ≤ c.fVersion ∧ 1 ≤ c.fNext ∧ c.fNext ≤ 1073741824 ∧ c.fTables.length ≤ 6 ∧ c.fIndexes.length ≤ 10)
def rightB (c : GCatalog) : Bool := headB c && (allB c.fTables.length (tabQ c) && allB c.fIndexes.length (idxQ c))
section
attribute [local go_sem ↓] ldz_Table stz_Table ldz_Catalog ldz_Index stz_Index
end
end Go.Proofs.Ytibaehlfpgipfaa
