/- SCHEMA: plain laws and openings for the laws with scripts. Printed by mac.py. -/
import Derived.Test.YtfogbbnfedcldaaSchZb
namespace Go.Proofs.Ytfogbbnfedcldaa
open Go.RowKit

theorem right_small {c : GCatalog} (h : RightP c) : smallC c := by
  refine ⟨fun t ht => ?_, fun x hx => ?_, by have := h.t6; omega, by have := h.x10; omega⟩
  · have := tableB_small (h.tok t ht).2.2
    exact ⟨by omega, by omega⟩
  · have hb := (h.xok x hx).2.2.2
    unfold indexB at hb
    simp only [Bool.and_eq_true] at hb
    have hp := hb.2.2.1
    unfold placesB at hp
    have hp := of_decide_eq_true hp
    have h1 := hp.1
    rw [show min ((tabOf c x.fTable).1.fColumns.length : Int) 6 = ((min (tabOf c x.fTable).1.fColumns.length 6 : Nat) : Int) by omega] at h1
    have hl := goodP_len _ _ h1
    show x.fColumns.length ≤ 1000
    omega
theorem ver_tab (c : GCatalog) (t : GTable) : (addTableF c t).1.fVersion ≤ c.fVersion + 1 := by
  have := addTableF_to c t
  generalize addTableF c t = r at this
  cases this <;> first | exact Int.le_refl _ | (show c.fVersion ≤ c.fVersion + 1; omega)
theorem ver_idx (c : GCatalog) (x : GIndex) (tn : List UInt8) : (addIndexF c x tn).1.fVersion ≤ c.fVersion + 1 := by
  have := addIndexF_to c x tn
  generalize addIndexF c x tn = r at this
  cases this <;> first | exact Int.le_refl _ | (show c.fVersion ≤ c.fVersion + 1; omega)
theorem ver_drop (c : GCatalog) (nm : List UInt8) : (dropF c nm).1.fVersion ≤ c.fVersion + 1 := by
  have := dropF_to c nm
  generalize dropF c nm = r at this
  cases this <;> first | exact Int.le_refl _ | (show c.fVersion ≤ c.fVersion + 1; omega)
theorem ver_step (c : GCatalog) (d frm tt : Int) (bad : Bool) : (stepF c d frm tt bad).1.fVersion ≤ c.fVersion + 1 := by
  have := stepF_to c d frm tt bad
  generalize stepF c d frm tt bad = r at this
  cases this <;> first | exact Int.le_refl _ | (show c.fVersion ≤ c.fVersion + 1; omega)
/-- A struct in the midst of a row. -/
theorem Whole.mid {P : Program} {w : World} {T T' n b o : Nat} {pre cs post : List Value} (S : StructT P T n) (row : RowIs w b T' (pre ++ (cs ++ post))) (ho : pre.length = o) (hn : cs.length = n) : (wholeSem T (.pointer (some ⟨b, o, none⟩))).run P w = .ok (.value (.agg cs.toArray)) w :=
  Whole.at S hn fun j u hu => by
    rw [row.cell, ← ho, List.getElem?_append_right (by omega), Nat.add_sub_cancel_left, List.getElem?_append_left (List.getElem?_eq_some_iff.1 hu).1]; exact hu
theorem right_cat0 : RightP cat0 := rightB_iff.1 (by decide +kernel)
/-- The first loop of a body. -/
def loopAt : Code → Option Code
  | .loop c => some (.loop c)
  | .seq a b => match loopAt a with
    | some c => some c
    | none => loopAt b
  | .cond _ a b => match loopAt a with
    | some c => some c
    | none => loopAt b
  | .block _ c => loopAt c
  | .scope c => loopAt c
  | _ => none
theorem tab_cols {w : World} {p : Nat → Prop} {v0 v1 v3 : Value} {a : Option Addr} {n cap : Nat} {x : GTable} (h : rGTable w p [v0, v1, .slice a n cap, v3] x) : rList rGColumn w p [.slice a n cap] x.fColumns := by
  obtain ⟨_, _, _, _, e, -, -, h3, -, -⟩ := rGTable_open h
  simp only [List.cons.injEq, Value.slice.injEq, and_true] at e
  obtain ⟨-, -, ⟨rfl, rfl, rfl⟩, -⟩ := e
  exact h3
theorem tab_key {w : World} {p : Nat → Prop} {v0 v1 v2 : Value} {a : Option Addr} {n cap : Nat} {x : GTable} (h : rGTable w p [v0, v1, v2, .slice a n cap] x) : rList (rInt .i64) w p [.slice a n cap] x.fKey := by
  obtain ⟨_, _, _, _, e, -, -, -, h3, -⟩ := rGTable_open h
  simp only [List.cons.injEq, Value.slice.injEq, and_true] at e
  obtain ⟨-, -, -, rfl, rfl, rfl⟩ := e
  exact h3
theorem nextF_i64 (s : Int) : isI64 (nextF s) := by
  have : 0 ≤ nextF s ∧ nextF s ≤ 7 := by
    unfold nextF
    split
    · constructor <;> omega
    · split <;> constructor <;> omega
  exact ⟨by omega, by omega⟩
end Go.Proofs.Ytfogbbnfedcldaa
