/- ROUTE: the keys that two spans have. Printed by mac.py. -/
import Derived.Test.YtibaehlfpgipfaaRt1
namespace Go.Proofs.Ytibaehlfpgipfaa
open Go.RowKit

def Four (w : World) (bs : Nat) (A B R S : List Value) (wx : World) : Prop := RowIs wx bs 43 A ∧ RowIs wx (bs + 1) 43 B ∧ RowIs wx (bs + 1 + 1) 43 R ∧ RowIs wx (bs + 1 + 1 + 1) 43 S ∧ Keep Nix w wx
theorem Four.keep {w w1 w2 : World} {bs : Nat} {A B R S : List Value} (h : Four w bs A B R S w1) (k : Keep Nix w1 w2) : Four w bs A B R S w2 :=
  ⟨h.1.keep k id, h.2.1.keep k id, h.2.2.1.keep k id, h.2.2.2.1.keep k id, h.2.2.2.2.trans k⟩
theorem Four.set {w w1 : World} {bs : Nat} {A B R S : List Value} (h : Four w bs A B R S w1) (hb : w.heap.size = bs) (j : Nat) (v : Value) : Four w bs A B R (S.set j v) (w1.setCell ⟨bs + 1 + 1 + 1, j, none⟩ v) := by
  have kS : Keep (· = bs + 1 + 1 + 1) w1 (w1.setCell ⟨bs + 1 + 1 + 1, j, none⟩ v) := (Keep.refl (· = bs + 1 + 1 + 1) w1).setCell (fun _ => rfl) _
  exact ⟨h.1.keep kS (by omega), h.2.1.keep kS (by omega), h.2.2.1.keep kS (by omega), h.2.2.2.1.set j v, h.2.2.2.2.then kS (fun i hi e => by omega)⟩
/-- Bytes that lie in the world ahead. -/
def LB (w : World) (s : Nat → Prop) (a : Option Addr) (cap : Nat) (l : List UInt8) : Prop := Lies w s a (l.map bv) ∧ l.length ≤ cap ∧ l.length ≤ far
theorem LB.mono {w : World} {s s' : Nat → Prop} {a : Option Addr} {cap : Nat} {l : List UInt8} (h : LB w s a cap l) (hs : ∀ i, s i → s' i) : LB w s' a cap l :=
  ⟨fun hx => by obtain ⟨b, off, h1, h2, h3⟩ := h.1 hx; exact ⟨b, off, h1, hs b h2, h3⟩, h.2⟩
theorem LB.keep {w w' : World} {s : Nat → Prop} {a : Option Addr} {cap : Nat} {l : List UInt8} (h : LB w s a cap l) (k : Keep Nix w w') : LB w' s a cap l := ⟨h.1.keep k (fun _ _ h => h), h.2⟩
theorem mkS {w : World} {p : Nat → Prop} {a b : Option Addr} {c d : Nat} {f t : List UInt8} (h1 : LB w p a c f) (h2 : LB w p b d t) : rGSpan w p [.slice a f.length c, .slice b t.length d] ⟨f, t⟩ := rGSpan_mk (x := ⟨f, t⟩) w p h1 h2
theorem LB.nil0 (w : World) (p : Nat → Prop) : LB w p none 0 [] := ⟨fun h => absurd rfl h, Nat.zero_le _, Nat.zero_le _⟩
theorem mkS0 (w : World) (p : Nat → Prop) : rGSpan w p [.slice none 0 0, .slice none 0 0] ⟨[], []⟩ := mkS (LB.nil0 w p) (LB.nil0 w p)
def partFrom (a b : GSpan) : List UInt8 := if ltB a.fFrom b.fFrom then b.fFrom else a.fFrom
def partTo (a b : GSpan) : List UInt8 := if a.fTo = [] ∨ (b.fTo ≠ [] ∧ ltB b.fTo a.fTo = true) then b.fTo else a.fTo
def partNo (a b : GSpan) : Bool := !(partTo a b).isEmpty && !ltB (partFrom a b) (partTo a b)
theorem partF_eq (a b : GSpan) : partF a b = if partNo a b then (⟨[], []⟩, false) else (⟨partFrom a b, partTo a b⟩, true) := by
  unfold partF partNo
  show (if partTo a b ≠ [] ∧ ltB (partFrom a b) (partTo a b) = false then ((⟨[], []⟩ : GSpan), false) else ((⟨partFrom a b, partTo a b⟩ : GSpan), true)) = _
  generalize partTo a b = t
  generalize partFrom a b = f
  cases t with
  | nil => rfl
  | cons c t => cases ltB f (c :: t) <;> simp
theorem len_pos {l : List UInt8} (h : l ≠ []) : (0 : Int) < (l.length : Int) := by
  cases l with
  | nil => exact absurd rfl h
  | cons _ _ => simp
theorem len0 {l : List UInt8} (h : l = []) : ((l.length : Int) == 0) = true := by rw [h]; rfl
theorem len1 {l : List UInt8} (h : l ≠ []) : ((l.length : Int) == 0) = false := by
  cases l with
  | nil => exact absurd rfl h
  | cons _ _ => simp only [List.length_cons, beq_eq_false_iff_ne]; omega
theorem pos0 {l : List UInt8} (h : l = []) : (l.length : Int) ≤ 0 := by rw [h]; exact Int.le_refl _
theorem pos1 {l : List UInt8} (h : l ≠ []) : (0 : Int) < (l.length : Int) := len_pos h
end Go.Proofs.Ytibaehlfpgipfaa
