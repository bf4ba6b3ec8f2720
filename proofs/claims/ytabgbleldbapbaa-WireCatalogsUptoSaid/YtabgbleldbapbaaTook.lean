/- WHAT BYTES ARE TAKEN AS: the ends of both readers. -/
import Derived.Test.YtabgbleldbapbaaIn
import Derived.Test.YtabgbleldbapbaaRead3
namespace Go.Proofs.Ytabgbleldbapbaa
open Go.RowKit

/-- The thing that all of the bytes are, or why they are none. -/
def endP {α : Type} (z : α) (y : α × RdS) : α × Int := if endS y.2 = 0 then (y.1, 0) else (z, endS y.2)
theorem endP_ok {α : Type} {z : α} {y : α × RdS} (h : endS y.2 = 0) : endP z y = (y.1, 0) := by unfold endP; rw [if_pos h]
theorem endP_no {α : Type} {z : α} {y : α × RdS} (h : endS y.2 ≠ 0) : endP z y = (z, endS y.2) := by unfold endP; rw [if_neg h]
def takeP {α : Type} (f : Ps α) (z : α) (l : List UInt8) : α × Int := endP z (f ⟨l, 0, 0, []⟩)
def Took {α : Type} (R : RD α) (w : World) (y : α × Int) (e : Ending) (w' : World) : Prop := ∃ cs : List Value, e = .returned (.tuple #[.agg cs.toArray, .int .i64 y.2]) ∧ R w' (NewIn w w') cs y.1 ∧ ones cs = true ∧ Keep Nix w w'
def TookR {α : Type} (R : RD α) (rd : Nat) (w : World) (y : α × Int) (e : Ending) (w' : World) : Prop := ∃ cs : List Value, e = .returned (.tuple #[.agg cs.toArray, .int .i64 y.2]) ∧ R w' (NewIn w w') cs y.1 ∧ ones cs = true ∧ Keep (· = rd) w w'
theorem results_cell_row2 {P : Program} {fn : Func} {p q : Tmp} {ty : TypeId} (h : fn.results = #[.cell p ty, .tmp q]) (tmps : Array Value) (w : World) (g : Nat) (t : TypeId) (cs : Array Value) (fr : Nat × Nat) (d : TypeDesc)
    (hp : tmps.getD p undef = .pointer (some ⟨g, 0, none⟩)) (hg : w.heap[g]? = some (.cells cs t fr))
    (hu : P.underlying ty = some d) (hd : (match d with | .struct _ | .array _ _ => true | _ => false) = true) (hi : (P.info? ty).map (·.size) = some cs.size) :
    (results fn tmps).run P w = .ok (.tuple #[.agg cs, tmps.getD q undef]) w := by
  have hp' : tmps[p]?.getD undef = .pointer (some ⟨g, 0, none⟩) := by simpa using hp
  simp [results, h, hp', asAddr, run_loadVar_row w g t ty cs fr d hg hu hd hi]
theorem Sees.endS {s s0 : RdS} {bad : Int} (h : Sees s s0 bad) : endS s = if bad ≠ 0 then bad else endS s0 := by
  by_cases he : s.e = 0
  · obtain ⟨h1, h2, h3⟩ := h.fine he
    subst h1
    unfold Go.Proofs.Ytabgbleldbapbaa.endS
    simp [he, h2, h3, h.B]
  · have h1 := h.e
    by_cases hb : bad = 0
    · subst hb
      simp only [ne_eq, not_true_eq_false, if_false] at h1 ⊢
      unfold Go.Proofs.Ytabgbleldbapbaa.endS
      rw [if_pos he, if_pos (by rw [← h1]; exact he), h1]
    · rw [if_pos hb] at h1 ⊢
      unfold Go.Proofs.Ytabgbleldbapbaa.endS
      rw [if_pos he, h1]
end Go.Proofs.Ytabgbleldbapbaa
