/- SCHEMA: a struct in a new block; columns that may be written; what all laws hold. Printed by mac.py. -/
import Derived.Test.YtibaehlfpgipfaaSchH
import Derived.Test.YtibaehlfpgipfaaRtAll
namespace Go.Proofs.Ytibaehlfpgipfaa
open Go.RowKit

/-- Rows of indexes whose columns may be written. -/
def ColsAt (w : World) (p : Nat → Prop) (a : Option Addr) (n : Nat) : Prop :=
  0 < n → ∃ bL oL, a = some ⟨bL, oL, none⟩ ∧ ¬ p bL ∧ ∀ j, j < n → ∃ aj nj cj, w.cell? ⟨bL, oL + j * 7 + 3, none⟩ = some (.slice aj nj cj) ∧ nj ≤ far ∧ (0 < nj → ∃ bj oj u, aj = some ⟨bj, oj, none⟩ ∧ p bj ∧ w.cell? ⟨bj, oj, none⟩ = some u ∧ w.frozen? ⟨bj, oj, none⟩ = false)
theorem ColsAt.of {w : World} {base : Nat} {q : Nat → Prop} {a : Option Addr} {cap : Nat} {css : List (List Value)} {l : List GIndex} (own : w.ownsRow base 51 7 (.slice a l.length cap) l.length css.flatten) (els : Els fGIndex w (fun b => q b ∧ ¬ OwnB (.slice a l.length cap) b) css l) :
    ColsAt w (fun b => q b ∧ ¬ OwnB (.slice a l.length cap) b) a l.length := by
  intro hn
  have hL : ∀ c ∈ css, c.length = 7 := fun c hc => by
    obtain ⟨i, hi, rfl⟩ := List.mem_iff_getElem.1 hc
    have h2 : i < l.length := by rw [← els.1]; exact hi
    exact fGIndex_lawful.len (els.2 i css[i] l[i] (List.getElem?_eq_getElem hi) (List.getElem?_eq_getElem h2))
  have hne : css.flatten ≠ [] := fun e => by
    have h0 : 0 < css.length := by rw [els.1]; exact hn
    have h1 := hL _ (List.getElem_mem h0)
    match css, h0, h1, e with
    | c :: css, _, h1, e =>
      simp only [List.getElem_cons_zero] at h1
      simp only [List.flatten_cons, List.append_eq_nil_iff] at e
      rw [e.1] at h1; cases h1
  obtain ⟨b, off, rfl, hp, hlt, hc⟩ := Lies.of_owned own hne
  refine ⟨b, off, rfl, fun h => h.2 hp.2, fun j hj => ?_⟩
  have hj2 : j < css.length := by rw [els.1]; exact hj
  obtain ⟨c0, c1, c2, c3, c4, c5, c6, hcs, ⟨rfl, -⟩, ⟨rfl, -⟩, ⟨rfl, -⟩, h3, hb4, ⟨rfl, -⟩, hb6⟩ := els.2 j _ _ (List.getElem?_eq_getElem hj2) (List.getElem?_eq_getElem hj)
  obtain ⟨aj, cj, ds, rfl, hd1, hd2, -, hd3, hd4⟩ := h3
  refine ⟨aj, _, cj, ?_, hd3, fun h0 => ?_⟩
  · have := flat_at css hL j css[j] (List.getElem?_eq_getElem hj2) 3 (.slice aj l[j].fColumns.length cj) (by rw [hcs]; rfl)
    have := hc _ _ this
    rwa [← Nat.add_assoc] at this
  · have hne2 : ds.flatten ≠ [] := fun e => by
      have h0' : 0 < ds.length := by rw [hd1]; exact h0
      obtain ⟨hcc, -⟩ := hd4 0 _ _ (List.getElem?_eq_getElem h0') (List.getElem?_eq_getElem h0)
      match ds, h0', hcc, e with
      | d :: ds, _, hcc, e =>
        simp only [List.getElem_cons_zero] at hcc
        simp only [List.flatten_cons, List.append_eq_nil_iff] at e
        rw [hcc] at e; cases e.1
    obtain ⟨b', o', rfl, hp', hlt', hc', hf'⟩ := hd2 hne2
    match hds : ds.flatten, hne2 with
    | u :: us, _ => exact ⟨b', o', u, rfl, hp', by have := hc' 0 u (by rw [hds]; rfl); rwa [Nat.add_zero] at this, hf' _⟩
theorem ColsAt.set {w : World} {p : Nat → Prop} {a : Option Addr} {n : Nat} (h : ColsAt w p a n) {b o : Nat} (hb : p b) (v : Value) : ColsAt (w.setCell ⟨b, o, none⟩ v) p a n := by
  intro hn
  obtain ⟨bL, oL, rfl, hL, hr⟩ := h hn
  refine ⟨bL, oL, rfl, hL, fun j hj => ?_⟩
  obtain ⟨aj, nj, cj, h1, h2, h3⟩ := hr j hj
  refine ⟨aj, nj, cj, ?_, h2, fun h0 => ?_⟩
  · rw [(((Keep.refl (· = b) w).setCell (p := ⟨b, o, none⟩) (fun _ => rfl) v).cell (p := ⟨bL, oL + j * 7 + 3, none⟩) (World.block_lt_of_cell? w (a := ⟨bL, oL + j * 7 + 3, none⟩) h1) (by rintro rfl; exact hL hb))]; exact h1
  · obtain ⟨bj, oj, u, rfl, h4, h5, h6⟩ := h3 h0
    obtain ⟨u', hu'⟩ := cell?_setCell_some (w := w) (p := ⟨b, o, none⟩) (x := v) (q := ⟨bj, oj, none⟩) (v := u) h5
    exact ⟨bj, oj, u', rfl, h4, hu', by simpa using h6⟩
/-- The first cell of a list of numbers that may be written. -/
theorem firstCell {w : World} {p : Nat → Prop} {a : Option Addr} {n cap : Nat} {l : List Int} (h : rListW (rInt .i64) w p [.slice a n cap] l) (h0 : 0 < n) : ∃ b o u, a = some ⟨b, o, none⟩ ∧ p b ∧ w.cell? ⟨b, o, none⟩ = some u ∧ w.frozen? ⟨b, o, none⟩ = false := by
  obtain ⟨a', cap', ds, he, hd1, hd2, -, -, hd4⟩ := h
  simp only [List.cons.injEq, Value.slice.injEq, and_true] at he
  obtain ⟨rfl, rfl, rfl⟩ := he
  have h0' : 0 < ds.length := by rw [hd1]; exact h0
  have hne2 : ds.flatten ≠ [] := fun e => by
    obtain ⟨hcc, -⟩ := hd4 0 _ _ (List.getElem?_eq_getElem h0') (List.getElem?_eq_getElem h0)
    match ds, h0', hcc, e with
    | d :: ds, _, hcc, e =>
      simp only [List.getElem_cons_zero] at hcc
      simp only [List.flatten_cons, List.append_eq_nil_iff] at e
      rw [hcc] at e; cases e.1
  obtain ⟨b', o', rfl, hp', hlt', hc', hf'⟩ := hd2 hne2
  match hds : ds.flatten, hne2 with
  | u :: us, _ => exact ⟨b', o', u, rfl, hp', by have := hc' 0 u (by rw [hds]; rfl); rwa [Nat.add_zero] at this, hf' _⟩
end Go.Proofs.Ytibaehlfpgipfaa
