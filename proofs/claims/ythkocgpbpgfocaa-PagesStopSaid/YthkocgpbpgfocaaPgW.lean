/- PAGES: a map as a plain list in order: New, Put, Scan, Len, Sizes. -/
import Derived.Test.YthkocgpbpgfocaaPgU
import Derived.Test.YthkocgpbpgfocaaPgV
import Derived.Test.YthkocgpbpgfocaaPg6
namespace Go.Proofs.Ythkocgpbpgfocaa
open Go.RowKit

/-- The map at g (its own blocks: O) is the list l, in order; its pages are as full as they should be. -/
def IsMap (w : World) (O : Nat → Prop) (g : Nat) (l : List GPair) : Prop := ∃ (L : List (List GPair)) (B : Nat → Prop) (aP : Option Addr) (cP : Nat) (S : List Value), MapIs w O B g aP cP S L ∧ PagesOk L ∧ RisingL L ∧ L.flatten = l
namespace IsMap
variable {w w' : World} {O : Nat → Prop} {g : Nat} {l : List GPair}
theorem keep (h : IsMap w O g l) {T : Nat → Prop} (k : Keep T w w') (hT : ∀ b, O b → ¬ T b) : IsMap w' O g l := by
  obtain ⟨L, B, aP, cP, S, M, r⟩ := h
  exact ⟨L, B, aP, cP, S, M.keep k hT, r⟩
theorem nix (h : IsMap w O g l) (k : Keep Nix w w') : IsMap w' O g l := h.keep k (fun _ _ h => h)
theorem rising (h : IsMap w O g l) : l.Pairwise ltP := by
  obtain ⟨L, B, aP, cP, S, M, ok, r, rfl⟩ := h
  exact r
theorem lt (h : IsMap w O g l) : ∀ b, O b → b < w.heap.size := by
  obtain ⟨L, B, aP, cP, S, M, -⟩ := h
  exact M.lt
theorem og (h : IsMap w O g l) : O g := by
  obtain ⟨L, B, aP, cP, S, M, -⟩ := h
  exact M.og
end IsMap
theorem isMap_none {w : World} {g : Nat} (row : RowIs w g 65 [.slice none 0 0]) : IsMap w (· = g) g [] :=
  ⟨[], fun _ => False, none, 0, [], { row := row
                                      own := World.ownsRow_nil _ _ _ _
                                      pg := fun j h => absurd h (Nat.not_lt_zero j)
                                      og := rfl
                                      oP := fun b hb => (by cases hb)
                                      oS := fun v hv => (by cases hv)
                                      oB := fun b hb => hb.elim
                                      ap := List.Pairwise.nil
                                      lt := fun b hb => by rw [hb]; exact row.lt }, ⟨fun l hl => (by cases hl), fun h => absurd h (by simp)⟩, List.Pairwise.nil, rfl⟩
theorem new_m (w : World) : Calls Try.prog 9 #[] w fun e w' => e = .returned (.pointer (some ⟨w.heap.size, 0, none⟩)) ∧ IsMap w' (· = w.heap.size) w.heap.size [] ∧ Keep Nix w w' :=
  (new_c w).mono fun _ _ ⟨h1, h2, h3⟩ => ⟨h1, isMap_none h2, h3⟩
def mayPut (l : List GPair) (x : GPair) : List GPair := if mayF x = 0 then putS l x else l
def PutM (w : World) (O : Nat → Prop) (g : Nat) (l : List GPair) (x : GPair) (e : Ending) (w' : World) : Prop :=
  e = .returned (.int .i64 (mayF x)) ∧ ∃ O', IsMap w' O' g (mayPut l x) ∧ (∀ b, O' b → O b ∨ w.heap.size ≤ b) ∧ Keep O w w'
theorem put_m {p : Nat → Prop} (O : Nat → Prop) (g : Nat) (l : List GPair) (x : GPair) (cs : List Value) (w : World) (M : IsMap w O g l) (hl : l.length ≤ 100000) (hx : rGPair w p cs x) :
    Calls Try.prog 12 #[.pointer (some ⟨g, 0, none⟩), .agg cs.toArray] w (PutM w O g l x) := by
  obtain ⟨L, B, aP, cP, S, MI, ok, hr, rfl⟩ := M
  have hx2 := hx
  obtain ⟨aK, cK, aV, cV, rfl, -⟩ := rGPair_open hx
  refine (put_c O B g aP cP S L x aK aV cK cV w MI ok hr (Nat.le_trans (pages_len (fun l hl => (ok.one l hl).1)) hl) hx2).mono ?_
  rintro e w' ⟨h1, h2, h3⟩
  refine ⟨h1, ?_⟩
  unfold mayPut
  by_cases hm : mayF x = 0
  · obtain ⟨i, k, is, O', B', aP', cP', S', F, M', hO, kk⟩ := h3 hm
    rw [if_pos hm]
    exact ⟨O', ⟨_, B', aP', cP', S', M', insF_ok ok F, insF_rising hr F, insF_flat hr F⟩, hO, kk⟩
  · have kk := h2 hm
    rw [if_neg hm]
    exact ⟨O, ⟨L, B, aP, cP, S, MI.keep kk (fun _ _ h => h), ok, hr, rfl⟩, fun b h => .inl h, kk.nix⟩
theorem scan_m {q : Nat → Prop} (O : Nat → Prop) (g : Nat) (l : List GPair) (s : GSpan) (csS : List Value) (back : Bool) (w : World) (M : IsMap w O g l) (hl : l.length ≤ 100000) (hs : rGSpan w q csS s) :
    Calls Try.prog 14 #[.pointer (some ⟨g, 0, none⟩), .agg csS.toArray, .bool back] w (ScanR w (scanF s back l)) := by
  obtain ⟨L, B, aP, cP, S, MI, ok, hr, rfl⟩ := M
  have h1 := pages_len (fun l hl => (ok.one l hl).1)
  exact scan_c g aP cP L s csS back w MI.row (MI.pages (by unfold far; omega) (fun m hm => by have := (ok.one m hm).2; unfold far; omega)) hs (by omega) (by omega)
theorem MapIs.at {w : World} {O B : Nat → Prop} {g : Nat} {aP : Option Addr} {cP : Nat} {S : List Value} {L : List (List GPair)} (M : MapIs w O B g aP cP S L) : PagesAt w g (L.map List.length) := by
  refine ⟨aP, cP, by rw [List.length_map]; exact M.row, fun hne => ?_⟩
  have hS : S ≠ [] := fun e => hne (by have := M.len; rw [e] at this; rw [List.eq_nil_of_length_eq_zero this.symm]; rfl)
  obtain ⟨b, o, rfl, -, hb, hc⟩ := (Lies.of_owned M.own) hS
  refine ⟨b, o, rfl, hb, fun k hk => ?_⟩
  rw [List.length_map] at hk
  obtain ⟨h', a, c, css, e, -⟩ := M.pg k hk
  exact ⟨a, c, by rw [List.getElem_map, ← e]; exact hc k _ (List.getElem?_eq_getElem h')⟩
theorem len_m (O : Nat → Prop) (g : Nat) (l : List GPair) (w : World) (M : IsMap w O g l) (hl : l.length ≤ 100000) :
    Calls Try.prog 15 #[.pointer (some ⟨g, 0, none⟩)] w fun e w' => e = .returned (.int .i64 l.length) ∧ Keep Nix w w' := by
  obtain ⟨L, B, aP, cP, S, MI, ok, hr, rfl⟩ := M
  have h1 := pages_len (fun l hl => (ok.one l hl).1)
  have h2 : (L.map List.length).sum = L.flatten.length := by rw [List.length_flatten]
  rw [← h2]
  exact len_c g (L.map List.length) w MI.at (by rw [List.length_map]; omega) (by omega)
end Go.Proofs.Ythkocgpbpgfocaa
