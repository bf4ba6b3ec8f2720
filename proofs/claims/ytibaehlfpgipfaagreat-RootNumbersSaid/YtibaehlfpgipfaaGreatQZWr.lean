/- A WRITER: a block of one cell, which holds a slice of bytes that one owns. -/
import Derived.Test.YtibaehlfpgipfaaGreatQZCode
import Derived.Test.YtibaehlfpgipfaaGreatQZData
import Derived.Laws.IdiomStrings
namespace Go.Proofs.YtibaehlfpgipfaaGreat
open Go.RowKit
structure Wr (w : World) (T : TypeId) (r : Nat) (g : Option Nat) (out : List UInt8) (p : Nat → Prop) : Prop where
  row : ∃ a cap, RowIs w r T [.slice a out.length cap] ∧ w.ownsRow 0 5 1 (.slice a out.length cap) out.length (out.map bv) ∧ (Value.slice a out.length cap).ownBlock = g
  ne : g ≠ some r
  hp : ∀ b, p b → b < w.heap.size ∧ b ≠ r ∧ g ≠ some b
def WS (r : Nat) (g : Option Nat) : Nat → Prop := fun b => b = r ∨ g = some b
structure Chain (r : Nat) (w : World) (g : Option Nat) (w' : World) (g' : Option Nat) : Prop where
  keep : Keep (WS r g) w w'
  new : ∀ b, g' = some b → g = some b ∨ w.heap.size ≤ b
theorem Chain.refl (r : Nat) (w : World) (g : Option Nat) : Chain r w g w g := ⟨Keep.refl _ _, fun _ h => .inl h⟩
theorem Chain.trans {r : Nat} {w1 w2 w3 : World} {g1 g2 g3 : Option Nat} (h : Chain r w1 g1 w2 g2) (k : Chain r w2 g2 w3 g3) : Chain r w1 g1 w3 g3 :=
  ⟨h.keep.then k.keep (fun i hi hs => by
    rcases hs with hs | hs
    · exact .inl hs
    · rcases h.new i hs with h1 | h1
      · exact .inr h1
      · omega),
   fun b hb => by
    rcases k.new b hb with h1 | h1
    · exact h.new b h1
    · exact .inr (Nat.le_trans h.keep.size h1)⟩
theorem Chain.alloc {r : Nat} {w1 w2 : World} {g1 g2 : Option Nat} (h : Chain r w1 g1 w2 g2) (o : Obj) : Chain r w1 g1 (w2.alloc o) g2 := ⟨h.keep.alloc o, h.new⟩
theorem Chain.nix {r : Nat} {w1 w2 w3 : World} {g1 g2 : Option Nat} (h : Chain r w1 g1 w2 g2) (k : Keep Nix w2 w3) : Chain r w1 g1 w3 g2 := ⟨h.keep.trans k.nix, h.new⟩
section
variable {w w' : World} {T : TypeId} {r : Nat} {g g' : Option Nat} {out : List UInt8} {p q : Nat → Prop}
theorem Wr.free (h : Wr w T r g out p) : ∀ b, p b → ¬ WS r g b := fun b hb hs => by
  obtain ⟨-, h1, h2⟩ := h.hp b hb
  rcases hs with hs | hs
  · exact h1 hs
  · exact h2 hs
theorem Wr.lt (h : Wr w T r g out p) : r < w.heap.size := by obtain ⟨a, cap, h1, -⟩ := h.row; exact h1.lt
theorem Wr.mono (h : Wr w T r g out p) (hq : ∀ b, q b → p b) : Wr w T r g out q := ⟨h.row, h.ne, fun b hb => h.hp b (hq b hb)⟩
theorem Wr.keep (h : Wr w T r g out p) {S : Nat → Prop} (k : Keep S w w') (h1 : ¬ S r) (h2 : ∀ b, g = some b → ¬ S b) : Wr w' T r g out p := by
  obtain ⟨a, cap, e1, e2, e3⟩ := h.row
  exact ⟨⟨a, cap, e1.keep k h1, owned_keep e2 k (fun b hb => h2 b (e3.symm.trans hb)), e3⟩, h.ne, fun b hb => ⟨Nat.lt_of_lt_of_le (h.hp b hb).1 k.size, (h.hp b hb).2⟩⟩
theorem Wr.glt (h : Wr w T r g out p) : ∀ b, g = some b → b < w.heap.size := by
  obtain ⟨a, cap, -, e2, e3⟩ := h.row
  exact fun b hb => (e2.lt b (e3.trans hb)).2
theorem Wr.cell (h : Wr w T r g out p) : ∃ a cap, w.cell? ⟨r, 0, none⟩ = some (.slice a out.length cap) ∧ w.frozen? ⟨r, 0, none⟩ = false ∧ w.ownsRow 0 5 1 (.slice a out.length cap) out.length (out.map bv) ∧ (Value.slice a out.length cap).ownBlock = g ∧ RowIs w r T [.slice a out.length cap] := by
  obtain ⟨a, cap, e1, e2, e3⟩ := h.row
  exact ⟨a, cap, e1.cell 0, e1.frozen 0, e2, e3, e1⟩
theorem Wr.grow (h : Wr w T r g out p) {S : Nat → Prop} (k : Keep S w w') (h1 : ¬ S r) (h2 : ∀ b, g = some b → ¬ S b) (hq : ∀ b, q b → b < w'.heap.size ∧ (p b ∨ w.heap.size ≤ b)) : Wr w' T r g out q := by
  refine ⟨(h.keep k h1 h2).row, h.ne, fun b hb => ?_⟩
  obtain ⟨h3, h4⟩ := hq b hb
  have hr := h.lt
  rcases h4 with h4 | h4
  · exact ⟨h3, (h.hp b h4).2⟩
  · exact ⟨h3, by omega, fun e => by have := h.glt b e; omega⟩
theorem Wr.new (w : World) (T : TypeId) (p : Nat → Prop) (hp : ∀ b, p b → b < w.heap.size) : Wr (w.alloc (.cells #[.slice none 0 0] T)) T w.heap.size none [] p := by
  refine ⟨⟨none, 0, RowIs.alloc w _ T, ⟨rfl, .inl ⟨rfl, rfl⟩⟩, rfl⟩, (fun h => nomatch h), fun b hb => ?_⟩
  have := hp b hb
  exact ⟨by simp; omega, by omega, (fun h => nomatch h)⟩
end
def Puts (T : TypeId) (r : Nat) (p : Nat → Prop) (w : World) (g : Option Nat) (out : List UInt8) (e : Ending) (w' : World) : Prop := e = .returned (.tuple #[]) ∧ ∃ g', Wr w' T r g' out p ∧ Chain r w g w' g'
theorem conv_str {P : Program} {src dst e : TypeId} (hs : P.underlying src = some .string) (hd : P.underlying dst = some (.slice e)) (he : P.underlying e = some (.int .u8)) (w : World) (l : List UInt8) :
    ∃ w1 cap, (convert src dst (.string (strB l))).run P w = .ok (.slice (some ⟨w.heap.size, 0, none⟩) l.length cap) w1 ∧ Keep Nix w w1 ∧ Lies w1 (· = w.heap.size) (some ⟨w.heap.size, 0, none⟩) (l.map bv) ∧ w1.heap.size = w.heap.size + 1 := by
  refine ⟨_, _, by rw [run_bytes_of_string w src dst e (strB l) hs hd he, strB_size], ?_, ?_, by simp⟩
  · exact ((Keep.refl _ _).same (c := w.drew)).alloc _
  · intro _
    refine ⟨w.heap.size, 0, rfl, rfl, by simp, fun j u hu => ?_⟩
    rw [Nat.zero_add, cell_of_row _ w.heap.size j _ e _ (by rw [show w.heap.size = w.drew.heap.size from rfl]; exact heap_alloc_new _ _)]
    have hj := (List.getElem?_eq_some_iff.1 hu).1
    rw [List.length_map] at hj
    simp only [bytesRow, strB]
    rw [Array.getElem?_append_left (by simpa using hj)]
    simp only [List.map_toArray, List.getElem?_toArray]
    rw [← hu]
    rfl
/-! ### the bytes -/
abbrev encI (i : Int) : List UInt8 := numB (zig i).toNat
abbrev encU (i : Int) : List UInt8 := numB i.toNat
abbrev encF (b : Bool) : List UInt8 := numB (if b then 1 else 0)
def encL {α : Type} (f : α → List UInt8) (l : List α) : List UInt8 := numB l.length ++ l.flatMap f
theorem encI_len (i : Int) : (encI i).length ≤ 10 := (numB_len _).1
theorem encU_len (i : Int) : (encU i).length ≤ 10 := (numB_len _).1
theorem encF_len (b : Bool) : (encF b).length ≤ 10 := (numB_len _).1
theorem textB_len (l : List UInt8) : (textB l).length ≤ 10 * (l.length + 1) := by
  have := (numB_len l.length).1
  simp only [textB, List.length_append]; omega
theorem encL_len {α : Type} (f : α → List UInt8) (s : α → Nat) (h : ∀ x, (f x).length ≤ 10 * s x) (l : List α) : (encL f l).length ≤ 10 * sumOf s l := by
  have h1 := (numB_len l.length).1
  have h2 : (l.flatMap f).length ≤ 10 * (l.map s).sum := by
    clear h1
    induction l with
    | nil => simp
    | cons x l ih => have := h x; simp only [List.flatMap_cons, List.length_append, List.map_cons, List.sum_cons]; omega
  simp only [encL, List.length_append, sumOf]; omega
end Go.Proofs.YtibaehlfpgipfaaGreat
