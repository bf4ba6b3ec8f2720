/- PAGES: pairs that a range tells, put one behind the other into a list in a cell of its own. Printed by mac.py. -/
import Derived.Test.YthkocgpbpgfocaaPgW
import Derived.Test.YthkocgpbpgfocaaFen
namespace Go.Proofs.Ythkocgpbpgfocaa
open Go.RowKit Go.Shelf

/-- Behind k rounds: the list in the cell cx; D: the heap's size ahead of the loop. -/
def AppI (D cx : Nat) (w0 : World) (xs : List GPair) (k : Nat) (W : World) : Prop := ∃ a c css, RowIs W cx 22 [.slice a k c] ∧ W.ownsRow (D + 2) 29 3 (.slice a k c) k css.flatten ∧
  Els rGPair W (fun b => (D + 2 ≤ b ∧ b < W.heap.size) ∧ ¬ OwnB (.slice a k c) b) css (xs.take k) ∧ Keep (· = cx) w0 W
theorem appI_start {cx : Nat} {w0 : World} {xs : List GPair} (row : RowIs w0 cx 22 [.slice none 0 0]) : AppI w0.heap.size cx w0 xs 0 w0 :=
  ⟨none, 0, [], row, World.ownsRow_nil _ _ _ _, Els.nil _ _ _, Keep.refl _ _⟩
theorem appI_keep {D cx : Nat} {w0 : World} {xs : List GPair} {k : Nat} {A B : World} (h : AppI D cx w0 xs k A) (kk : Keep (Book D) A B) (hD : w0.heap.size = D) (hc : cx < D) : AppI D cx w0 xs k B := by
  obtain ⟨a, c, css, row, own, els, k0⟩ := h
  have hs := kk.size
  refine ⟨a, c, css, row.keep kk (fun e => ?_), owned_keep own kk (fun b hb e => ?_), (els.keep rGPair_lawful kk (fun b hb e => ?_)).mono rGPair_lawful (fun b hb => ⟨⟨hb.1.1, by have := hb.1.2; omega⟩, hb.2⟩), k0.then kk (fun i hi e => ?_)⟩
  · rcases e with e | e <;> omega
  · have := (own.lt b hb).1
    rcases e with e | e <;> omega
  · have := hb.1.1
    rcases e with e | e <;> omega
  · rcases e with e | e <;> omega
/-- Rows of bytes and rows of pairs do not lie in one block. -/
theorem rows_apart {w : World} {b1 b2 e1 e2 s1 s2 n1 n2 : Nat} {u v : Value} {xs ys : List Value} (h1 : w.ownsRow b1 e1 s1 u n1 xs) (h2 : w.ownsRow b2 e2 s2 v n2 ys) (hne : e1 ≠ e2) : ∀ b, OwnB u b → ¬ OwnB v b := by
  intro b hb hb2
  rcases h1.2 with ⟨e, -⟩ | ⟨g, cap, cur, rfl, -, hg, -⟩
  · rw [e] at hb; exact nomatch (show (none : Option Nat) = some b from hb)
  rcases h2.2 with ⟨e, -⟩ | ⟨g', cap', cur', rfl, -, hg', -⟩
  · rw [e] at hb2; exact nomatch (show (none : Option Nat) = some b from hb2)
  have e1 : some g = some b := hb
  have e2 : some g' = some b := hb2
  cases e1
  cases e2
  rw [hg] at hg'
  simp only [Option.some.injEq, Obj.cells.injEq] at hg'
  exact hne hg'.2.1
theorem appI_step {D cx : Nat} {w0 : World} {xs : List GPair} {k : Nat} (hk : k < xs.length) {a a' : Option Addr} {c c' : Nat} {css : List (List Value)} {W w3 : World} {cn : List Value}
    (own : W.ownsRow (D + 2) 29 3 (.slice a k c) k css.flatten) (els : Els rGPair W (fun b => (D + 2 ≤ b ∧ b < W.heap.size) ∧ ¬ OwnB (.slice a k c) b) css (xs.take k)) (k0 : Keep (· = cx) w0 W) (row : RowIs W cx 22 [.slice a k c])
    (hcn : OwnP W (D + 2) cn xs[k]) (own3 : w3.ownsRow (D + 2) 29 3 (.slice a' (k + 1) c') (k + 1) (css.flatten ++ cn)) (k3 : Keep (OwnB (.slice a k c)) W w3) (hn : ∀ b, OwnB (.slice a' (k + 1) c') b → OwnB (.slice a k c) b ∨ W.heap.size ≤ b)
    (hD : w0.heap.size = D) (hc : cx < D) : AppI D cx w0 xs (k + 1) (w3.setCell ⟨cx, 0, none⟩ (.slice a' (k + 1) c')) := by
  have hs := k3.size
  have kS : Keep (· = cx) w3 (w3.setCell ⟨cx, 0, none⟩ (.slice a' (k + 1) c')) := (Keep.refl (· = cx) w3).setCell (p := ⟨cx, 0, none⟩) (fun _ => rfl) _
  have hsS := kS.size
  have row3 : RowIs w3 cx 22 [.slice a k c] := row.keep k3 (fun h => by have := (own.lt cx h).1; omega)
  have hOut : ∀ b, OwnB (.slice a k c) b → D + 2 ≤ b := fun b hb => (own.lt b hb).1
  have hcx : rGPair W (fun b => (D + 2 ≤ b ∧ b < W.heap.size) ∧ ¬ OwnB (.slice a k c) b) cn xs[k] := by
    obtain ⟨a1, c1, a2, c2, rfl, o1, o2, -, hv, f1, f2⟩ := hcn
    exact rGPair_mk W _ ⟨(Lies.of_owned o1).mono (fun b hb => ⟨⟨hb.1, (o1.lt b hb.2).2⟩, rows_apart o1 own (by decide) b hb.2⟩), (owned_bounds o1).2.1, f1⟩ ⟨(Lies.of_owned o2).mono (fun b hb => ⟨⟨hb.1, (o2.lt b hb.2).2⟩, rows_apart o2 own (by decide) b hb.2⟩), (owned_bounds o2).2.1, f2⟩ hv
  have els3 : Els rGPair w3 (fun b => (D + 2 ≤ b ∧ b < w3.heap.size) ∧ ¬ OwnB (.slice a' (k + 1) c') b) (css ++ [cn]) (xs.take k ++ [xs[k]]) := by
    have hm : ∀ b, ((D + 2 ≤ b ∧ b < W.heap.size) ∧ ¬ OwnB (.slice a k c) b) → ((D + 2 ≤ b ∧ b < w3.heap.size) ∧ ¬ OwnB (.slice a' (k + 1) c') b) := fun b hb => ⟨⟨hb.1.1, by have := hb.1.2; omega⟩, fun h => by
      rcases hn b h with h | h
      · exact hb.2 h
      · have := hb.1.2; omega⟩
    exact Els.snoc ((els.keep rGPair_lawful k3 (fun b hb => hb.2)).mono rGPair_lawful hm) (rGPair_lawful.mono (rGPair_lawful.keep hcx k3 (fun b hb => hb.2)) hm)
  refine ⟨a', c', css ++ [cn], row3.set 0 _, owned_keep (by simpa using own3) kS (fun b hb e => by have := (own3.lt b hb).1; omega), ?_, (k0.then k3 (fun i hi h => by have := hOut i h; omega)).trans kS⟩
  rw [List.take_succ_eq_append_getElem hk]
  exact (els3.keep rGPair_lawful kS (fun b hb e => by have := hb.1.1; omega)).mono rGPair_lawful (fun b hb => ⟨⟨hb.1.1, by have := hb.1.2; omega⟩, hb.2⟩)
end Go.Proofs.Ythkocgpbpgfocaa
