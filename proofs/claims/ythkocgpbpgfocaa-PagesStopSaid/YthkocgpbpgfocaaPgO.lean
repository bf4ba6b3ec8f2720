/- PAGES: a map that is filled, and the laws' list beside it. Printed by mac.py. -/
import Derived.Test.YthkocgpbpgfocaaPgN
namespace Go.Proofs.Ythkocgpbpgfocaa
open Go.RowKit

/-- A list beside the map: nothing of it lies in the map's blocks. -/
def SideL (w : World) (O : Nat → Prop) (a : Option Addr) (c : Nat) (l : List GPair) : Prop := rList rGPair w (fun b => b < w.heap.size ∧ ¬ O b) [.slice a l.length c] l
theorem SideL.keep {w w' : World} {O O' : Nat → Prop} {a : Option Addr} {c : Nat} {l : List GPair} (h : SideL w O a c l) (k : Keep O w w') (hO : ∀ b, O' b → O b ∨ w.heap.size ≤ b) : SideL w' O' a c l :=
  (rList_lawful rGPair_lawful).mono ((rList_lawful rGPair_lawful).keep h k (fun b hb => hb.2)) (fun b hb => ⟨Nat.lt_of_lt_of_le hb.1 k.size, fun h => by
    rcases hO b h with h | h
    · exact hb.2 h
    · have := hb.1; omega⟩)
theorem SideL.nix {w w' : World} {O : Nat → Prop} {a : Option Addr} {c : Nat} {l : List GPair} (h : SideL w O a c l) (k : Keep Nix w w') : SideL w' O a c l := h.keep k.nix (fun _ h => .inl h)
theorem SideL.nil (w : World) (O : Nat → Prop) : SideL w O none 0 [] := ⟨none, 0, [], rfl, rfl, Lies.nil _ _ _, Nat.le_refl _, Nat.zero_le _, fun i c x h => by cases h⟩
theorem SideL.of {w w' : World} {O p : Nat → Prop} {l : List GPair} {a : Option Addr} {c : Nat} {css : List (List Value)} (own : w'.ownsRow w.heap.size 29 3 (.slice a l.length c) l.length css.flatten) (els : Els rGPair w' (fun b => p b ∧ b < w.heap.size) css l) (hf : l.length ≤ far) (hp : ∀ b, p b → b < w.heap.size → ¬ O b) (hO : ∀ b, O b → b < w.heap.size) (hs : w.heap.size ≤ w'.heap.size) : SideL w' O a c l :=
  ⟨a, c, css, rfl, els.1, (Lies.of_owned own).mono (fun b hb => ⟨(own.lt b hb.2).2, fun h => by have := hO b h; have := hb.1; omega⟩), (owned_bounds own).2.1, hf, fun i d y hd hy => rGPair_lawful.mono (els.2 i d y hd hy) (fun b hb => ⟨by have := hb.2; omega, hp b hb.1 hb.2⟩)⟩
/-- What the loop that fills a map carries. -/
structure Filled (W : World) (gm : Nat) (i : Nat) (wr : World) (O : Nat → Prop) (lm : List GPair) (aA : Option Addr) (cA : Nat) : Prop where
  map : IsMap wr O gm lm
  side : SideL wr O aA cA lm
  far : ∀ b, O b → W.heap.size ≤ b
  len : lm.length ≤ i
  kk : Keep Nix W wr
theorem Filled.start {W wr : World} {gm : Nat} (M : IsMap wr (· = gm) gm []) (hg : W.heap.size ≤ gm) (kk : Keep Nix W wr) : Filled W gm 0 wr (· = gm) [] none 0 :=
  ⟨M, SideL.nil _ _, fun b hb => by omega, Nat.le_refl _, kk⟩
theorem Filled.more {W wr w2 : World} {gm i : Nat} {O O2 : Nat → Prop} {lm lm2 : List GPair} {aA : Option Addr} {cA : Nat} (F : Filled W gm i wr O lm aA cA) (_M2 : IsMap w2 O2 gm lm2) (hO : ∀ b, O2 b → O b ∨ wr.heap.size ≤ b) (k : Keep O wr w2) :
    SideL w2 O2 aA cA lm ∧ (∀ b, O2 b → W.heap.size ≤ b) ∧ Keep Nix W w2 :=
  ⟨F.side.keep k hO, fun b hb => by
    rcases hO b hb with h | h
    · exact F.far b h
    · have := F.kk.size; omega, F.kk.then k (fun i hi h => by have := F.far i h; omega)⟩
theorem wpl_app_run {P : Program} {ops : Array Oper} {rest : List Oper} {o : Oper} {a : Act} {Q : Exit → Act → World → Prop} {w w' : World} {t : TypeId} {v y r : Value} (hw : Region.wanted o (yielded ops a.tmps) = true) (s x : Operand)
    (ho : o.op = .call { callee := .builtin .append, args := #[s, x], argTypes := #[t, t] }) (hs : a.eval s = v) (hx : a.eval x = y) (hrun : (Builtin.append_ #[t, t] o.type #[v, y]).run P w = .ok r w') (h : wpList P ops Q rest (a.put o.dst r) w') :
    wpList P ops Q (o :: rest) a w := by
  unfold wpList
  rw [if_pos hw]
  left
  unfold Oper.wp
  simp only [execOp, ho, resolve, invoke, builtin, List.map_toArray, List.map_cons, List.map_nil, hs, hx, hrun, Sem.run_bind, Sem.run_pure, Result.andThen_ok]
  exact h
theorem filter_halves {l : List GPair} (hr : l.Pairwise ltP) (key : List UInt8) : l.filter (fun x => ltB x.fKey key) ++ l.filter (fun x => !ltB x.fKey key) = l := by
  induction l with
  | nil => rfl
  | cons y l ih =>
    rw [List.pairwise_cons] at hr
    rw [List.filter_cons, List.filter_cons]
    cases h : ltB y.fKey key with
    | true => simp only [if_true, Bool.not_true, Bool.false_eq_true, if_false, List.cons_append, ih hr.2]
    | false =>
      have e : l.filter (fun x => ltB x.fKey key) = [] := List.filter_eq_nil_iff.2 (fun x hx hlt => by
        have h1 := hr.1 x hx
        unfold ltP at h1
        have := ltB_trans h1 hlt
        rw [h] at this
        cases this)
      have e2 : l.filter (fun x => !ltB x.fKey key) = l := by
        have := ih hr.2
        rw [e, List.nil_append] at this
        exact this
      simp only [Bool.false_eq_true, if_false, Bool.not_false, if_true, e, e2, List.nil_append]
end Go.Proofs.Ythkocgpbpgfocaa
