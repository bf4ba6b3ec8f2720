/- LISTS AND WHAT IS NEW: elements cell by cell, rows that grow, structs out of results. -/
import Derived.Test.YtibaehlfpgipfaaGreatQZData
import Derived.Test.YtibaehlfpgipfaaGreatQZWhole
import Derived.Maps.AppendAt
namespace Go.Proofs.YtibaehlfpgipfaaGreat
open Go.RowKit
theorem far_len : far ≤ 140737488351232 ∧ far ≤ maxLen := by decide
theorem rList_open {α : Type} {R : RD α} {w : World} {p : Nat → Prop} {cs : List Value} {l : List α} (h : rList R w p cs l) : ∃ a cap, cs = [.slice a l.length cap] ∧ rList R w p [.slice a l.length cap] l := by
 obtain ⟨a, cap, css, rfl, h⟩ := h
 exact ⟨a, cap, rfl, a, cap, css, rfl, h⟩
theorem rList_len {α : Type} {R : RD α} {w : World} {p : Nat → Prop} {a : Option Addr} {n cap : Nat} {l : List α} (h : rList R w p [.slice a n cap] l) : n = l.length ∧ n ≤ cap ∧ n ≤ far := by
 obtain ⟨a', cap', css, h1, h2, h3, h4, h5, -⟩ := h
 simp only [List.cons.injEq, Value.slice.injEq, and_true] at h1
 obtain ⟨-, rfl, rfl⟩ := h1
 exact ⟨rfl, h4, h5⟩
def LiesW (w : World) (p : Nat → Prop) (a : Option Addr) (xs : List Value) : Prop :=
 xs ≠ [] → ∃ b off, a = some ⟨b, off, none⟩ ∧ p b ∧ b < w.heap.size ∧ (∀ j u, xs[j]? = some u → w.cell? ⟨b, off + j, none⟩ = some u) ∧ ∀ j, w.frozen? ⟨b, j, none⟩ = false
theorem LiesW.lies {w : World} {p : Nat → Prop} {a : Option Addr} {xs : List Value} (h : LiesW w p a xs) : Lies w p a xs := fun hx => by
 obtain ⟨b, off, h1, h2, h3, h4, -⟩ := h hx
 exact ⟨b, off, h1, h2, h3, h4⟩
theorem LiesW.of_owned {w : World} {base : Nat} {e sz : Nat} {a : Option Addr} {n m cap : Nat} {xs : List Value} (h : w.ownsRow base e sz (.slice a n cap) m xs) : LiesW w (fun b => base ≤ b) a xs := by
 intro hx
 rcases h.2 with ⟨h1, rfl⟩ | ⟨g, cap', cur, h1, hb, hg, _⟩
 ·exact absurd (List.eq_nil_of_length_eq_zero (by simpa using h.1)) hx
 ·cases h1
  refine ⟨g, 0, rfl, hb, (Array.getElem?_eq_some_iff.1 hg).1, fun j u hu => ?_, fun j => frozen_of_row w g j cur e hg⟩
  have := h.cells (g := g) rfl j u hu
  rw [Addr.add_lit] at this
  exact this
def NewIn (w w' : World) : Nat → Prop := fun b => w.heap.size ≤ b ∧ b < w'.heap.size
/-! ### a list of one element, and what it is appended to -/
def listSem (T n : Nat) (parts : Array (Nat × Value)) : Sem Next := do pure (.value (← Instr.buildSlice T n parts))
theorem list_run {P : Program} {t e n bytes : Nat} (S : SliceT P t e n bytes) (hn : n ≤ 100) (cs : List Value) (hc : cs.length = n) (w : World) :
  (listSem t 1 #[(0, .agg cs.toArray)]).run P w = .ok (.value (.slice (some ⟨w.heap.size, 0, none⟩) 1 1)) (w.alloc (.cells cs.toArray e)) := by
 obtain ⟨i, z, hi, hz, hsz, hby, hzs⟩ := S.info
 have hpos := S.pos
 have hf : ∀ Z : Array Value, Z.size = n → Instr.fill (fun j => some (j * n, n)) Z [(0, .agg cs.toArray)] = some cs.toArray := by
  intro Z hZ
  have := fill_parts (fun j => some (j * n, n)) [.agg cs.toArray] 0 [] Z.toList (by rw [joined_len, joined_len0, size_agg, hc]; simpa using hZ) (fun k v hv => by
   match k, hv with
   | 0, hv => simp at hv; subst hv; simp [joined, Value.cells, hc])
  have e : ([] ++ Z.toList).toArray = Z := by simp
  rw [e] at this
  simpa [numbered, joined, Value.cells] using this
 have hf2 := hf ((Array.range (1 * n)).map (z.cells[· % z.cells.size]!)) (by simp)
 unfold listSem Instr.buildSlice
 simp [run_underlying S.under, sizeOf, typeInfo, hi, hz, hsz, show ¬ (16777216 < n) by omega, show n ≠ 0 by omega, zeroValue, newRow, newObj]
 simp only [Nat.one_mul] at hf2
 rw [hf2]
 rfl
def Els {α : Type} (R : RD α) (w : World) (p : Nat → Prop) (css : List (List Value)) (xs : List α) : Prop := css.length = xs.length ∧ ∀ (i : Nat) (c : List Value) (x : α), css[i]? = some c → xs[i]? = some x → R w p c x
theorem Els.nil {α : Type} (R : RD α) (w : World) (p : Nat → Prop) : Els R w p [] [] := ⟨rfl, fun i c x h => by simp at h⟩
section
variable {α : Type} {R : RD α} {sz : Nat} {w wr w2 w3 : World} {p q : Nat → Prop} {css : List (List Value)} {xs : List α}
theorem Els.keep (h : Els R w p css xs) (L : Lawful R sz) {S : Nat → Prop} (k : Keep S w wr) (hs : ∀ b, p b → ¬ S b) : Els R wr p css xs := ⟨h.1, fun i c x hc hx => L.keep (h.2 i c x hc hx) k hs⟩
theorem Els.mono (h : Els R w p css xs) (L : Lawful R sz) (hq : ∀ b, p b → q b) : Els R w q css xs := ⟨h.1, fun i c x hc hx => L.mono (h.2 i c x hc hx) hq⟩
theorem Els.snoc (h : Els R w p css xs) {c : List Value} {x : α} (hc : R w p c x) : Els R w p (css ++ [c]) (xs ++ [x]) := by
 refine ⟨by simp [h.1], fun i d y hd hy => ?_⟩
 by_cases hi : i < css.length
 ·rw [List.getElem?_append_left hi] at hd
  rw [List.getElem?_append_left (by rw [← h.1]; exact hi)] at hy
  exact h.2 i d y hd hy
 ·rw [List.getElem?_append_right (by omega)] at hd
  rw [List.getElem?_append_right (by rw [← h.1]; omega)] at hy
  have h0 : i - css.length = 0 := by have := (List.getElem?_eq_some_iff.1 hd).1; simp at this; omega
  rw [h0] at hd
  rw [← h.1, h0] at hy
  simp at hd hy
  subst hd hy
  exact hc
theorem Els.push {rd : Nat} {v v' : Value} {c : List Value} {x : α} (els : Els R wr (fun b => NewIn w wr b ∧ ¬ OwnB v b) css xs) (L : Lawful R sz) (hc : R w2 (NewIn wr w2) c x) (k2 : Keep (· = rd) wr w2) (k3 : Keep (OwnB v) w2 w3) (hrd : rd < w.heap.size) (hw : w.heap.size ≤ wr.heap.size)
  (hv : ∀ b, OwnB v b → b < wr.heap.size) (hn : ∀ b, OwnB v' b → OwnB v b ∨ w2.heap.size ≤ b) : Els R w3 (fun b => NewIn w w3 b ∧ ¬ OwnB v' b) (css ++ [c]) (xs ++ [x]) := by
 have s2 := k2.size
 have s3 := k3.size
 refine Els.snoc ?_ ?_
 ·refine ((els.keep L k2 (fun b hb e => by have := hb.1.1; omega)).keep L k3 (fun b hb => hb.2)).mono L (fun b hb => ⟨⟨hb.1.1, by have := hb.1.2; omega⟩, fun h => ?_⟩)
  rcases hn b h with h | h
  ·exact hb.2 h
  ·have := hb.1.2; omega
 ·refine L.mono (L.keep hc k3 (fun b hb h => by have := hv b h; have := hb.1; omega)) (fun b hb => ⟨⟨by have := hb.1; omega, by have := hb.2; omega⟩, fun h => ?_⟩)
  rcases hn b h with h | h
  ·have := hv b h; have := hb.1; omega
  ·have := hb.2; omega
end
theorem wpl_append1_at {P : Program} {t e sz bytes : Nat} (T : SliceT P t e sz bytes) {w : World} {cs : Array Value} {t' : TypeId} {ops : Array Oper} {rest : List Oper} {o : Oper} {a : Act} {Q : Exit → Act → World → Prop} (hgd : o.guard = none) (s x : Operand)
  (ho : o.op = .call { callee := .builtin .append, args := #[s, x], argTypes := #[t, t] })
  (base : Nat) {v : Value} {n : Nat} {xs : List Value} (hs : a.eval s = v) (hown : w.ownsRow base e sz v n xs)
  {c : Nat} (hx : a.eval x = .slice (some ⟨w.heap.size, 0, none⟩) 1 c) (hl : cs.size = sz) (h1 : ∀ u ∈ cs.toList, u.oneCell' = true)
  (h63 : n + 1 ≤ maxLen) (hbytes : (n + 1) * bytes ≤ 140737488355328) (hbase : base ≤ w.heap.size)
  (h : ∀ a' cap' w', w'.ownsRow base e sz (.slice a' (n + 1) cap') (n + 1) (xs ++ cs.toList) → Keep (OwnB v) w w' → (∀ b, OwnB (.slice a' (n + 1) cap') b → OwnB v b ∨ w.heap.size ≤ b) → wpList P ops Q rest (a.put o.dst (.slice a' (n + 1) cap')) w') :
  wpList P ops Q (o :: rest) a (w.alloc (.cells cs t')) := by
 obtain ⟨i, z, hi, hz, hsz, hby, hzs⟩ := T.info
 obtain ⟨b, off, hb, hp, hlt, hc⟩ := Lies.block w cs t' (· = w.heap.size) rfl (fun e => by
  have := congrArg List.length e
  rw [Array.length_toList, hl, List.length_nil] at this
  exact absurd this (Nat.ne_of_gt T.pos))
 simp only [Option.some.injEq, Addr.mk.injEq] at hb
 obtain ⟨rfl, rfl, -⟩ := hb
 refine wpList_append_own_at (w.alloc (.cells cs t')) hgd s x t ho base e i z sz bytes T.under hi hz hsz hby hzs T.pos v n xs hs (hown.alloc _) ⟨w.heap.size, 0, none⟩ 1 c cs.toList hx (by simp [hl]) (fun j u hu => by rw [Addr.add_lit]; exact hc j u hu) h1 h63 hbytes (by simp; omega) ?_
 intro v' w' ho' hg _ hat
 obtain ⟨a', cap', rfl⟩ := owned_shape ho'
 refine h a' cap' w' ho' (((Keep.refl _ _).alloc _).grown hg fun _ hk _ => hk) (fun b hb => ?_)
 rcases hat with hat | hat
 ·exact .inl (hat.symm.trans hb)
 ·have : some b = some (w.alloc (.cells cs t')).heap.size := hb.symm.trans hat
  simp only [Option.some.injEq] at this
  subst this
  exact .inr (by simp)
def Took {α : Type} (R : RD α) (w : World) (y : α × Int) (e : Ending) (w' : World) : Prop := ∃ cs : List Value, e = .returned (.tuple #[.agg cs.toArray, .int .i64 y.2]) ∧ R w' (NewIn w w') cs y.1 ∧ ones cs = true ∧ Keep Nix w w'
theorem results_cell_row2 {P : Program} {fn : Func} {p q : Tmp} {ty : TypeId} (h : fn.results = #[.cell p ty, .tmp q]) (tmps : Array Value) (w : World) (g : Nat) (t : TypeId) (cs : Array Value) (fr : Nat × Nat) (d : TypeDesc)
  (hp : tmps.getD p undef = .pointer (some ⟨g, 0, none⟩)) (hg : w.heap[g]? = some (.cells cs t fr))
  (hu : P.underlying ty = some d) (hd : (match d with | .struct _ | .array _ _ => true | _ => false) = true) (hi : (P.info? ty).map (·.size) = some cs.size) :
  (results fn tmps).run P w = .ok (.tuple #[.agg cs, tmps.getD q undef]) w := by
 have hp' : tmps[p]?.getD undef = .pointer (some ⟨g, 0, none⟩) := by simpa using hp
 simp [results, h, hp', asAddr, run_loadVar_row w g t ty cs fr d hg hu hd hi]
end Go.Proofs.YtibaehlfpgipfaaGreat
