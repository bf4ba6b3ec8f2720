/- ROUTE: what is appended to a capped slice; an element laid in the midst of a list. Printed by mac.py. -/
import Derived.Test.YtpblmaklbnpbfaaRt9
import Derived.Deep.AppendSrc
namespace Go.Proofs.Ytpblmaklbnpbfaa
open Go.RowKit

theorem app_new {P : Program} {t e sz bytes : Nat} (T : SliceT P t e sz bytes) {w : World} (ty : TypeId) {p q : Nat → Prop} {a1 a2 : Option Addr} (k m c : Nat) (xs ys : List Value) (hx : xs.length = k * sz) (hy : ys.length = m * sz) (h1 : Lies w p a1 xs) (h2 : Lies w q a2 ys) (ho : ∀ u ∈ ys, u.oneCell' = true) (hm : 0 < m) (hk : k + m ≤ 1000) (hb : bytes ≤ 1000) (hs : 0 < sz) :
    ∃ g cap w', (Builtin.append_ #[t, t] ty #[.slice a1 k k, .slice a2 m c]).run P w = .ok (.slice (some ⟨g, 0, none⟩) (k + m) cap) w' ∧ Lies w' (· = g) (some ⟨g, 0, none⟩) (xs ++ ys) ∧ k + m ≤ cap ∧ Keep Nix w w' := by
  obtain ⟨i, z, hi, hz, hsz, hby, hzs⟩ := T.info
  have hy0 : ys ≠ [] := fun e => by rw [e, List.length_nil] at hy; have := Nat.mul_pos hm hs; omega
  obtain ⟨b2, o2, rfl, -, -, hc2⟩ := h2 hy0
  have hsrc : Src P i.size t (.slice (some ⟨b2, o2, none⟩) m c) m ys w := Src.ofSlice w T.under ⟨b2, o2, none⟩ m c _ (by rw [hsz]; exact hy) (fun j u hu => by
    rw [Addr.add_lit]; exact hc2 j u hu) ho
  have hold : (Builtin.firstCells i.size k (.slice a1 k k)).run P w.drew = .ok xs.toArray w.drew := by
    by_cases hk0 : xs = []
    · have : k = 0 := by
        rw [hk0, List.length_nil] at hx
        rcases Nat.eq_zero_or_pos k with h | h
        · exact h
        · have := Nat.mul_pos h hs; omega
      subst this
      rw [hk0]
      cases a1 with
      | none => exact run_firstCells_none (P := P) w.drew i.size 0 0 0
      | some ad => exact run_firstCells_some (P := P) w.drew i.size 0 ad 0 0 [] (by simp) (fun j u hu => by simp at hu)
    · obtain ⟨b1, o1, rfl, -, -, hc1⟩ := h1 hk0
      exact run_firstCells_some (P := P) w.drew i.size k ⟨b1, o1, none⟩ k k xs (by rw [hsz]; exact hx) (fun j u hu => by rw [Addr.add_lit]; exact hc1 j u hu)
  have hfit : (k + m) * i.bytes ≤ 140737488355328 := by
    rw [hby]
    have := Nat.mul_le_mul hk hb
    omega
  have hrun := run_append_grow_src (P := P) w t t ty e i z T.under hi hz a1 k k xs hold _ m ys hsrc (by omega) (by omega) (growslice_fits (by omega) hfit)
  refine ⟨_, _, _, hrun, ?_, grownCap_ge _ _ _ _, ((Keep.refl Nix w).drew).alloc _⟩
  have hr := RowIs.alloc w.drew ((xs ++ ys).toArray ++ Builtin.zeroCells z.cells (grownCap w (k + m) k e - (k + m))) e
  refine hr.lies (· = w.heap.size) rfl (off := 0) (fun j u hu => ?_)
  rw [Nat.zero_add]
  simp only [Array.toList_append]
  rw [List.getElem?_append_left (List.getElem?_eq_some_iff.1 hu).1]
  exact hu
/-- 'append([]T{x}, rest...)': a block of one, known whole. -/
theorem app_one {P : Program} {t e sz bytes : Nat} (T : SliceT P t e sz bytes) {w : World} (ty : TypeId) {q : Nat → Prop} {b : Nat} {a2 : Option Addr} (m c : Nat) (xs ys : List Value) (hx : xs.length = sz) (hy : ys.length = m * sz) (h1 : RowIs w b e xs) (h2 : Lies w q a2 ys) (ho : ∀ u ∈ ys, u.oneCell' = true) (hk : 1 + m ≤ 1000) (hb : bytes ≤ 1000) (hs : 0 < sz) :
    ∃ a cap w', (Builtin.append_ #[t, t] ty #[.slice (some ⟨b, 0, none⟩) 1 1, .slice a2 m c]).run P w = .ok (.slice a (1 + m) cap) w' ∧ Lies w' (fun _ => True) a (xs ++ ys) ∧ Keep Nix w w' := by
  have hL : Lies w (fun _ => True) (some ⟨b, 0, none⟩) xs := h1.lies _ trivial (off := 0) (fun j u hu => by rw [Nat.zero_add]; exact hu)
  rcases Nat.eq_zero_or_pos m with rfl | hm
  · obtain ⟨i, z, hi, hz, hsz, hby, hzs⟩ := T.info
    obtain rfl : ys = [] := List.eq_nil_of_length_eq_zero (by simpa using hy)
    refine ⟨some ⟨b, 0, none⟩, 1, w, ?_, by rw [List.append_nil]; exact hL, Keep.refl _ _⟩
    cases a2 <;> simp [Builtin.append_, run_underlying T.under, sizeOf, typeInfo, hi, Builtin.lenOf, Builtin.firstCells, loadCells, loadCellsFrom, storeCells]
  · obtain ⟨g, cap, w', h, hl, -, k⟩ := app_new T ty 1 m c xs ys (by simpa using hx) hy hL h2 ho hm hk hb hs
    exact ⟨_, cap, w', h, hl.mono (fun _ _ => trivial), k⟩
theorem step_app {P : Program} {ops : Array Oper} {o : Oper} {a : Act} {K : Act → World → Prop} {Q : Exit → Act → World → Prop} {E : Prop} {w w' : World} {t : TypeId} {v y r : Value} (hw : Region.wanted o (yielded ops a.tmps) = true) (s x : Operand)
    (ho : o.op = .call { callee := .builtin .append, args := #[s, x], argTypes := #[t, t] }) (hs : a.eval s = v) (hx : a.eval x = y) (hrun : (Builtin.append_ #[t, t] o.type #[v, y]).run P w = .ok r w') (h : K (a.put o.dst r) w') :
    if Region.wanted o (yielded ops a.tmps) = true then Oper.wp P o a w K Q else E := by
  rw [if_pos hw]
  unfold Oper.wp
  simp only [execOp, ho, resolve, invoke, builtin, List.map_toArray, List.map_cons, List.map_nil, hs, hx, hrun, Sem.run_bind, Sem.run_pure, Result.andThen_ok]
  exact h
section
variable {α : Type} {R : RD α} {sz : Nat} {w : World} {p : Nat → Prop} {css : List (List Value)} {xs : List α}
theorem Els.lens (h : Els R w p css xs) (L : Lawful R sz) : ∀ c ∈ css, c.length = sz := by
  intro c hc
  obtain ⟨i, hi, rfl⟩ := List.mem_iff_getElem.1 hc
  have hx : i < xs.length := by rw [← h.1]; exact hi
  exact L.len (h.2 i _ _ (List.getElem?_eq_getElem hi) (List.getElem?_eq_getElem hx))
theorem flat_len : ∀ {css : List (List Value)}, (∀ c ∈ css, c.length = sz) → css.flatten.length = css.length * sz
  | [], _ => by simp
  | c :: css, h => by
    rw [List.flatten_cons, List.length_append, h c (by simp), flat_len (fun d hd => h d (by simp [hd])), List.length_cons, Nat.add_mul]; omega
theorem Els.ins (h : Els R w p css xs) {c : List Value} {x : α} (hc : R w p c x) (j : Nat) : Els R w p (css.take j ++ c :: css.drop j) (xs.take j ++ x :: xs.drop j) := by
  have hl := h.1
  refine ⟨by simp [hl], fun i d y hd hy => ?_⟩
  have e1 : (css.take j).length = (xs.take j).length := by rw [List.length_take, List.length_take, hl]
  by_cases h1 : i < (css.take j).length
  · rw [List.getElem?_append_left h1] at hd
    rw [List.getElem?_append_left (by rw [← e1]; exact h1)] at hy
    rw [List.length_take] at h1
    rw [List.getElem?_take_of_lt (by omega)] at hd hy
    exact h.2 i d y hd hy
  · rw [List.getElem?_append_right (by omega)] at hd
    rw [List.getElem?_append_right (by rw [← e1]; omega), ← e1] at hy
    cases hq : i - (css.take j).length with
    | zero =>
      rw [hq] at hd hy
      simp only [List.getElem?_cons_zero, Option.some.injEq] at hd hy
      subst hd hy
      exact hc
    | succ q =>
      rw [hq] at hd hy
      simp only [List.getElem?_cons_succ, List.getElem?_drop] at hd hy
      exact h.2 (j + q) d y hd hy
end
theorem lies_take {w : World} {p : Nat → Prop} {a : Option Addr} {xs ys : List Value} (h : Lies w p a (xs ++ ys)) : Lies w p a xs := fun hx => by
  obtain ⟨b, o, h1, h2, h3, h4⟩ := h (by simp [hx])
  exact ⟨b, o, h1, h2, h3, fun j u hu => h4 j u (by rw [List.getElem?_append_left (List.getElem?_eq_some_iff.1 hu).1]; exact hu)⟩
theorem lies_drop {w : World} {p : Nat → Prop} {b o : Nat} {xs ys : List Value} (h : Lies w p (some ⟨b, o, none⟩) (xs ++ ys)) : Lies w p (some ⟨b, o + xs.length, none⟩) ys := fun hy => by
  obtain ⟨b', o', h1, h2, h3, h4⟩ := h (by simp [hy])
  cases h1
  refine ⟨b, o + xs.length, rfl, h2, h3, fun j u hu => ?_⟩
  rw [Nat.add_assoc]
  exact h4 _ u (by rw [List.getElem?_append_right (by omega)]; simpa using hu)
end Go.Proofs.Ytpblmaklbnpbfaa
