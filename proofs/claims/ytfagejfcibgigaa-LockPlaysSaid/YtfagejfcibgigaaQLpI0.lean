/- LOCK: the reference's table: Put: the plain part; append with what is fresh. Printed by mac.py. -/
import Derived.Test.YtfagejfcibgigaaQLpH
namespace Go.Proofs.Ytfagejfcibgigaa
open Go.RowKit

section
variable {α : Type} {R : RD α} {w : World} {p : Nat → Prop}
theorem Els.cons {c : List Value} {x : α} {css : List (List Value)} {l : List α} (hc : R w p c x) (h : Els R w p css l) : Els R w p (c :: css) (x :: l) := by
  refine ⟨by rw [List.length_cons, List.length_cons, h.1], fun i d y hd hy => ?_⟩
  cases i with
  | zero =>
    rw [List.getElem?_cons_zero] at hd hy
    cases hd; cases hy
    exact hc
  | succ i =>
    rw [List.getElem?_cons_succ] at hd hy
    exact h.2 i d y hd hy
theorem Els.app {c1 c2 : List (List Value)} {l1 l2 : List α} (h1 : Els R w p c1 l1) (h2 : Els R w p c2 l2) : Els R w p (c1 ++ c2) (l1 ++ l2) := by
  refine ⟨by rw [List.length_append, List.length_append, h1.1, h2.1], fun i c x hc hx => ?_⟩
  by_cases e : i < c1.length
  · rw [List.getElem?_append_left e] at hc
    rw [List.getElem?_append_left (by rw [← h1.1]; exact e)] at hx
    exact h1.2 i c x hc hx
  · rw [List.getElem?_append_right (by omega)] at hc
    rw [List.getElem?_append_right (by rw [← h1.1]; omega), ← h1.1] at hx
    exact h2.2 _ c x hc hx
theorem Els.takeN {css : List (List Value)} {xs : List α} (h : Els R w p css xs) (j : Nat) : Els R w p (css.take j) (xs.take j) := by
  refine ⟨by rw [List.length_take, List.length_take, h.1], fun i c x hc hx => ?_⟩
  obtain ⟨hi, -⟩ := List.getElem?_eq_some_iff.1 hc
  rw [List.length_take] at hi
  rw [List.getElem?_take_of_lt (by omega)] at hc hx
  exact h.2 i c x hc hx
theorem Els.dropN {css : List (List Value)} {xs : List α} (h : Els R w p css xs) (j : Nat) : Els R w p (css.drop j) (xs.drop j) := by
  refine ⟨by rw [List.length_drop, List.length_drop, h.1], fun i c x hc hx => ?_⟩
  rw [List.getElem?_drop] at hc hx
  exact h.2 _ c x hc hx
end
theorem flat_takeN {n : Nat} : ∀ {css : List (List Value)} (_ : ∀ c ∈ css, c.length = n) (k : Nat), css.flatten.take (k * n) = (css.take k).flatten
  | [], _, k => by simp
  | c :: css, h, 0 => by simp
  | c :: css, h, k + 1 => by
    have hc := h c (by simp)
    rw [List.take_succ_cons, List.flatten_cons, List.flatten_cons, List.take_append, hc, List.take_of_length_le (by rw [hc, Nat.succ_mul]; omega), show (k + 1) * n - n = k * n by rw [Nat.succ_mul]; omega, flat_takeN (fun z hz => h z (by simp [hz])) k]
theorem flat_dropN {n : Nat} : ∀ {css : List (List Value)} (_ : ∀ c ∈ css, c.length = n) (k : Nat), css.flatten.drop (k * n) = (css.drop k).flatten
  | [], _, k => by simp
  | c :: css, h, 0 => by simp
  | c :: css, h, k + 1 => by
    have hc := h c (by simp)
    rw [List.drop_succ_cons, List.flatten_cons, List.drop_append, hc, List.drop_of_length_le (by rw [hc, Nat.succ_mul]; omega), show (k + 1) * n - n = k * n by rw [Nat.succ_mul]; omega, flat_dropN (fun z hz => h z (by simp [hz])) k, List.nil_append]
theorem flat_lenN {n : Nat} : ∀ {css : List (List Value)} (_ : ∀ c ∈ css, c.length = n), css.flatten.length = css.length * n
  | [], _ => by simp
  | c :: css, h => by rw [List.flatten_cons, List.length_append, h c (by simp), flat_lenN (fun z hz => h z (by simp [hz])), List.length_cons, Nat.succ_mul]; omega
theorem lies_takeN {n : Nat} {w : World} {p : Nat → Prop} {a : Option Addr} {css : List (List Value)} (h : Lies w p a css.flatten) (h3 : ∀ c ∈ css, c.length = n) (k : Nat) : Lies w p a (css.take k).flatten := by
  intro hx
  rw [← flat_takeN h3] at hx ⊢
  have hne : css.flatten ≠ [] := fun e => hx (by rw [e, List.take_nil])
  obtain ⟨b, o, h1, h2, h4, h5⟩ := h hne
  refine ⟨b, o, h1, h2, h4, fun j u hu => ?_⟩
  have hj := (List.getElem?_eq_some_iff.1 hu).1
  rw [List.length_take] at hj
  rw [List.getElem?_take_of_lt (by omega)] at hu
  exact h5 j u hu
theorem lies_dropN {n : Nat} {w : World} {p : Nat → Prop} {b o : Nat} {css : List (List Value)} (h : Lies w p (some ⟨b, o, none⟩) css.flatten) (h3 : ∀ c ∈ css, c.length = n) (k : Nat) : Lies w p (some ⟨b, o + k * n, none⟩) (css.drop k).flatten := by
  intro hx
  rw [← flat_dropN h3] at hx ⊢
  have hne : css.flatten ≠ [] := fun e => hx (by rw [e, List.drop_nil])
  obtain ⟨b', o', h1, h2, h4, h5⟩ := h hne
  simp only [Option.some.injEq, Addr.mk.injEq, and_true] at h1
  obtain ⟨rfl, rfl⟩ := h1
  refine ⟨b, o + k * n, rfl, h2, h4, fun j u hu => ?_⟩
  rw [List.getElem?_drop] at hu
  rw [Nat.add_assoc]
  exact h5 _ u hu
theorem step_app {P : Program} {ops : Array Oper} {o : Oper} {a : Act} {K : Act → World → Prop} {Q : Exit → Act → World → Prop} {E : Prop} {w w' : World} {t : TypeId} {v y r : Value} (hw : Region.wanted o (yielded ops a.tmps) = true) (s x : Operand)
    (ho : o.op = .call { callee := .builtin .append, args := #[s, x], argTypes := #[t, t] }) (hs : a.eval s = v) (hx : a.eval x = y) (hrun : (Builtin.append_ #[t, t] o.type #[v, y]).run P w = .ok r w') (h : K (a.put o.dst r) w') :
    if Region.wanted o (yielded ops a.tmps) = true then Oper.wp P o a w K Q else E := by
  rw [if_pos hw]
  unfold Oper.wp
  simp only [execOp, ho, resolve, invoke, builtin, List.map_toArray, List.map_cons, List.map_nil, hs, hx, hrun, Sem.run_bind, Sem.run_pure, Result.andThen_ok]
  exact h
theorem appF_run {P : Program} {t e sz bytes : Nat} (T : SliceT P t e sz bytes) {w : World} (ty : TypeId) (base : Nat) {v : Value} {n : Nat} {xs : List Value} (hown : w.ownsRow base e sz v n xs)
    {p : Nat → Prop} {ad : Option Addr} {m c : Nat} (news : List Value) (hl : news.length = m * sz) (hlies : Lies w p ad news) (h1 : ∀ u ∈ news, u.oneCell' = true)
    (h63 : n + m ≤ maxLen) (hbytes : (n + m) * bytes ≤ 140737488355328) (hbase : base ≤ w.heap.size) :
    ∃ a' cap' w', (Builtin.append_ #[t, t] ty #[v, .slice ad m c]).run P w = .ok (.slice a' (n + m) cap') w' ∧ w'.ownsRow base e sz (.slice a' (n + m) cap') (n + m) (xs ++ news) ∧ Keep (OwnB v) w w' ∧ (∀ b, OwnB (.slice a' (n + m) cap') b → OwnB v b ∨ w.heap.size ≤ b) := by
  obtain ⟨i, z, hi, hz, hsz, hby, hzs⟩ := T.info
  by_cases hm : m = 0
  · subst hm
    have hn : news = [] := List.eq_nil_of_length_eq_zero (by simpa using hl)
    subst hn
    have hrun : (Builtin.append_ #[t, t] ty #[v, .slice ad 0 c]).run P w = .ok v w := by
      rcases hown.2 with ⟨rfl, rfl⟩ | ⟨g, cap, cur, rfl, _, _, hnc, _⟩
      · cases ad <;> simp [Builtin.append_, run_underlying T.under, sizeOf, typeInfo, hi, Builtin.lenOf, Builtin.firstCells, loadCells, loadCellsFrom]
      · cases ad <;> simp [Builtin.append_, run_underlying T.under, sizeOf, typeInfo, hi, Builtin.lenOf, Builtin.firstCells, loadCells, loadCellsFrom, hnc, storeCells]
    obtain ⟨a', cap', rfl⟩ := owned_shape hown
    exact ⟨a', cap', w, hrun, by simpa using hown, Keep.refl _ _, fun b hb => .inl hb⟩
  · have hne : news ≠ [] := fun e => by subst e; have := Nat.mul_pos (Nat.pos_of_ne_zero hm) T.pos; simp at hl; omega
    obtain ⟨b, off, rfl, hp, hb, hc⟩ := hlies hne
    obtain ⟨v', w', hrun, hown', hg, -, hf⟩ := run_append_own_at (P := P) w base t ty e i z sz bytes T.under hi hz hsz hby hzs T.pos v n xs hown ⟨b, off, none⟩ m c news hl (fun j u hu => by rw [Addr.add_lit]; exact hc j u hu) h1 h63 hbytes hbase
    obtain ⟨a', cap', rfl⟩ := owned_shape hown'
    refine ⟨a', cap', w', hrun, hown', (Keep.refl _ w).grown hg (fun _ hk _ => hk), fun b hb => ?_⟩
    rcases hf with h | h
    · have hb' : (Value.slice a' (n + m) cap').ownBlock = some b := hb
      exact .inl (h.symm.trans hb')
    · right
      have hb' : (Value.slice a' (n + m) cap').ownBlock = some b := hb
      rw [h] at hb'
      simp at hb'
      omega
theorem putT_at {L : List GHeld} {h : GHeld} {k : Nat} (hr : L.Pairwise (fun a b => a.fTxn < b.fTxn)) (hn : findT L h.fTxn = none) (h1 : ∀ i (hi : i < L.length), i < k → L[i].fTxn < h.fTxn) (h2 : ∀ hi : k < L.length, ¬ L[k].fTxn < h.fTxn) :
    putT L h = L.take k ++ h :: L.drop k := by
  have hne : ∀ x ∈ L, x.fTxn ≠ h.fTxn := fun x hx e => by
    have := List.find?_eq_none.1 hn x hx
    simp [e] at this
  have hA : ∀ x ∈ L.take k, x.fTxn < h.fTxn := fun x hx => by
    obtain ⟨i, hi, rfl⟩ := List.mem_iff_getElem.1 hx
    rw [List.length_take] at hi
    rw [List.getElem_take]
    exact h1 i (by omega) (by omega)
  have hB : ∀ x ∈ L.drop k, h.fTxn < x.fTxn := fun x hx => by
    have hx' := List.mem_of_mem_drop hx
    obtain ⟨i, hi, rfl⟩ := List.mem_iff_getElem.1 hx
    rw [List.length_drop] at hi
    rw [List.getElem_drop] at hx' ⊢
    have h3 := h2 (by omega)
    have h4 := hne _ hx'
    by_cases e : i = 0
    · subst e
      simp only [Nat.add_zero] at h4 ⊢
      omega
    · have h5 := List.pairwise_iff_getElem.1 hr k (k + i) (by omega) (by omega) (by omega)
      omega
  have f1 : L.filter (fun x => decide (x.fTxn < h.fTxn)) = L.take k := by
    conv => lhs; rw [← List.take_append_drop k L]
    rw [List.filter_append, List.filter_eq_self.2 (fun x hx => by simpa using hA x hx), List.filter_eq_nil_iff.2 (fun x hx => by have := hB x hx; simp; omega), List.append_nil]
  have f2 : L.filter (fun x => decide (h.fTxn < x.fTxn)) = L.drop k := by
    have fa : (L.take k).filter (fun x => decide (h.fTxn < x.fTxn)) = [] := List.filter_eq_nil_iff.2 (fun x hx => by have := hA x hx; simp; omega)
    have fb : (L.drop k).filter (fun x => decide (h.fTxn < x.fTxn)) = L.drop k := List.filter_eq_self.2 (fun x hx => by simpa using hB x hx)
    conv => lhs; rw [← List.take_append_drop k L]
    rw [List.filter_append, fa, fb, List.nil_append]
  unfold putT
  rw [f1, f2]
theorem may_none {L : List GHeld} {h : GHeld} (e : mayF L h = 0) : findT L h.fTxn = none := by
  unfold mayF at e
  by_cases h0 : h.fTxn = 0
  · rw [if_pos h0] at e; cases e
  · rw [if_neg h0] at e
    cases hf : findT L h.fTxn with
    | none => rfl
    | some x => rw [hf, if_pos (by rfl)] at e; cases e
end Go.Proofs.Ytfagejfcibgigaa
