/- ROWS: copies of elements of any size, rows known whole. Printed by genIns.py and mac.py. -/
import Derived.Test.YtfagejfcibgigaaQLst
import Derived.Lib.AppendZerosOnto
import Derived.Lib.Overlaps
import Derived.Laws.CopyRow
import Derived.Deep.RegionLaw
import Derived.Laws.Externs
import Derived.Maps.AppendAt
namespace Go.Proofs.Ytfagejfcibgigaa
open Go.RowKit

theorem own_row {w : World} {base e sz n cap : Nat} {a : Option Addr} {xs : List Value} (h : w.ownsRow base e sz (.slice a n cap) n xs) (h0 : 0 < n) : ∃ b rest, a = some ⟨b, 0, none⟩ ∧ base ≤ b ∧ RowIs w b e (xs ++ rest) ∧ (xs ++ rest).length = cap * sz ∧ xs.length = n * sz ∧ n ≤ cap ∧ cap ≤ maxLen := by
  have hx := h.1
  obtain ⟨-, h1, h2⟩ := owned_bounds h
  cases a with
  | none =>
    rcases h.2 with ⟨h3, h4⟩ | ⟨g, cap', cur, h3, _⟩
    · omega
    · cases h3
  | some a =>
    obtain ⟨b, rest, rfl, h3, h4, h5⟩ := RowIs.of_owned h
    exact ⟨b, rest, rfl, h3, h4, h5, hx, h1, h2⟩
/-- 'copy(d, s)' over elements of any size, into a row that is known whole. -/
theorem run_copy_sz {P : Program} (w : World) (dT sT ty elem : TypeId) (sz g o dLen dCap : Nat) (a : Addr) (sLen sCap m : Nat) (cur : List Value) (t : TypeId) (cs : List Value)
    (hu : P.underlying dT = some (.slice elem)) (hs : (P.info? elem).map (·.size) = some sz) (hg : RowIs w g t cur) (hm : m = Nat.min sLen dLen) (hn : cs.length = m * sz)
    (hsrc : ∀ j v, cs[j]? = some v → w.cell? (a.add j) = some v) (hfit : o + cs.length ≤ cur.length) (h1 : ∀ v ∈ cs, v.oneCell' = true) :
    (Builtin.copy_ #[dT, sT] ty #[.slice (some ⟨g, o, none⟩) dLen dCap, .slice (some a) sLen sCap]).run P w = .ok (goInt m) (w.setRow g (cur.take o ++ cs ++ cur.drop (o + cs.length)).toArray) := by
  have hl := run_loadCells_list (P := P) w a cs hsrc
  have hst := run_storeCells_at P g o t cs 0 cur.toArray w hg (by simpa using hfit) h1
  cases hq : P.info? elem with
  | none => simp [hq] at hs
  | some i =>
    have hi : i.size = sz := by simpa [hq] using hs
    simp [Builtin.copy_, run_underlying hu, Builtin.lenOf, Builtin.firstCells, sizeOf, typeInfo, hq, hi, ← hm, ← hn, hl, hst]
theorem wpl_copy_run {P : Program} (w : World) {ops : Array Oper} {rest : List Oper} {o : Oper} {a : Act} {Q : Exit → Act → World → Prop} (hgd : o.guard = none) (d s : Operand) (t t' : TypeId)
    (ho : o.op = .call { callee := .builtin .copy, args := #[d, s], argTypes := #[t, t'] }) (v u : Value) (hd : a.eval d = v) (hs : a.eval s = u) {v' : Value} {w' : World}
    (hr : (Builtin.copy_ #[t, t'] o.type #[v, u]).run P w = .ok v' w') (h : wpList P ops Q rest (a.put o.dst v') w') : wpList P ops Q (o :: rest) a w := by
  refine wpList_plain hgd fun K hK => ?_
  unfold Oper.wp
  simp only [execOp, ho, resolve, invoke, builtin, List.map_toArray, List.map_cons, List.map_nil, hd, hs, hr, Sem.run_bind, Sem.run_pure, Result.andThen_ok]
  exact hK _ _ h
theorem step_copy_run {P : Program} {ops : Array Oper} {o : Oper} {a : Act} {w : World} {K : Act → World → Prop} {Q : Exit → Act → World → Prop} {E : Prop} (hg : o.guard = none) (d x : Operand) (dT sT : TypeId)
    (hop : o.op = Op.call { callee := Callee.builtin Builtin.copy, args := #[d, x], argTypes := #[dT, sT] }) (v u : Value) (hd : a.eval d = v) (hx : a.eval x = u) {v' : Value} {w' : World}
    (hr : (Builtin.copy_ #[dT, sT] o.type #[v, u]).run P w = .ok v' w') (hK : K (a.put o.dst v') w') : if Region.wanted o (yielded ops a.tmps) = true then Oper.wp P o a w K Q else E := by
  rw [if_pos (by simp [Region.wanted, hg])]
  unfold Oper.wp
  simp only [execOp, hop, resolve, invoke, builtin, List.map_toArray, List.map_cons, List.map_nil, hd, hx, hr, Sem.run_bind, Sem.run_pure, Result.andThen_ok]
  exact hK
theorem RowIs.shape {w : World} {b : Nat} {e : TypeId} {cs : List Value} (h : RowIs w b e cs) : w.shape? b = some (e, cs.length) := by
  unfold World.shape?
  rw [h]
  simp
theorem RowIs.setRow' {w : World} {g : Nat} {e : TypeId} {cs ds : List Value} (h : RowIs w g e cs) : RowIs (w.setRow g ds.toArray) g e ds := h.setRow ds
theorem room_list {A B R xc : List Value} {a s : Nat} (hA : A.length = a) (hR : s ≤ R.length) (hx : xc.length = s) :
    (((A ++ B ++ R).take (a + s) ++ B ++ (A ++ B ++ R).drop (a + s + B.length)).take a ++ xc ++ ((A ++ B ++ R).take (a + s) ++ B ++ (A ++ B ++ R).drop (a + s + B.length)).drop (a + xc.length)) = A ++ xc ++ B ++ R.drop s := by
  have hl : ((A ++ B ++ R).take (a + s)).length = a + s := by rw [List.length_take, List.length_append, List.length_append]; omega
  have e1 : (A ++ B ++ R).drop (a + s + B.length) = R.drop s := by
    have : a + s + B.length = (A ++ B).length + s := by rw [List.length_append]; omega
    rw [this, List.drop_append]; simp
  rw [e1, hx, List.append_assoc ((A ++ B ++ R).take (a + s)), List.take_append_of_le_length (by omega), List.take_take, Nat.min_eq_left (by omega), List.drop_left' hl, List.append_assoc A B R, List.take_left' hA]
  simp [List.append_assoc]
theorem grow_list {A B Z xc : List Value} {a s : Nat} (hA : A.length = a) (_hZ : s + B.length ≤ Z.length) (hx : xc.length = s) :
    ((((A ++ Z).take a ++ xc ++ (A ++ Z).drop (a + xc.length)).take (a + s)) ++ B ++ ((A ++ Z).take a ++ xc ++ (A ++ Z).drop (a + xc.length)).drop (a + s + B.length)) = A ++ xc ++ B ++ Z.drop (s + B.length) := by
  have e1 : (A ++ Z).drop (a + xc.length) = Z.drop s := by rw [hx, ← hA, List.drop_append]; simp
  have e0 : (A ++ Z).take a = A := List.take_left' hA
  have hl : (A ++ xc).length = a + s := by rw [List.length_append]; omega
  rw [e1, e0, List.take_left' hl]
  have e2 : a + s + B.length = (A ++ xc).length + B.length := by omega
  rw [e2, List.drop_append, List.drop_eq_nil_of_le (by omega)]
  simp [List.drop_drop]
theorem row_own {w : World} {base e sz n cap b : Nat} {xs rest : List Value} (h : RowIs w b e (xs ++ rest)) (hb : base ≤ b) (hl : (xs ++ rest).length = cap * sz) (hx : xs.length = n * sz) (hn : n ≤ cap) (hc : cap ≤ maxLen) : w.ownsRow base e sz (.slice (some ⟨b, 0, none⟩) n cap) n xs :=
  ⟨hx, .inr ⟨b, cap, _, rfl, hb, h, hn, hc, by rw [List.size_toArray]; exact hl, by rw [← hx]; simp⟩⟩
/-- One element was laid in. -/
def InsR (e sz : Nat) (w : World) (base : Nat) (v : Value) (n : Nat) (ys : List Value) (en : Ending) (w' : World) : Prop := ∃ v', en = .returned v' ∧ w'.ownsRow base e sz v' (n + 1) ys ∧ (∀ b, OwnB v' b → OwnB v b ∨ w.heap.size ≤ b) ∧ Keep (OwnB v) w w'
end Go.Proofs.Ytfagejfcibgigaa
