/- SCHEMA: a row that is one's own, changed in the midst. Printed by mac.py. -/
import Derived.Test.YtibaehlfpgipfaaSchR
import Derived.Test.YtibaehlfpgipfaaSchT
namespace Go.Proofs.Ytibaehlfpgipfaa
open Go.RowKit

theorem cat_facts {w : World} {p : Nat → Prop} {cs : List Value} {c : GCatalog} (h : rGCatalog w p cs c) : cs.length = 4 ∧ isI64 c.fVersion ∧ isI64 c.fNext ∧ c.fTables.length ≤ far ∧ c.fIndexes.length ≤ far := by
  obtain ⟨aT, cT, aX, cX, rfl, h1, h2, h3, h4, -⟩ := rGCatalog_open h
  exact ⟨rfl, h1, h2, (rList_len h3).2.2, (rList_len h4).2.2⟩
theorem own_rowS {w : World} {base e sz n cap : Nat} {a : Option Addr} {xs : List Value} (h : w.ownsRow base e sz (.slice a n cap) n xs) (h0 : 0 < n) : ∃ b rest, a = some ⟨b, 0, none⟩ ∧ base ≤ b ∧ RowIs w b e (xs ++ rest) ∧ (xs ++ rest).length = cap * sz ∧ xs.length = n * sz ∧ n ≤ cap ∧ cap ≤ maxLen := by
  have hx := h.1
  obtain ⟨-, h1, h2⟩ := owned_bounds h
  cases a with
  | none =>
    rcases h.2 with ⟨h3, h4⟩ | ⟨g, cap', cur, h3, _⟩
    · omega
    · cases h3
  | some a =>
    obtain ⟨b, rest, rfl, h3, h4, h5⟩ := RowIs.of_owned h
    exact ⟨b, rest, rfl, h3, h4, h5, hx, h1, h2⟩
theorem row_own {w : World} {base e sz n cap b : Nat} {xs rest : List Value} (h : RowIs w b e (xs ++ rest)) (hb : base ≤ b) (hl : (xs ++ rest).length = cap * sz) (hx : xs.length = n * sz) (hn : n ≤ cap) (hc : cap ≤ maxLen) : w.ownsRow base e sz (.slice (some ⟨b, 0, none⟩) n cap) n xs :=
  ⟨hx, .inr ⟨b, cap, _, rfl, hb, h, hn, hc, by rw [List.size_toArray]; exact hl, by rw [← hx]; simp⟩⟩
theorem flat_set {sz : Nat} : ∀ (css : List (List Value)), (∀ c ∈ css, c.length = sz) → ∀ (i j : Nat) (hi : i < css.length) (_hj : j < sz) (v : Value), css.flatten.set (i * sz + j) v = (css.set i (css[i].set j v)).flatten
  | [], _, i, _, hi, _, _ => by simp at hi
  | d :: css, hl, 0, j, _, hj, v => by
    have hd := hl d (by simp)
    rw [List.flatten_cons, Nat.zero_mul, Nat.zero_add, List.set_append_left _ _ (by omega)]
    simp
  | d :: css, hl, i + 1, j, hi, hj, v => by
    have hd := hl d (by simp)
    have ih := flat_set css (fun c hc => hl c (by simp [hc])) i j (by simpa using hi) hj v
    rw [List.flatten_cons, List.set_append_right _ _ (by rw [hd, Nat.add_mul]; omega), show (i + 1) * sz + j - d.length = i * sz + j by rw [hd, Nat.add_mul]; omega, ih]
    simp
theorem row_set {w : World} {b e sz : Nat} {css : List (List Value)} {rest : List Value} (h : RowIs w b e (css.flatten ++ rest)) (hl : ∀ c ∈ css, c.length = sz) {i j : Nat} (hi : i < css.length) (hj : j < sz) (v : Value) : RowIs (w.setCell ⟨b, i * sz + j, none⟩ v) b e ((css.set i (css[i].set j v)).flatten ++ rest) := by
  have := h.set (i * sz + j) v
  have hlen : i * sz + j < css.flatten.length := by
    have hs : css.flatten.length = css.length * sz := by
      clear h this hi
      induction css with
      | nil => simp
      | cons d css ih => rw [List.flatten_cons, List.length_append, hl d (by simp), ih (fun c hc => hl c (by simp [hc])), List.length_cons, Nat.add_mul]; omega
    have : (i + 1) * sz ≤ css.length * sz := Nat.mul_le_mul_right _ hi
    rw [hs]; rw [Nat.add_mul] at this; omega
  rw [List.set_append_left _ _ hlen, flat_set css hl i j hi hj v] at this
  exact this
theorem row_cell {w : World} {b e sz : Nat} {css : List (List Value)} {rest : List Value} (h : RowIs w b e (css.flatten ++ rest)) (hl : ∀ c ∈ css, c.length = sz) {i : Nat} (hi : i < css.length) {j : Nat} {u : Value} (hu : css[i][j]? = some u) : w.cell? ⟨b, i * sz + j, none⟩ = some u := by
  have := flat_at css hl i css[i] (List.getElem?_eq_getElem hi) j u hu
  rw [h.cell, List.getElem?_append_left (List.getElem?_eq_some_iff.1 this).1]
  exact this
theorem Els.set {α : Type} {R : RD α} {w : World} {p : Nat → Prop} {css : List (List Value)} {xs : List α} (h : Els R w p css xs) {i : Nat} {c : List Value} {x : α} (hc : R w p c x) : Els R w p (css.set i c) (xs.set i x) := by
  refine ⟨by simp [h.1], fun k d y hd hy => ?_⟩
  rw [List.getElem?_set] at hd hy
  by_cases hk : i = k
  · subst hk
    by_cases h1 : i < css.length
    · have h2 : i < xs.length := by rw [← h.1]; exact h1
      simp [h1] at hd
      simp [h2] at hy
      subst hd; subst hy; exact hc
    · simp [h1] at hd
  · rw [if_neg hk] at hd hy
    exact h.2 k d y hd hy
theorem Els.erase {α : Type} {R : RD α} {w : World} {p : Nat → Prop} {css : List (List Value)} {xs : List α} (h : Els R w p css xs) (i : Nat) : Els R w p (css.eraseIdx i) (xs.eraseIdx i) := by
  refine ⟨by rw [List.length_eraseIdx, List.length_eraseIdx, h.1], fun k d y hd hy => ?_⟩
  rw [List.getElem?_eraseIdx] at hd hy
  by_cases hk : k < i
  · rw [if_pos hk] at hd hy; exact h.2 k d y hd hy
  · rw [if_neg hk] at hd hy; exact h.2 (k + 1) d y hd hy
theorem flat_erase {sz : Nat} : ∀ (css : List (List Value)), (∀ c ∈ css, c.length = sz) → ∀ (i : Nat), i < css.length → (css.eraseIdx i).flatten = css.flatten.take (i * sz) ++ css.flatten.drop ((i + 1) * sz)
  | [], _, i, hi => by simp at hi
  | d :: css, hl, 0, _ => by
    have hd := hl d (by simp)
    rw [List.eraseIdx_cons_zero, Nat.zero_mul, List.take_zero, List.nil_append, Nat.zero_add, Nat.one_mul, List.flatten_cons, List.drop_append_of_le_length (by omega), List.drop_of_length_le (by omega), List.nil_append]
  | d :: css, hl, i + 1, hi => by
    have hd := hl d (by simp)
    have ih := flat_erase css (fun c hc => hl c (by simp [hc])) i (by simpa using hi)
    rw [List.eraseIdx_cons_succ, List.flatten_cons, ih, List.flatten_cons, List.take_append, List.drop_append, List.take_of_length_le (l := d) (by rw [hd, Nat.add_mul]; omega), List.drop_of_length_le (l := d) (by rw [hd, Nat.add_mul, Nat.add_mul]; omega), List.nil_append, List.append_assoc,
      show (i + 1) * sz - d.length = i * sz by rw [hd, Nat.add_mul]; omega, show (i + 1 + 1) * sz - d.length = (i + 1) * sz by rw [hd, Nat.add_mul, Nat.add_mul]; omega]
/-- What is handed back: a catalog of one's own, whose indexes were changed. -/
theorem changed_reads {w wz : World} {c d : GCatalog} {aT aX : Option Addr} {cT cX base m : Nat} {cssT cssX : List (List Value)} {q r : Nat → Prop} (hcv : isI64 d.fVersion) (hcn : isI64 d.fNext) (hT : d.fTables = c.fTables) (hs1 : c.fTables.length ≤ 1000) (hs2 : d.fIndexes.length ≤ 1001)
    (ownT : wz.ownsRow base 49 4 (.slice aT c.fTables.length cT) c.fTables.length cssT.flatten) (ownX : wz.ownsRow m 51 7 (.slice aX d.fIndexes.length cX) d.fIndexes.length cssX.flatten)
    (elsT : Els fGTable wz q cssT c.fTables) (elsX : Els fGIndex wz r cssX d.fIndexes) (hq : ∀ b, q b → NewIn w wz b) (hr : ∀ b, r b → NewIn w wz b) (hb : w.heap.size ≤ base) (hm : w.heap.size ≤ m) :
    rGCatalog wz (NewIn w wz) [.int .i64 d.fVersion, .int .i64 d.fNext, .slice aT c.fTables.length cT, .slice aX d.fIndexes.length cX] d := by
  have e : ([.int .i64 d.fVersion, .int .i64 d.fNext, .slice aT c.fTables.length cT, .slice aX d.fIndexes.length cX] : List Value) = [.int .i64 d.fVersion, .int .i64 d.fNext, .slice aT d.fTables.length cT, .slice aX d.fIndexes.length cX] := by rw [hT]
  rw [e]
  refine rGCatalog_mk wz _ (x := d) hcv hcn ?_ ?_
  · rw [hT]
    exact list_owned (R := fGTable) ownT elsT (by unfold far; omega) (fun _ _ h => rGTable_lawful.mono (fGTable_to h) hq) (fun b h1 h2 => ⟨Nat.le_trans hb h1, (ownT.lt b h2).2⟩)
  · exact list_owned (R := fGIndex) ownX elsX (by unfold far; omega) (fun _ _ h => rGIndex_lawful.mono (fGIndex_to h) hr) (fun b h1 h2 => ⟨Nat.le_trans hm h1, (ownX.lt b h2).2⟩)
theorem Els.lens {α : Type} {R : RD α} {sz : Nat} {w : World} {p : Nat → Prop} {css : List (List Value)} {xs : List α} (h : Els R w p css xs) (L : Lawful R sz) : ∀ c ∈ css, c.length = sz := fun c hc => by
  obtain ⟨i, hi, rfl⟩ := List.mem_iff_getElem.1 hc
  have h2 : i < xs.length := by rw [← h.1]; exact hi
  exact L.len (h.2 i css[i] xs[i] (List.getElem?_eq_getElem hi) (List.getElem?_eq_getElem h2))
/-- An index out of its cells. -/
theorem fGIndex_open {w : World} {p : Nat → Prop} {cs : List Value} {x : GIndex} (h : fGIndex w p cs x) : ∃ a cap, cs = [.int .i64 x.fID, .int .i64 x.fTable, .string (strB x.fName), .slice a x.fColumns.length cap, .bool x.fUnique, .int .i64 x.fState, .bool x.fBad] ∧ isI64 x.fID ∧ isI64 x.fTable ∧ isI64 x.fState ∧ rListW (rInt .i64) w p [.slice a x.fColumns.length cap] x.fColumns := by
  obtain ⟨c0, c1, c2, c3, c4, c5, c6, hcs, ⟨rfl, e0⟩, ⟨rfl, e1⟩, ⟨rfl, e2⟩, h3, hb4, ⟨rfl, e5⟩, hb6⟩ := h
  obtain ⟨a, cap, rfl, h3⟩ := rListW_open h3
  cases hb4; cases hb6
  exact ⟨a, cap, hcs, isI64_wf e0, isI64_wf e1, isI64_wf e5, h3⟩
theorem fGIndex_state {w : World} {p : Nat → Prop} {cs : List Value} {x : GIndex} (h : fGIndex w p cs x) {s : Int} (hs : isI64 s) : fGIndex w p (cs.set 5 (.int .i64 s)) { x with fState := s } := by
  obtain ⟨c0, c1, c2, c3, c4, c5, c6, rfl, ⟨rfl, e0⟩, ⟨rfl, e1⟩, ⟨rfl, e2⟩, h3, hb4, ⟨rfl, e5⟩, hb6⟩ := h
  obtain ⟨a, cap, rfl, h3⟩ := rListW_open h3
  cases hb4; cases hb6
  exact ⟨[_], [_], [_], [_], [_], [_], [_], rfl, ⟨rfl, e0⟩, ⟨rfl, e1⟩, ⟨rfl, e2⟩, h3, rfl, ⟨rfl, wf_of_isI64 hs⟩, rfl⟩
theorem fGIndex_bad {w : World} {p : Nat → Prop} {cs : List Value} {x : GIndex} (h : fGIndex w p cs x) (b : Bool) : fGIndex w p (cs.set 6 (.bool b)) { x with fBad := b } := by
  obtain ⟨c0, c1, c2, c3, c4, c5, c6, rfl, ⟨rfl, e0⟩, ⟨rfl, e1⟩, ⟨rfl, e2⟩, h3, hb4, ⟨rfl, e5⟩, hb6⟩ := h
  obtain ⟨a, cap, rfl, h3⟩ := rListW_open h3
  cases hb4; cases hb6
  exact ⟨[_], [_], [_], [_], [_], [_], [_], rfl, ⟨rfl, e0⟩, ⟨rfl, e1⟩, ⟨rfl, e2⟩, h3, rfl, ⟨rfl, e5⟩, rfl⟩
theorem row_set3 {w : World} {b e sz : Nat} {css : List (List Value)} {rest : List Value} (h : RowIs w b e (css.flatten ++ rest)) (hl : ∀ c ∈ css, c.length = sz) {i j : Nat} (hi : i < css.length) (hj : j < sz) (v : Value) : RowIs (w.setCell ⟨b, i * sz + j, none⟩ v) b e ((css.set i (css[i].set j v)).flatten ++ rest) ∧ ((css.set i (css[i].set j v)).flatten ++ rest).length = (css.flatten ++ rest).length ∧ (css.set i (css[i].set j v)).flatten.length = css.flatten.length :=
  ⟨row_set h hl hi hj v, by rw [← flat_set css hl i j hi hj v]; simp, by rw [← flat_set css hl i j hi hj v]; simp⟩
/-- The result's own cell, written last. -/
theorem finish {w wb : World} {nX : Nat} {ver nx : Int} {rb base m : Nat} {zs : List Value} {c d : GCatalog} {aT aX : Option Addr} {cT cX : Nat} {cssT cssX : List (List Value)} {q r : Nat → Prop} (hver : d.fVersion = ver) (hnx : d.fNext = nx) (hnX : d.fIndexes.length = nX) (rowR : RowIs wb rb 34 zs) (hz : zs.length = 4) (hw : w.heap.size ≤ rb) (hbT : rb < base) (hbX : rb < m)
    (hcv : isI64 d.fVersion) (hcn : isI64 d.fNext) (hT : d.fTables = c.fTables) (hs1 : c.fTables.length ≤ 1000) (hs2 : d.fIndexes.length ≤ 1001)
    (ownT : wb.ownsRow base 49 4 (.slice aT c.fTables.length cT) c.fTables.length cssT.flatten) (ownX : wb.ownsRow m 51 7 (.slice aX nX cX) nX cssX.flatten)
    (elsT : Els fGTable wb q cssT c.fTables) (elsX : Els fGIndex wb r cssX d.fIndexes) (hq : ∀ b, q b → rb < b ∧ b < wb.heap.size) (hr : ∀ b, r b → rb < b ∧ b < wb.heap.size) (kk : Keep Nix w wb) :
    (storeSem 34 (.pointer (some ⟨rb, 0, none⟩)) (.agg #[.int .i64 ver, .int .i64 nx, .slice aT c.fTables.length cT, .slice aX nX cX])).run Try.prog wb = .ok .skip (wb.setRow rb #[.int .i64 ver, .int .i64 nx, .slice aT c.fTables.length cT, .slice aX nX cX]) ∧
    RowIs (wb.setRow rb #[.int .i64 ver, .int .i64 nx, .slice aT c.fTables.length cT, .slice aX nX cX]) rb 34 [.int .i64 ver, .int .i64 nx, .slice aT c.fTables.length cT, .slice aX nX cX] ∧
    Hid (rGCatalog (wb.setRow rb #[.int .i64 ver, .int .i64 nx, .slice aT c.fTables.length cT, .slice aX nX cX]) (NewIn w (wb.setRow rb #[.int .i64 ver, .int .i64 nx, .slice aT c.fTables.length cT, .slice aX nX cX])) [.int .i64 ver, .int .i64 nx, .slice aT c.fTables.length cT, .slice aX nX cX] d) ∧
    Hid (Keep Nix w (wb.setRow rb #[.int .i64 ver, .int .i64 nx, .slice aT c.fTables.length cT, .slice aX nX cX])) := by
  subst hver hnx hnX
  have k9 : Keep (· = rb) wb (wb.setRow rb ([.int .i64 d.fVersion, .int .i64 d.fNext, .slice aT c.fTables.length cT, .slice aX d.fIndexes.length cX] : List Value).toArray) := (Keep.refl (· = rb) wb).setRow (fun _ => rfl) _
  have hsz := size_setRow wb rb ([.int .i64 d.fVersion, .int .i64 d.fNext, .slice aT c.fTables.length cT, .slice aX d.fIndexes.length cX] : List Value).toArray
  have hgT : ∀ b, OwnB (.slice aT c.fTables.length cT) b → base ≤ b := fun b hb => (ownT.lt b hb).1
  have hgX : ∀ b, OwnB (.slice aX d.fIndexes.length cX) b → m ≤ b := fun b hb => (ownX.lt b hb).1
  refine ⟨store_run (cs := [.int .i64 d.fVersion, .int .i64 d.fNext, .slice aT c.fTables.length cT, .slice aX d.fIndexes.length cX]) S_Catalog rowR hz rfl rfl, rowR.setRow [.int .i64 d.fVersion, .int .i64 d.fNext, .slice aT c.fTables.length cT, .slice aX d.fIndexes.length cX], ?_, kk.then k9 (fun i hi e => by omega)⟩
  exact changed_reads (base := base) (m := m) hcv hcn hT hs1 hs2 (owned_keep ownT k9 (fun b hb e => by have := hgT b hb; omega)) (owned_keep ownX k9 (fun b hb e => by have := hgX b hb; omega)) (elsT.keep fGTable_lawful k9 (fun b hb e => by have := (hq b hb).1; omega)) (elsX.keep fGIndex_lawful k9 (fun b hb e => by have := (hr b hb).1; omega))
    (fun b hb => ⟨by have := (hq b hb).1; omega, by have := (hq b hb).2; exact Nat.lt_of_lt_of_le this k9.size⟩) (fun b hb => ⟨by have := (hr b hb).1; omega, by have := (hr b hb).2; exact Nat.lt_of_lt_of_le this k9.size⟩) (by omega) (by omega)
end Go.Proofs.Ytibaehlfpgipfaa
