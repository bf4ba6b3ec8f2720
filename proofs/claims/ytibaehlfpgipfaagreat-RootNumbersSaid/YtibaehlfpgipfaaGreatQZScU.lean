/- SCHEMA: a row that is one's own, changed in the midst. Printed by mac.py. -/
import Derived.Test.YtibaehlfpgipfaaGreatQZSchR
import Derived.Test.YtibaehlfpgipfaaGreatQZSchT
namespace Go.Proofs.YtibaehlfpgipfaaGreat
open Go.RowKit
theorem cat_facts {w : World} {p : Nat → Prop} {cs : List Value} {c : GCatalog} (h : rGCatalog w p cs c) : cs.length = 4 ∧ isI64 c.fVersion ∧ isI64 c.fNext ∧ c.fTables.length ≤ far ∧ c.fIndexes.length ≤ far := by
 obtain ⟨aT, cT, aX, cX, rfl, h1, h2, h3, h4, -⟩ := rGCatalog_open h
 exact ⟨rfl, h1, h2, (rList_len h3).2.2, (rList_len h4).2.2⟩
theorem own_rowS {w : World} {base e sz n cap : Nat} {a : Option Addr} {xs : List Value} (h : w.ownsRow base e sz (.slice a n cap) n xs) (h0 : 0 < n) : ∃ b rest, a = some ⟨b, 0, none⟩ ∧ base ≤ b ∧ RowIs w b e (xs ++ rest) ∧ (xs ++ rest).length = cap * sz ∧ xs.length = n * sz ∧ n ≤ cap ∧ cap ≤ maxLen := by
 have hx := h.1
 obtain ⟨-, h1, h2⟩ := owned_bounds h
 cases a with
 | none =>
  rcases h.2 with ⟨h3, h4⟩ | ⟨g, cap', cur, h3, _⟩
  ·omega
  ·cases h3
 | some a =>
  obtain ⟨b, rest, rfl, h3, h4, h5⟩ := RowIs.of_owned h
  exact ⟨b, rest, rfl, h3, h4, h5, hx, h1, h2⟩
theorem row_own {w : World} {base e sz n cap b : Nat} {xs rest : List Value} (h : RowIs w b e (xs ++ rest)) (hb : base ≤ b) (hl : (xs ++ rest).length = cap * sz) (hx : xs.length = n * sz) (hn : n ≤ cap) (hc : cap ≤ maxLen) : w.ownsRow base e sz (.slice (some ⟨b, 0, none⟩) n cap) n xs :=
 ⟨hx, .inr ⟨b, cap, _, rfl, hb, h, hn, hc, by rw [List.size_toArray]; exact hl, by rw [← hx]; simp⟩⟩
theorem flat_set {sz : Nat} : ∀ (css : List (List Value)), (∀ c ∈ css, c.length = sz) → ∀ (i j : Nat) (hi : i < css.length) (_hj : j < sz) (v : Value), css.flatten.set (i * sz + j) v = (css.set i (css[i].set j v)).flatten
 | [], _, i, _, hi, _, _ => by simp at hi
 | d :: css, hl, 0, j, _, hj, v => by
  have hd := hl d (by simp)
  rw [List.flatten_cons, Nat.zero_mul, Nat.zero_add, List.set_append_left _ _ (by omega)]
  simp
 | d :: css, hl, i + 1, j, hi, hj, v => by
  have hd := hl d (by simp)
  have ih := flat_set css (fun c hc => hl c (by simp [hc])) i j (by simpa using hi) hj v
  rw [List.flatten_cons, List.set_append_right _ _ (by rw [hd, Nat.add_mul]; omega), show (i + 1) * sz + j - d.length = i * sz + j by rw [hd, Nat.add_mul]; omega, ih]
  simp
theorem row_set {w : World} {b e sz : Nat} {css : List (List Value)} {rest : List Value} (h : RowIs w b e (css.flatten ++ rest)) (hl : ∀ c ∈ css, c.length = sz) {i j : Nat} (hi : i < css.length) (hj : j < sz) (v : Value) : RowIs (w.setCell ⟨b, i * sz + j, none⟩ v) b e ((css.set i (css[i].set j v)).flatten ++ rest) := by
 have := h.set (i * sz + j) v
 have hlen : i * sz + j < css.flatten.length := by
  have hs : css.flatten.length = css.length * sz := by
   clear h this hi
   induction css with
   | nil => simp
   | cons d css ih => rw [List.flatten_cons, List.length_append, hl d (by simp), ih (fun c hc => hl c (by simp [hc])), List.length_cons, Nat.add_mul]; omega
  have : (i + 1) * sz ≤ css.length * sz := Nat.mul_le_mul_right _ hi
  rw [hs]; rw [Nat.add_mul] at this; omega
 rw [List.set_append_left _ _ hlen, flat_set css hl i j hi hj v] at this
 exact this
theorem row_cell {w : World} {b e sz : Nat} {css : List (List Value)} {rest : List Value} (h : RowIs w b e (css.flatten ++ rest)) (hl : ∀ c ∈ css, c.length = sz) {i : Nat} (hi : i < css.length) {j : Nat} {u : Value} (hu : css[i][j]? = some u) : w.cell? ⟨b, i * sz + j, none⟩ = some u := by
 have := flat_at css hl i css[i] (List.getElem?_eq_getElem hi) j u hu
 rw [h.cell, List.getElem?_append_left (List.getElem?_eq_some_iff.1 this).1]
 exact this
theorem Els.set {α : Type} {R : RD α} {w : World} {p : Nat → Prop} {css : List (List Value)} {xs : List α} (h : Els R w p css xs) {i : Nat} {c : List Value} {x : α} (hc : R w p c x) : Els R w p (css.set i c) (xs.set i x) := by
 refine ⟨by simp [h.1], fun k d y hd hy => ?_⟩
 rw [List.getElem?_set] at hd hy
 by_cases hk : i = k
 ·subst hk
  by_cases h1 : i < css.length
  ·have h2 : i < xs.length := by rw [← h.1]; exact h1
   simp [h1] at hd
   simp [h2] at hy
   subst hd; subst hy; exact hc
  ·simp [h1] at hd
 ·rw [if_neg hk] at hd hy
  exact h.2 k d y hd hy
theorem Els.erase {α : Type} {R : RD α} {w : World} {p : Nat → Prop} {css : List (List Value)} {xs : List α} (h : Els R w p css xs) (i : Nat) : Els R w p (css.eraseIdx i) (xs.eraseIdx i) := by
 refine ⟨by rw [List.length_eraseIdx, List.length_eraseIdx, h.1], fun k d y hd hy => ?_⟩
 rw [List.getElem?_eraseIdx] at hd hy
 by_cases hk : k < i
 ·rw [if_pos hk] at hd hy; exact h.2 k d y hd hy
 ·rw [if_neg hk] at hd hy; exact h.2 (k + 1) d y hd hy
theorem flat_erase {sz : Nat} : ∀ (css : List (List Value)), (∀ c ∈ css, c.length = sz) → ∀ (i : Nat), i < css.length → (css.eraseIdx i).flatten = css.flatten.take (i * sz) ++ css.flatten.drop ((i + 1) * sz)
 | [], _, i, hi => by simp at hi
 | d :: css, hl, 0, _ => by
  have hd := hl d (by simp)
  rw [List.eraseIdx_cons_zero, Nat.zero_mul, List.take_zero, List.nil_append, Nat.zero_add, Nat.one_mul, List.flatten_cons, List.drop_append_of_le_length (by omega), List.drop_of_length_le (by omega), List.nil_append]
 | d :: css, hl, i + 1, hi => by
  have hd := hl d (by simp)
  have ih := flat_erase css (fun c hc => hl c (by simp [hc])) i (by simpa using hi)
  rw [List.eraseIdx_cons_succ, List.flatten_cons, ih, List.flatten_cons, List.take_append, List.drop_append, List.take_of_length_le (l := d) (by rw [hd, Nat.add_mul]; omega), List.drop_of_length_le (l := d) (by rw [hd, Nat.add_mul, Nat.add_mul]; omega), List.nil_append, List.append_assoc,
   show (i + 1) * sz - d.length = i * sz by rw [hd, Nat.add_mul]; omega, show (i + 1 + 1) * sz - d.length = (i + 1) * sz by rw [hd, Nat.add_mul, Nat.add_mul]; omega]
theorem changed_reads {w wz : World} {c d : GCatalog} {aT aX : Option Addr} {cT cX base m : Nat} {cssT cssX : List (List Value)} {q r : Nat → Prop} (hcv : isI64 d.fVersion) (hcn : isI64 d.fNext) (hT : d.fTables = c.fTables) (hs1 : c.fTables.length ≤ 1000) (hs2 : d.fIndexes.length ≤ 1001)
  (ownT : wz.ownsRow base 39 4 (.slice aT c.fTables.length cT) c.fTables.length cssT.flatten) (ownX : wz.ownsRow m 41 7 (.slice aX d.fIndexes.length cX) d.fIndexes.length cssX.flatten)
  (elsT : Els fGTable wz q cssT c.fTables) (elsX : Els fGIndex wz r cssX d.fIndexes) (hq : ∀ b, q b → NewIn w wz b) (hr : ∀ b, r b → NewIn w wz b) (hb : w.heap.size ≤ base) (hm : w.heap.size ≤ m) :
  rGCatalog wz (NewIn w wz) [.int .i64 d.fVersion, .int .i64 d.fNext, .slice aT c.fTables.length cT, .slice aX d.fIndexes.length cX] d := by
 have e : ([.int .i64 d.fVersion, .int .i64 d.fNext, .slice aT c.fTables.length cT, .slice aX d.fIndexes.length cX] : List Value) = [.int .i64 d.fVersion, .int .i64 d.fNext, .slice aT d.fTables.length cT, .slice aX d.fIndexes.length cX] := by rw [hT]
 rw [e]
 refine rGCatalog_mk wz _ (x := d) hcv hcn ?_ ?_
 ·rw [hT]
  exact list_owned (R := fGTable) ownT elsT (by unfold far; omega) (fun _ _ h => rGTable_lawful.mono (fGTable_to h) hq) (fun b h1 h2 => ⟨Nat.le_trans hb h1, (ownT.lt b h2).2⟩)
 ·exact list_owned (R := fGIndex) ownX elsX (by unfold far; omega) (fun _ _ h => rGIndex_lawful.mono (fGIndex_to h) hr) (fun b h1 h2 => ⟨Nat.le_trans hm h1, (ownX.lt b h2).2⟩)
theorem Els.lens {α : Type} {R : RD α} {sz : Nat} {w : World} {p : Nat → Prop} {css : List (List Value)} {xs : List α} (h : Els R w p css xs) (L : Lawful R sz) : ∀ c ∈ css, c.length = sz := fun c hc => by
 obtain ⟨i, hi, rfl⟩ := List.mem_iff_getElem.1 hc
 have h2 : i < xs.length := by rw [← h.1]; exact hi
 exact L.len (h.2 i css[i] xs[i] (List.getElem?_eq_getElem hi) (List.getElem?_eq_getElem h2))
theorem fGIndex_open {w : World} {p : Nat → Prop} {cs : List Value} {x : GIndex} (h : fGIndex w p cs x) : ∃ a cap, cs = [.int .i64 x.fID, .int .i64 x.fTable, .string (strB x.fName), .slice a x.fColumns.length cap, .bool x.fUnique, .int .i64 x.fState, .bool x.fBad] ∧ isI64 x.fID ∧ isI64 x.fTable ∧ isI64 x.fState ∧ rListW (rInt .i64) w p [.slice a x.fColumns.length cap] x.fColumns := by
 obtain ⟨c0, c1, c2, c3, c4, c5, c6, hcs, ⟨rfl, e0⟩, ⟨rfl, e1⟩, ⟨rfl, e2⟩, h3, hb4, ⟨rfl, e5⟩, hb6⟩ := h
 obtain ⟨a, cap, rfl, h3⟩ := rListW_open h3
 cases hb4; cases hb6
 exact ⟨a, cap, hcs, isI64_wf e0, isI64_wf e1, isI64_wf e5, h3⟩
theorem fGIndex_state {w : World} {p : Nat → Prop} {cs : List Value} {x : GIndex} (h : fGIndex w p cs x) {s : Int} (hs : isI64 s) : fGIndex w p (cs.set 5 (.int .i64 s)) { x with fState := s } := by
 obtain ⟨c0, c1, c2, c3, c4, c5, c6, rfl, ⟨rfl, e0⟩, ⟨rfl, e1⟩, ⟨rfl, e2⟩, h3, hb4, ⟨rfl, e5⟩, hb6⟩ := h
 obtain ⟨a, cap, rfl, h3⟩ := rListW_open h3
 cases hb4; cases hb6
 exact ⟨[_], [_], [_], [_], [_], [_], [_], rfl, ⟨rfl, e0⟩, ⟨rfl, e1⟩, ⟨rfl, e2⟩, h3, rfl, ⟨rfl, wf_of_isI64 hs⟩, rfl⟩
theorem fGIndex_bad {w : World} {p : Nat → Prop} {cs : List Value} {x : GIndex} (h : fGIndex w p cs x) (b : Bool) : fGIndex w p (cs.set 6 (.bool b)) { x with fBad := b } := by
 obtain ⟨c0, c1, c2, c3, c4, c5, c6, rfl, ⟨rfl, e0⟩, ⟨rfl, e1⟩, ⟨rfl, e2⟩, h3, hb4, ⟨rfl, e5⟩, hb6⟩ := h
 obtain ⟨a, cap, rfl, h3⟩ := rListW_open h3
 cases hb4; cases hb6
 exact ⟨[_], [_], [_], [_], [_], [_], [_], rfl, ⟨rfl, e0⟩, ⟨rfl, e1⟩, ⟨rfl, e2⟩, h3, rfl, ⟨rfl, e5⟩, rfl⟩
theorem row_set3 {w : World} {b e sz : Nat} {css : List (List Value)} {rest : List Value} (h : RowIs w b e (css.flatten ++ rest)) (hl : ∀ c ∈ css, c.length = sz) {i j : Nat} (hi : i < css.length) (hj : j < sz) (v : Value) : RowIs (w.setCell ⟨b, i * sz + j, none⟩ v) b e ((css.set i (css[i].set j v)).flatten ++ rest) ∧ ((css.set i (css[i].set j v)).flatten ++ rest).length = (css.flatten ++ rest).length ∧ (css.set i (css[i].set j v)).flatten.length = css.flatten.length :=
 ⟨row_set h hl hi hj v, by rw [← flat_set css hl i j hi hj v]; simp, by rw [← flat_set css hl i j hi hj v]; simp⟩
theorem finish {w wb : World} {nX : Nat} {ver nx : Int} {rb base m : Nat} {zs : List Value} {c d : GCatalog} {aT aX : Option Addr} {cT cX : Nat} {cssT cssX : List (List Value)} {q r : Nat → Prop} (hver : d.fVersion = ver) (hnx : d.fNext = nx) (hnX : d.fIndexes.length = nX) (rowR : RowIs wb rb 50 zs) (hz : zs.length = 4) (hw : w.heap.size ≤ rb) (hbT : rb < base) (hbX : rb < m)
  (hcv : isI64 d.fVersion) (hcn : isI64 d.fNext) (hT : d.fTables = c.fTables) (hs1 : c.fTables.length ≤ 1000) (hs2 : d.fIndexes.length ≤ 1001)
  (ownT : wb.ownsRow base 39 4 (.slice aT c.fTables.length cT) c.fTables.length cssT.flatten) (ownX : wb.ownsRow m 41 7 (.slice aX nX cX) nX cssX.flatten)
  (elsT : Els fGTable wb q cssT c.fTables) (elsX : Els fGIndex wb r cssX d.fIndexes) (hq : ∀ b, q b → rb < b ∧ b < wb.heap.size) (hr : ∀ b, r b → rb < b ∧ b < wb.heap.size) (kk : Keep Nix w wb) :
  (storeSem 50 (.pointer (some ⟨rb, 0, none⟩)) (.agg #[.int .i64 ver, .int .i64 nx, .slice aT c.fTables.length cT, .slice aX nX cX])).run Tryz.prog wb = .ok .skip (wb.setRow rb #[.int .i64 ver, .int .i64 nx, .slice aT c.fTables.length cT, .slice aX nX cX]) ∧
  RowIs (wb.setRow rb #[.int .i64 ver, .int .i64 nx, .slice aT c.fTables.length cT, .slice aX nX cX]) rb 50 [.int .i64 ver, .int .i64 nx, .slice aT c.fTables.length cT, .slice aX nX cX] ∧
  Hid (rGCatalog (wb.setRow rb #[.int .i64 ver, .int .i64 nx, .slice aT c.fTables.length cT, .slice aX nX cX]) (NewIn w (wb.setRow rb #[.int .i64 ver, .int .i64 nx, .slice aT c.fTables.length cT, .slice aX nX cX])) [.int .i64 ver, .int .i64 nx, .slice aT c.fTables.length cT, .slice aX nX cX] d) ∧
  Hid (Keep Nix w (wb.setRow rb #[.int .i64 ver, .int .i64 nx, .slice aT c.fTables.length cT, .slice aX nX cX])) := by
 subst hver hnx hnX
 have k9 : Keep (· = rb) wb (wb.setRow rb ([.int .i64 d.fVersion, .int .i64 d.fNext, .slice aT c.fTables.length cT, .slice aX d.fIndexes.length cX] : List Value).toArray) := (Keep.refl (· = rb) wb).setRow (fun _ => rfl) _
 have hsz := size_setRow wb rb ([.int .i64 d.fVersion, .int .i64 d.fNext, .slice aT c.fTables.length cT, .slice aX d.fIndexes.length cX] : List Value).toArray
 have hgT : ∀ b, OwnB (.slice aT c.fTables.length cT) b → base ≤ b := fun b hb => (ownT.lt b hb).1
 have hgX : ∀ b, OwnB (.slice aX d.fIndexes.length cX) b → m ≤ b := fun b hb => (ownX.lt b hb).1
 refine ⟨store_run (cs := [.int .i64 d.fVersion, .int .i64 d.fNext, .slice aT c.fTables.length cT, .slice aX d.fIndexes.length cX]) S_Catalog rowR hz rfl rfl, rowR.setRow [.int .i64 d.fVersion, .int .i64 d.fNext, .slice aT c.fTables.length cT, .slice aX d.fIndexes.length cX], ?_, kk.then k9 (fun i hi e => by omega)⟩
 exact changed_reads (base := base) (m := m) hcv hcn hT hs1 hs2 (owned_keep ownT k9 (fun b hb e => by have := hgT b hb; omega)) (owned_keep ownX k9 (fun b hb e => by have := hgX b hb; omega)) (elsT.keep fGTable_lawful k9 (fun b hb e => by have := (hq b hb).1; omega)) (elsX.keep fGIndex_lawful k9 (fun b hb e => by have := (hr b hb).1; omega))
  (fun b hb => ⟨by have := (hq b hb).1; omega, by have := (hq b hb).2; exact Nat.lt_of_lt_of_le this k9.size⟩) (fun b hb => ⟨by have := (hr b hb).1; omega, by have := (hr b hb).2; exact Nat.lt_of_lt_of_le this k9.size⟩) (by omega) (by omega)
end Go.Proofs.YtibaehlfpgipfaaGreat
namespace Go.Proofs.YtibaehlfpgipfaaGreat
open Go.RowKit
def setAt (c : GCatalog) (k : Nat) (x : GIndex) : GCatalog := { c with fVersion := c.fVersion + 1, fIndexes := c.fIndexes.set k x }
def cutAt (c : GCatalog) (k : Nat) : GCatalog := { c with fVersion := c.fVersion + 1, fIndexes := c.fIndexes.eraseIdx k }
def dropAt (c : GCatalog) (k : Nat) (x : GIndex) : GCatalog × Int :=
 if x.fState = 4 then (setAt c k { x with fState := 5 }, 0) else if 1 ≤ x.fState ∧ x.fState < 4 then (setAt c k { x with fState := 6 }, 0) else (c, 7)
def atI {α β : Type} (i : Int) (l : List α) (z : β) (f : Nat → α → β) : β := if i < 0 then z else match l[i.toNat]? with
 | none => z
 | some x => f i.toNat x
theorem atI_neg {α β : Type} {l : List α} {z : β} {f : Nat → α → β} : atI (-1) l z f = z := by unfold atI; rw [if_pos (by decide)]
theorem atI_nat {α β : Type} {l : List α} {z : β} {f : Nat → α → β} {k : Nat} (h : k < l.length) : atI (k : Int) l z f = f k l[k] := by
 unfold atI; rw [if_neg (by omega), Int.toNat_natCast, List.getElem?_eq_getElem h]
def dropF (c : GCatalog) (nm : List UInt8) : GCatalog × Int := atI (findB (fun x => decide (x.fName = nm)) c.fIndexes) c.fIndexes (c, 5) (dropAt c)
section
attribute [local go_sem ↓] ldz_Catalog stz_Catalog ldz_Index stz_Index
set_option maxRecDepth 100000 in
set_option maxHeartbeats 16000000 in
theorem sDrop_c {p : Nat → Prop} (c : GCatalog) (csc : List Value) (nm : List UInt8) (w : World) (hc : rGCatalog w p csc c) (hs : smallC c) (hv : c.fVersion ≤ 4611686018427387904) :
  Calls Tryz.prog 65 #[.agg csc.toArray, .string (strB nm)] w (Took rGCatalog w (dropF c nm)) := by
 obtain ⟨hlc, hcv, hcn, nT, nX⟩ := cat_facts hc
 have row0 : RowIs ((w.alloc (.cells csc.toArray 50)).alloc (.cells #[.int .i64 0, .int .i64 0, .slice none 0 0, .slice none 0 0] 50)) w.heap.size 50 csc := by have := (RowIs.alloc w csc.toArray 50).keep ((Keep.refl Nix _).alloc (.cells #[.int .i64 0, .int .i64 0, .slice none 0 0, .slice none 0 0] 50)) id; simpa using this
 have rowR : RowIs ((w.alloc (.cells csc.toArray 50)).alloc (.cells #[.int .i64 0, .int .i64 0, .slice none 0 0, .slice none 0 0] 50)) (w.heap.size + 1) 50 [.int .i64 0, .int .i64 0, .slice none 0 0, .slice none 0 0] := RowIs.alloc_at (w.alloc (.cells csc.toArray 50)) _ (by simp) #[.int .i64 0, .int .i64 0, .slice none 0 0, .slice none 0 0] 50
 have kk : Keep Nix w ((w.alloc (.cells csc.toArray 50)).alloc (.cells #[.int .i64 0, .int .i64 0, .slice none 0 0, .slice none 0 0] 50)) := ((Keep.refl Nix w).alloc _).alloc _
 have gc := rGCatalog_lawful.nix hc kk
 clear hc
 have ld0 := Whole.run (P := Tryz.prog) S_Catalog hlc row0
 go_enter Tryz.func65, Tryz.ntmps65
 go_wp2_with fail
 clear ld0
 go_fit (Own_o c _ _ gc hs)
 rintro e w1 ⟨csO, rfl, hOwn, k1⟩
 (try replace row0 := row0.keep k1 id)
 (try replace rowR := rowR.keep k1 id)
 (try replace rowO := rowO.keep k1 id)
 (try replace gc := rGCatalog_lawful.nix gc k1)
 (try replace hO := rGCatalog_lawful.nix hO k1)
 (try replace ownT := owned_keep ownT k1 (fun _ _ h => h))
 (try replace ownX := owned_keep ownX k1 (fun _ _ h => h))
 (try replace elsT := elsT.keep fGTable_lawful k1 (fun _ _ h => h))
 (try replace elsX := elsX.keep fGIndex_lawful k1 (fun _ _ h => h))
 replace kk := kk.trans k1
 clear k1
 have hO := hOwn.read hcv hcn nT nX
 obtain ⟨aO, cO, aP, cP, cssT, cssX, m, rfl, hbm, hmw, ownT, hTlt, elsT, ownX, elsX⟩ := hOwn
 have hs1 : w.heap.size + 1 + 1 + 1 + 1 + 1 ≤ m := by simp at hbm; omega
 have elsT := elsT.mono (q := fun b => w.heap.size + 1 + 1 + 1 + 1 + 1 ≤ b ∧ b < m) fGTable_lawful (fun b hb => ⟨by have := hb.1; simp at this; omega, hb.2.1⟩)
 have ownT := owned_base (base' := w.heap.size + 1 + 1 + 1 + 1 + 1) ownT (by simp)
 have hXlt : ∀ b, OwnB (.slice aP c.fIndexes.length cP) b → b < w1.heap.size := fun b hb => (ownX.lt b hb).2
 obtain ⟨hst, rowO, kV⟩ := boxed (P := Tryz.prog) (zs := [.int .i64 0, .int .i64 0, .slice none 0 0, .slice none 0 0]) S_Catalog w1 rfl (rGCatalog_lawful.len hO) (rGCatalog_ones hO)
 (try replace row0 := row0.keep kV id)
 (try replace rowR := rowR.keep kV id)
 (try replace rowO := rowO.keep kV id)
 (try replace gc := rGCatalog_lawful.nix gc kV)
 (try replace hO := rGCatalog_lawful.nix hO kV)
 (try replace ownT := owned_keep ownT kV (fun _ _ h => h))
 (try replace ownX := owned_keep ownX kV (fun _ _ h => h))
 (try replace elsT := elsT.keep fGTable_lawful kV (fun _ _ h => h))
 (try replace elsX := elsX.keep fGIndex_lawful kV (fun _ _ h => h))
 replace kk := kk.trans kV
 clear kV gc
 have ldO := Whole.run (P := Tryz.prog) S_Catalog rfl rowO
 have HF := Lib.hid (find_c c _ nm _ hO)
 clear hO
 go_wp2_with fail
 clear ldO hst
 go_fit HF.out
 rintro e w2 ⟨rfl, k2⟩
 (try replace row0 := row0.keep k2 id)
 (try replace rowR := rowR.keep k2 id)
 (try replace rowO := rowO.keep k2 id)
 (try replace gc := rGCatalog_lawful.nix gc k2)
 (try replace hO := rGCatalog_lawful.nix hO k2)
 (try replace ownT := owned_keep ownT k2 (fun _ _ h => h))
 (try replace ownX := owned_keep ownX k2 (fun _ _ h => h))
 (try replace elsT := elsT.keep fGTable_lawful k2 (fun _ _ h => h))
 (try replace elsX := elsX.keep fGIndex_lawful k2 (fun _ _ h => h))
 replace kk := kk.trans k2
 clear k2 HF
 have hO1 := rowO.lt
 rcases findB_cases (fun x : GIndex => decide (x.fName = nm)) c.fIndexes with ⟨h1, -⟩ | ⟨k, hk, h1, -, -⟩
 ·rw [h1]
  have HR : Hid (dropF c nm = (c, 5)) := by show _ = _; unfold dropF; rw [h1, atI_neg]
  clear h1
  obtain ⟨hstR, rowF, HRES, HKF⟩ := finish (w := w) (d := c) rfl rfl rfl rowR rfl (by omega) (by omega) (by omega) hcv hcn rfl hs.2.2.1 (by have := hs.2.2.2; omega) ownT ownX elsT elsX (fun b hb => ⟨by have := hb.1; omega, by have := hb.2; omega⟩) (fun b hb => ⟨by have := hb.1; omega, by have := hb.2.1; omega⟩) kk
  have ldO := Whole.run (P := Tryz.prog) S_Catalog rfl rowO
  go_wp2_with fail
  refine bodyPost_ret (results_cell_row2 (by rfl) _ _ _ _ _ _ _ (by rfl) rowF Tryz.underlying50 (by rfl) (by exact S_Catalog.info)) rfl ?_
  rw [HR.out]
  exact ⟨_, rfl, HRES.out, rGCatalog_ones HRES.out, HKF.out⟩
 ·rw [h1]
  have HR1 : Hid (dropF c nm = dropAt c k c.fIndexes[k]) := by show _ = _; unfold dropF; rw [h1, atI_nat hk]
  clear h1
  have hkX : k < cssX.length := by rw [elsX.1]; exact hk
  have fx := elsX.2 k _ _ (List.getElem?_eq_getElem hkX) (List.getElem?_eq_getElem hk)
  obtain ⟨x, hx⟩ : ∃ x, Hid (c.fIndexes[k] = x) := ⟨c.fIndexes[k], Lib.hid rfl⟩
  rw [hx.out] at fx HR1
  obtain ⟨aI, cI, hcs, -, -, e5, -⟩ := fGIndex_open fx
  obtain ⟨bX, rest, rfl, hbX, rowP, hlP, hxl, hnc, hcm⟩ := own_rowS ownX (by omega)
  have hl7 := elsX.lens fGIndex_lawful
  have hb1 := hXlt bX rfl
  have y5 := row_cell rowP hl7 hkX (j := 5) (u := .int .i64 x.fState) (by rw [hcs]; rfl)
  have f5 := rowP.frozen (k * 7 + 5)
  have hi0 : (0 : Int) ≤ (k : Int) := by omega
  have hi1 : (k : Int) < (c.fIndexes.length : Int) := by omega
  have mX : c.fIndexes.length ≤ 140737488351232 := by have := hs.2.2.2; omega
  have i2 : IntKind.i64.wrap (c.fVersion + 1) = c.fVersion + 1 := by have := hcv.1; rw [IntKind.wrap_i64]; omega
  have hcv2 : isI64 (c.fVersion + 1) := ⟨by have := hcv.1; omega, by omega⟩
  have x3 := rowO.cell 3
  (try simp only [List.getElem?_cons_succ] at x3); (try simp only [List.getElem?_cons_zero] at x3)
  have EH := Lib.hid hcs
  clear hcs
  rcases test_eq x.fState 4 with ⟨t4, hT4⟩ | ⟨t4, hT4⟩
  ·have HR : Hid (dropF c nm = (setAt c k { x with fState := 5 }, 0)) := by show _ = _; rw [HR1.out]; unfold dropAt; rw [if_pos hT4.out]
   clear HR1 hT4
   have kA : Keep (· = bX) w2 (w2.setCell ⟨bX, k * 7 + 5, none⟩ (.int .i64 5)) := (Keep.refl (· = bX) w2).setCell (p := ⟨bX, k * 7 + 5, none⟩) (fun _ => rfl) _
   obtain ⟨rowP2, hlP2, hxl2⟩ := row_set3 rowP hl7 hkX (j := 5) (by decide) (.int .i64 5)
   have fx2 := fGIndex_state fx (s := 5) ⟨by decide, by decide⟩
   have ownX2 := row_own rowP2 hbX (hlP2.trans hlP) (hxl2.trans hxl) hnc hcm
   have elsX2 := (elsX.set (i := k) fx2).keep fGIndex_lawful kA (fun b hb e => hb.2.2 (by rw [e]; rfl))
   have rowO2 := rowO.keep kA (by omega)
   have rowR2 := rowR.keep kA (by omega)
   have ownT2 := owned_keep ownT kA (fun b hb e => by have := hTlt b hb; omega)
   have elsT2 := elsT.keep fGTable_lawful kA (fun b hb e => by have := hb.2; omega)
   have kk2 := kk.then kA (fun i hi e => by omega)
   have x0 := rowO2.cell 0
   (try simp only [List.getElem?_cons_succ] at x0); (try simp only [List.getElem?_cons_zero] at x0)
   have f0 := rowO2.frozen 0
   have rowO3 := rowO2.set 0 (.int .i64 (c.fVersion + 1))
   simp only [List.set_cons_zero] at rowO3
   have kB : Keep (· = w1.heap.size) (w2.setCell ⟨bX, k * 7 + 5, none⟩ (.int .i64 5)) ((w2.setCell ⟨bX, k * 7 + 5, none⟩ (.int .i64 5)).setCell ⟨w1.heap.size, 0, none⟩ (.int .i64 (c.fVersion + 1))) := (Keep.refl (· = w1.heap.size) _).setCell (p := ⟨w1.heap.size, 0, none⟩) (fun _ => rfl) _
   obtain ⟨hstR, rowF, HRES, HKF⟩ := finish (w := w) (c := c) (d := setAt c k { x with fState := 5 }) (ver := c.fVersion + 1) (nx := c.fNext) (nX := c.fIndexes.length) rfl rfl (List.length_set ..) (rowR2.keep kB (by omega)) rfl (by omega) (by omega) (by omega) hcv2 hcn rfl hs.2.2.1 (by show (c.fIndexes.set k _).length ≤ _; rw [List.length_set]; have := hs.2.2.2; omega)
    (owned_keep ownT2 kB (fun b hb e => by have := hTlt b hb; omega)) (owned_keep ownX2 kB (fun b hb e => by have := hXlt b hb; omega)) (elsT2.keep fGTable_lawful kB (fun b hb e => by have := hb.2; omega)) (elsX2.keep fGIndex_lawful kB (fun b hb e => by have := hb.2.1; omega))
    (fun b hb => ⟨by have := hb.1; omega, by have := hb.2; have := kA.size; have := kB.size; omega⟩) (fun b hb => ⟨by have := hb.1; omega, by have := hb.2.1; have := kA.size; have := kB.size; omega⟩) (kk2.then kB (fun i hi e => by omega))
   have ldO := Whole.run (P := Tryz.prog) S_Catalog rfl rowO3
   clear kA rowP rowP2 fx2 fx ownX2 elsX2 rowO2 rowR2 ownT2 elsT2 kk2 rowO3 kB ownT ownX elsT elsX hlP hlP2 hxl hxl2
   go_wp2_with fail
   refine bodyPost_ret (results_cell_row2 (by rfl) _ _ _ _ _ _ _ (by rfl) rowF Tryz.underlying50 (by rfl) (by exact S_Catalog.info)) rfl ?_
   rw [HR.out]
   exact ⟨_, rfl, HRES.out, rGCatalog_ones HRES.out, HKF.out⟩
  rcases Int.lt_or_le x.fState 1 with s1 | s1
  ·have HR : Hid (dropF c nm = (c, 7)) := by show _ = _; rw [HR1.out]; unfold dropAt; rw [if_neg hT4, if_neg (by omega)]
   clear HR1 hT4
   obtain ⟨hstR, rowF, HRES, HKF⟩ := finish (w := w) (d := c) rfl rfl rfl rowR rfl (by omega) (by omega) (by omega) hcv hcn rfl hs.2.2.1 (by have := hs.2.2.2; omega) ownT ownX elsT elsX (fun b hb => ⟨by have := hb.1; omega, by have := hb.2; omega⟩) (fun b hb => ⟨by have := hb.1; omega, by have := hb.2.1; omega⟩) kk
   have ldO := Whole.run (P := Tryz.prog) S_Catalog rfl rowO
   go_wp2_with fail
   refine bodyPost_ret (results_cell_row2 (by rfl) _ _ _ _ _ _ _ (by rfl) rowF Tryz.underlying50 (by rfl) (by exact S_Catalog.info)) rfl ?_
   rw [HR.out]
   exact ⟨_, rfl, HRES.out, rGCatalog_ones HRES.out, HKF.out⟩
  rcases Int.lt_or_le x.fState 4 with s2 | s2
  ·have HR : Hid (dropF c nm = (setAt c k { x with fState := 6 }, 0)) := by show _ = _; rw [HR1.out]; unfold dropAt; rw [if_neg hT4, if_pos ⟨s1, s2⟩]
   clear HR1 hT4
   have kA : Keep (· = bX) w2 (w2.setCell ⟨bX, k * 7 + 5, none⟩ (.int .i64 6)) := (Keep.refl (· = bX) w2).setCell (p := ⟨bX, k * 7 + 5, none⟩) (fun _ => rfl) _
   obtain ⟨rowP2, hlP2, hxl2⟩ := row_set3 rowP hl7 hkX (j := 5) (by decide) (.int .i64 6)
   have fx2 := fGIndex_state fx (s := 6) ⟨by decide, by decide⟩
   have ownX2 := row_own rowP2 hbX (hlP2.trans hlP) (hxl2.trans hxl) hnc hcm
   have elsX2 := (elsX.set (i := k) fx2).keep fGIndex_lawful kA (fun b hb e => hb.2.2 (by rw [e]; rfl))
   have rowO2 := rowO.keep kA (by omega)
   have rowR2 := rowR.keep kA (by omega)
   have ownT2 := owned_keep ownT kA (fun b hb e => by have := hTlt b hb; omega)
   have elsT2 := elsT.keep fGTable_lawful kA (fun b hb e => by have := hb.2; omega)
   have kk2 := kk.then kA (fun i hi e => by omega)
   have x0 := rowO2.cell 0
   (try simp only [List.getElem?_cons_succ] at x0); (try simp only [List.getElem?_cons_zero] at x0)
   have f0 := rowO2.frozen 0
   have rowO3 := rowO2.set 0 (.int .i64 (c.fVersion + 1))
   simp only [List.set_cons_zero] at rowO3
   have kB : Keep (· = w1.heap.size) (w2.setCell ⟨bX, k * 7 + 5, none⟩ (.int .i64 6)) ((w2.setCell ⟨bX, k * 7 + 5, none⟩ (.int .i64 6)).setCell ⟨w1.heap.size, 0, none⟩ (.int .i64 (c.fVersion + 1))) := (Keep.refl (· = w1.heap.size) _).setCell (p := ⟨w1.heap.size, 0, none⟩) (fun _ => rfl) _
   obtain ⟨hstR, rowF, HRES, HKF⟩ := finish (w := w) (c := c) (d := setAt c k { x with fState := 6 }) (ver := c.fVersion + 1) (nx := c.fNext) (nX := c.fIndexes.length) rfl rfl (List.length_set ..) (rowR2.keep kB (by omega)) rfl (by omega) (by omega) (by omega) hcv2 hcn rfl hs.2.2.1 (by show (c.fIndexes.set k _).length ≤ _; rw [List.length_set]; have := hs.2.2.2; omega)
    (owned_keep ownT2 kB (fun b hb e => by have := hTlt b hb; omega)) (owned_keep ownX2 kB (fun b hb e => by have := hXlt b hb; omega)) (elsT2.keep fGTable_lawful kB (fun b hb e => by have := hb.2; omega)) (elsX2.keep fGIndex_lawful kB (fun b hb e => by have := hb.2.1; omega))
    (fun b hb => ⟨by have := hb.1; omega, by have := hb.2; have := kA.size; have := kB.size; omega⟩) (fun b hb => ⟨by have := hb.1; omega, by have := hb.2.1; have := kA.size; have := kB.size; omega⟩) (kk2.then kB (fun i hi e => by omega))
   have ldO := Whole.run (P := Tryz.prog) S_Catalog rfl rowO3
   clear kA rowP rowP2 fx2 fx ownX2 elsX2 rowO2 rowR2 ownT2 elsT2 kk2 rowO3 kB ownT ownX elsT elsX hlP hlP2 hxl hxl2
   go_wp2_with fail
   refine bodyPost_ret (results_cell_row2 (by rfl) _ _ _ _ _ _ _ (by rfl) rowF Tryz.underlying50 (by rfl) (by exact S_Catalog.info)) rfl ?_
   rw [HR.out]
   exact ⟨_, rfl, HRES.out, rGCatalog_ones HRES.out, HKF.out⟩
  ·have HR : Hid (dropF c nm = (c, 7)) := by show _ = _; rw [HR1.out]; unfold dropAt; rw [if_neg hT4, if_neg (by omega)]
   clear HR1 hT4
   obtain ⟨hstR, rowF, HRES, HKF⟩ := finish (w := w) (d := c) rfl rfl rfl rowR rfl (by omega) (by omega) (by omega) hcv hcn rfl hs.2.2.1 (by have := hs.2.2.2; omega) ownT ownX elsT elsX (fun b hb => ⟨by have := hb.1; omega, by have := hb.2; omega⟩) (fun b hb => ⟨by have := hb.1; omega, by have := hb.2.1; omega⟩) kk
   have ldO := Whole.run (P := Tryz.prog) S_Catalog rfl rowO
   go_wp2_with fail
   refine bodyPost_ret (results_cell_row2 (by rfl) _ _ _ _ _ _ _ (by rfl) rowF Tryz.underlying50 (by rfl) (by exact S_Catalog.info)) rfl ?_
   rw [HR.out]
   exact ⟨_, rfl, HRES.out, rGCatalog_ones HRES.out, HKF.out⟩
end
end Go.Proofs.YtibaehlfpgipfaaGreat
