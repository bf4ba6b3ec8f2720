/- SCHEMA: which catalogs are right, by the reference. Printed by gen25.py and genP.py. -/
import Derived.Test.YtfogbbnfedcldaaSchN
namespace Go.Proofs.Ytfogbbnfedcldaa
open Go.RowKit

def idsT (c : GCatalog) (k : Nat) : List Int := (c.fTables.take k).map (·.fID)
def idsX (c : GCatalog) (k : Nat) : List Int := c.fTables.map (·.fID) ++ (c.fIndexes.take k).map (·.fID)
theorem idsT_len {c : GCatalog} {k : Nat} (h : k ≤ c.fTables.length) : (idsT c k).length = k := by unfold idsT; rw [List.length_map, List.length_take]; omega
theorem idsT_succ {c : GCatalog} {k : Nat} (h : k < c.fTables.length) : idsT c (k + 1) = idsT c k ++ [c.fTables[k].fID] := by unfold idsT; rw [List.take_succ_eq_append_getElem h, List.map_append]; rfl
theorem idsX_succ {c : GCatalog} {k : Nat} (h : k < c.fIndexes.length) : idsX c (k + 1) = idsX c k ++ [c.fIndexes[k].fID] := by unfold idsX; rw [List.take_succ_eq_append_getElem h, List.map_append, List.append_assoc]; rfl
theorem tabQ_last {c : GCatalog} {j : Nat} (h : j < c.fTables.length) (hq : tabQ c j = true) : lastT c j < c.fTables[j].fID := by
  rw [tabQ_at h] at hq
  unfold tabOk at hq
  rw [Bool.and_eq_true] at hq
  exact of_decide_eq_true hq.1
/-- Rising: all that came is not above the last one, which is not below 0. -/
theorem lastT_max {c : GCatalog} : ∀ (k : Nat), k ≤ c.fTables.length → (∀ j, j < k → tabQ c j = true) → 0 ≤ lastT c k ∧ ∀ x ∈ idsT c k, x ≤ lastT c k
  | 0, _, _ => ⟨Int.le_refl _, fun x hx => by simp [idsT] at hx⟩
  | k + 1, hk, hq => by
    obtain ⟨h1, h2⟩ := lastT_max k (by omega) (fun j hj => hq j (by omega))
    have h3 := tabQ_last (by omega : k < c.fTables.length) (hq k (by omega))
    rw [lastT_succ (by omega)]
    refine ⟨by omega, fun x hx => ?_⟩
    rw [idsT_succ (by omega), List.mem_append, List.mem_singleton] at hx
    rcases hx with hx | rfl
    · have := h2 x hx; omega
    · omega
theorem flat_one : ∀ (l : List Int), (l.map fun x => [Value.int .i64 x]).flatten = l.map (Value.int .i64)
  | [] => rfl
  | x :: l => by rw [List.map_cons, List.flatten_cons, flat_one l]; rfl
theorem ids_read {w : World} {base : Nat} {a : Option Addr} {n cap : Nat} {l : List Int} (own : w.ownsRow base 3 1 (.slice a n cap) n (l.map (Value.int .i64))) (hl : l.length = n) (hf : n ≤ far) (hw : ∀ x ∈ l, isI64 x) :
    rList (rInt .i64) w (fun b => base ≤ b) [.slice a n cap] l := by
  subst hl
  have hfl : (l.map fun x => [Value.int .i64 x]).flatten = l.map (Value.int .i64) := flat_one l
  refine ⟨a, cap, l.map (fun x => [.int .i64 x]), rfl, by simp, ?_, (owned_bounds own).2.1, hf, fun i c x hc hx => ?_⟩
  · rw [hfl]; exact (Lies.of_owned own).mono fun b hb => hb.1
  · rw [List.getElem?_map, hx] at hc
    cases hc
    exact ⟨rfl, wf_of_isI64 (hw x (List.mem_of_getElem? hx))⟩
theorem quiet_q {P : Program} {f : FuncId} {args : Array Value} {w : World} {n : Nat} {v : Value} (h : Calls P f args (w.drewN n) fun e w' => e = .returned v ∧ ∃ q, w' = (w.drewN n).drewN q) : Calls P f args (w.drewN n) fun e w'' => e = .returned v ∧ ∃ m, w'' = w.drewN m :=
  h.mono fun _ _ ⟨he, q, hq⟩ => ⟨he, n + q, by rw [hq, drewN_two]⟩
theorem firstB_true {α : Type} {P : α → Bool} {l : List α} {z : α} (h : (firstB P l z).2 = true) : (firstB P l z).1 ∈ l ∧ P (firstB P l z).1 = true := by
  unfold firstB at *
  cases hf : l.find? P with
  | none => rw [hf] at h; cases h
  | some x => rw [hf] at h; exact ⟨List.mem_of_find?_eq_some hf, List.find?_some hf⟩
theorem firstB_false {α : Type} {P : α → Bool} {l : List α} {z : α} (h : (firstB P l z).2 = false) : ∀ x ∈ l, P x = false := by
  unfold firstB at h
  cases hf : l.find? P with
  | none => exact fun x hx => by have := List.find?_eq_none.1 hf x hx; simpa using this
  | some x => rw [hf] at h; cases h
theorem tabOf_of_mem {c : GCatalog} {d : Int} (h : d ∈ c.fTables.map (·.fID)) : (tabOf c d).2 = true := by
  cases hf : (tabOf c d).2 with
  | true => rfl
  | false =>
    obtain ⟨t, ht, rfl⟩ := List.mem_map.1 h
    have := firstB_false hf t ht
    simp at this
theorem tabOf_not_mem {c : GCatalog} {d : Int} (h : d ∉ c.fTables.map (·.fID)) : (tabOf c d).2 = false := by
  cases hf : (tabOf c d).2 with
  | false => rfl
  | true =>
    have := firstB_true hf
    exact absurd (List.mem_map.2 ⟨_, this.1, by simpa using this.2⟩) h
theorem tableB_cols {t : GTable} (h : tableB t = true) : t.fColumns.length ≤ 6 := by
  unfold tableB at h
  simp only [Bool.and_eq_true, decide_eq_true_eq] at h
  exact h.2.1.2
theorem tabQ_table {c : GCatalog} {t : GTable} (ht : t ∈ c.fTables) (hq : ∀ j, j < c.fTables.length → tabQ c j = true) : tableB t = true := by
  obtain ⟨i, hi, rfl⟩ := List.mem_iff_getElem.1 ht
  have := hq i hi
  rw [tabQ_at hi] at this
  unfold tabOk at this
  simp only [Bool.and_eq_true] at this
  exact this.2.2.1
theorem idxQ_last {c : GCatalog} {j : Nat} (h : j < c.fIndexes.length) (hq : idxQ c j = true) : lastX c j < c.fIndexes[j].fID := by
  rw [idxQ_at h] at hq
  unfold idxOk at hq
  rw [Bool.and_eq_true] at hq
  exact of_decide_eq_true hq.1
theorem lastX_max {c : GCatalog} : ∀ (k : Nat), k ≤ c.fIndexes.length → (∀ j, j < k → idxQ c j = true) → 0 ≤ lastX c k ∧ ∀ x ∈ (c.fIndexes.take k).map (·.fID), x ≤ lastX c k
  | 0, _, _ => ⟨Int.le_refl _, fun x hx => by simp at hx⟩
  | k + 1, hk, hq => by
    obtain ⟨h1, h2⟩ := lastX_max k (by omega) (fun j hj => hq j (by omega))
    have h3 := idxQ_last (by omega : k < c.fIndexes.length) (hq k (by omega))
    rw [lastX_succ (by omega)]
    refine ⟨by omega, fun x hx => ?_⟩
    rw [List.take_succ_eq_append_getElem (by omega), List.map_append, List.mem_append] at hx
    rcases hx with hx | hx
    · have := h2 x hx; omega
    · simp at hx; omega
theorem idsX_len {c : GCatalog} {k : Nat} (h : k ≤ c.fIndexes.length) : (idsX c k).length = c.fTables.length + k := by unfold idsX; rw [List.length_append, List.length_map, List.length_map, List.length_take]; omega
theorem idsX_zero (c : GCatalog) : idsX c 0 = idsT c c.fTables.length := by unfold idsX idsT; rw [List.take_length]; simp
theorem tabs_ids {w : World} {p : Nat → Prop} {cs : List Value} {l : List GTable} (h : rList rGTable w p cs l) : ∀ t ∈ l, isI64 t.fID := by
  intro t ht
  obtain ⟨i, hi, rfl⟩ := List.mem_iff_getElem.1 ht
  obtain ⟨_, _, _, _, _, -, -, r, -⟩ := rList_at rGTable_lawful (by decide) h i hi
  obtain ⟨_, _, _, _, -, h0, -⟩ := rGTable_open r
  exact h0
theorem idxs_ids {w : World} {p : Nat → Prop} {cs : List Value} {l : List GIndex} (h : rList rGIndex w p cs l) : ∀ t ∈ l, isI64 t.fID := by
  intro t ht
  obtain ⟨i, hi, rfl⟩ := List.mem_iff_getElem.1 ht
  obtain ⟨_, _, _, _, _, -, -, r, -⟩ := rList_at rGIndex_lawful (by decide) h i hi
  obtain ⟨_, _, -, h0, -⟩ := rGIndex_open r
  exact h0
theorem bad8 {d nx la u : Int} {k : Nat} {l : List Int} {b6 : Bool} (hm : 0 ≤ la ∧ ∀ y ∈ l, y ≤ la) (h0 : k = 0 → la = 0) (hk : 0 < k → u = la) :
    ((((decide (d < 1) || decide (nx ≤ d)) || decide (d ∈ l)) || (decide (0 < k) && decide (d ≤ u))) || !b6) = !(decide (la < d) && (decide (d < nx) && b6)) := by
  have key : (((decide (d < 1) || decide (nx ≤ d)) || decide (d ∈ l)) || (decide (0 < k) && decide (d ≤ u))) = !(decide (la < d) && decide (d < nx)) := by
    rw [Bool.eq_iff_iff]
    simp only [Bool.or_eq_true, Bool.and_eq_true, decide_eq_true_eq, Bool.not_eq_true', Bool.and_eq_false_iff, decide_eq_false_iff_not]
    constructor
    · rintro (((h | h) | h) | ⟨h, h'⟩)
      · exact .inl (by omega)
      · exact .inr (by omega)
      · exact .inl (by have := hm.2 _ h; omega)
      · exact .inl (by have := hk h; omega)
    · rintro (h | h)
      · rcases Nat.eq_zero_or_pos k with hz | hz
        · exact .inl (.inl (.inl (by have := h0 hz; omega)))
        · exact .inr ⟨hz, by have := hk hz; omega⟩
      · exact .inl (.inl (.inr (by omega)))
  rw [key]
  cases decide (la < d) <;> cases decide (d < nx) <;> cases b6 <;> rfl
theorem bad21 {d nx la u : Int} {k : Nat} {l l2 : List Int} {ft is pn pp s1 s2 ib : Bool} (hm : 0 ≤ la ∧ ∀ y ∈ l2, y ≤ la) (hl : d ∈ l ↔ ft = true ∨ d ∈ l2) (h0 : k = 0 → la = 0) (hk : 0 < k → u = la) (hib : ib = (is && (pn && (pp && (!s1 && !s2))))) :
    ((((((((decide (d < 1) || decide (nx ≤ d)) || decide (d ∈ l)) || (decide (0 < k) && decide (d ≤ u))) || !is) || !pn) || !pp) || s1) || s2) = !(decide (la < d) && (decide (d < nx) && (!ft && ib))) := by
  have key : (((decide (d < 1) || decide (nx ≤ d)) || decide (d ∈ l)) || (decide (0 < k) && decide (d ≤ u))) = !(decide (la < d) && (decide (d < nx) && !ft)) := by
    rw [Bool.eq_iff_iff]
    simp only [Bool.or_eq_true, Bool.and_eq_true, decide_eq_true_eq, Bool.not_eq_true', Bool.and_eq_false_iff, decide_eq_false_iff_not, Bool.not_eq_false']
    constructor
    · rintro (((h | h) | h) | ⟨h, h'⟩)
      · exact .inl (by omega)
      · exact .inr (.inl (by omega))
      · rcases hl.1 h with h | h
        · exact .inr (.inr h)
        · exact .inl (by have := hm.2 _ h; omega)
      · exact .inl (by have := hk h; omega)
    · rintro (h | h | h)
      · rcases Nat.eq_zero_or_pos k with hz | hz
        · exact .inl (.inl (.inl (by have := h0 hz; omega)))
        · exact .inr ⟨hz, by have := hk hz; omega⟩
      · exact .inl (.inl (.inr (by omega)))
      · exact .inl (.inr (hl.2 (.inl h)))
  rw [key, hib]
  cases decide (la < d) <;> cases decide (d < nx) <;> cases ft <;> cases is <;> cases pn <;> cases pp <;> cases s1 <;> cases s2 <;> rfl
section
attribute [local go_sem ↓] ldz_Table stz_Table ldz_Catalog ldz_Index stz_Index
set_option maxRecDepth 100000 in
set_option maxHeartbeats 64000000 in
theorem rRight_c {p : Nat → Prop} (c : GCatalog) (csc : List Value) (w : World) (hc : rGCatalog w p csc c) (hp : ∀ b, p b → b < w.heap.size) :
    Calls Try.prog 13 #[.agg csc.toArray] w fun e w' => e = .returned (.bool (rightB c)) ∧ Keep Nix w w' := by
  have gc := hc
  obtain ⟨aT, cT, aX, cX, rfl, -, -, hT, hX, -⟩ := rGCatalog_open hc
  have nT := (rList_len hT).2.2
  have mT : c.fTables.length ≤ 140737488351232 := by have := far_len; omega
  have nX := (rList_len hX).2.2
  have mX : c.fIndexes.length ≤ 140737488351232 := by have := far_len; omega
  have row0 : RowIs (w.alloc (.cells #[.int .i64 c.fVersion, .int .i64 c.fNext, .slice aT c.fTables.length cT, .slice aX c.fIndexes.length cX] 25)) w.heap.size 25 [.int .i64 c.fVersion, .int .i64 c.fNext, .slice aT c.fTables.length cT, .slice aX c.fIndexes.length cX] := RowIs.alloc w _ _
  have kk : Keep Nix w (w.alloc (.cells #[.int .i64 c.fVersion, .int .i64 c.fNext, .slice aT c.fTables.length cT, .slice aX c.fIndexes.length cX] 25)) := (Keep.refl Nix w).alloc _
  clear nT nX hc
  have x0 := row0.cell 0
  have x1 := row0.cell 1
  have x2 := row0.cell 2
  have x3 := row0.cell 3
  simp only [List.getElem?_cons_succ, List.getElem?_cons_zero] at x0 x1 x2 x3
  by_cases hh : headB c = false
  · have HR : Hid (rightB c = false) := by show _ = _; unfold rightB; rw [hh]; rfl
    have hd := of_decide_eq_false hh
    clear hh
    go_enter Try.func13, Try.ntmps13
    rcases Int.lt_or_le c.fVersion 0 with h1 | h1
    · go_wp2_with fail
      go_ret
      exact ⟨ret_bool HR.out.symm, kk⟩
    rcases Int.lt_or_le c.fNext 1 with h2 | h2
    · go_wp2_with fail
      go_ret
      exact ⟨ret_bool HR.out.symm, kk⟩
    rcases Int.lt_or_le 1073741824 c.fNext with h3 | h3
    · go_wp2_with fail
      go_ret
      exact ⟨ret_bool HR.out.symm, kk⟩
    rcases Int.lt_or_le 6 (c.fTables.length : Int) with h4 | h4
    · go_wp2_with fail
      go_ret
      exact ⟨ret_bool HR.out.symm, kk⟩
    have h5 : (10 : Int) < (c.fIndexes.length : Int) := by omega
    go_wp2_with fail
    go_ret
    exact ⟨ret_bool HR.out.symm, kk⟩
  have hh' : headB c = true := by simpa using hh
  clear hh
  have hd := of_decide_eq_true hh'
  have HH := Lib.hid hh'
  clear hh'
  obtain ⟨g1, g2, g3, g4, g5⟩ := hd
  have fin : allB c.fTables.length (tabQ c) = false → rightB c = false := fun h => by unfold rightB; rw [h]; simp
  have FIN := Lib.hid fin
  have fin2 : allB c.fIndexes.length (idxQ c) = false → rightB c = false := fun h => by unfold rightB; rw [h]; simp
  have FIN2 := Lib.hid fin2
  clear fin fin2
  go_enter Try.func13, Try.ntmps13
  go_wp2_with fail
  clear x0 x1 x2 x3
  have IDT := Lib.hid (tabs_ids hT)
  have IDX := Lib.hid (idxs_ids hX)
  go_loopw [3, 4] (fun l i wr => ∃ (k : Nat) (a : Option Addr) (cap : Nat), k ≤ c.fTables.length ∧ i = .int .i64 k ∧ l = .slice a k cap ∧ wr.ownsRow (w.heap.size + 1) 3 1 (.slice a k cap) k ((idsT c k).map (Value.int .i64)) ∧ Hid (∀ j, j < k → tabQ c j = true) ∧ RowIs wr w.heap.size 25 [.int .i64 c.fVersion, .int .i64 c.fNext, .slice aT c.fTables.length cT, .slice aX c.fIndexes.length cX] ∧ Keep Nix w wr) (fun _ i _ => c.fTables.length - (intOf i).toNat)
  case atStart => exact ⟨0, none, 0, by omega, rfl, rfl, World.ownsRow_nil _ _ _ _, fun j hj => by omega, row0, kk⟩
  case round =>
    clear row0 kk
    obtain ⟨k, ai, ci, hk, rfl, rfl, own, hg, row0, kk⟩ := hrel
    have x2 := row0.cell 2
    simp only [List.getElem?_cons_succ, List.getElem?_cons_zero] at x2
    by_cases hlt : k < c.fTables.length
    · have hi0 : (0 : Int) ≤ (k : Int) := by omega
      have hi1 : (k : Int) < (c.fTables.length : Int) := by omega
      obtain ⟨b, o, cc, cs, e1, -, hb, r, hcl⟩ := rList_at rGTable_lawful (by decide) ((rList_lawful rGTable_lawful).nix hT kk) k hlt
      simp only [List.cons.injEq, Value.slice.injEq, and_true] at e1
      obtain ⟨rfl, -, -⟩ := e1
      have HQ : Hid (tabQ c k = (decide (lastT c k < c.fTables[k].fID) && (decide (c.fTables[k].fID < c.fNext) && (tableB c.fTables[k] && decide (findB (fun o => decide (o.fName = c.fTables[k].fName)) c.fTables = (k : Int)))))) := tabQ_at hlt
      have HL := Lib.hid (lastT_succ hlt)
      have HS := Lib.hid (idsT_succ hlt)
      have HB : Hid (tabQ c k = false → allB c.fTables.length (tabQ c) = false) := fun h => allB_bad k hlt h
      have HN : Hid ((∀ j (hj : j < k), (c.fTables[j]'(by omega)).fName ≠ c.fTables[k].fName) → findB (fun o => decide (o.fName = c.fTables[k].fName)) c.fTables = (k : Int)) := fun hn => findB_at k hlt (fun j hj x hx => by rw [List.getElem?_eq_getElem (by omega)] at hx; cases hx; exact decide_eq_false (hn j hj)) (decide_eq_true rfl)
      have HM : Hid (∀ j, j < k → ∀ y, c.fTables[j]? = some y → y.fName = c.fTables[k].fName → findB (fun o => decide (o.fName = c.fTables[k].fName)) c.fTables ≠ (k : Int)) := fun j hj y hy he => by
        rw [List.getElem?_eq_getElem (by omega)] at hy; cases hy
        have := findB_le (P := fun o : GTable => decide (o.fName = c.fTables[k].fName)) j (by omega : j < c.fTables.length) (decide_eq_true he)
        omega
      have hidI := IDT.out _ (List.getElem_mem hlt)
      generalize c.fTables[k] = x at r HQ HL HS HN HM hidI
      have rx := r
      obtain ⟨aC, cC, aK, cK, rfl, hx0, hx1, -, -, -⟩ := rGTable_open r
      have ld := Whole.at (P := Try.prog) S_Table rfl hcl
      unfold Whole at ld
      have hst := store_run (P := Try.prog) (cs := [.int .i64 x.fID, .string (strB x.fName), .slice aC x.fColumns.length cC, .slice aK x.fKey.length cK]) S_Table (RowIs.alloc wr #[.int .i64 0, .string { data := #[] }, .slice none 0 0, .slice none 0 0] 33) rfl rfl rfl
      have rowT := (RowIs.alloc wr #[.int .i64 0, .string { data := #[] }, .slice none 0 0, .slice none 0 0] 33).setRow [.int .i64 x.fID, .string (strB x.fName), .slice aC x.fColumns.length cC, .slice aK x.fKey.length cK]
      have kV : Keep Nix wr ((wr.alloc (.cells #[.int .i64 0, .string { data := #[] }, .slice none 0 0, .slice none 0 0] 33)).setRow wr.heap.size [.int .i64 x.fID, .string (strB x.fName), .slice aC x.fColumns.length cC, .slice aK x.fKey.length cK].toArray) := ((Keep.refl Nix wr).alloc (.cells #[.int .i64 0, .string { data := #[] }, .slice none 0 0, .slice none 0 0] 33)).setRow (fun h => absurd h (Nat.lt_irrefl _)) _
      replace row0 := row0.keep kV id
      replace kk := kk.trans kV
      replace rx := rGTable_lawful.nix rx kV
      replace own := owned_keep own kV (fun _ _ h => h)
      have hsz := kV.size
      have hbt := kk.size
      clear kV r hcl
      go_wp2_with fail
      clear ld hst x2
      generalize ((wr.alloc (.cells #[.int .i64 0, .string { data := #[] }, .slice none 0 0, .slice none 0 0] 33)).setRow wr.heap.size [.int .i64 x.fID, .string (strB x.fName), .slice aC x.fColumns.length cC, .slice aK x.fKey.length cK].toArray) = wx at *
      generalize wr.heap.size = bt at *
      have hmx := lastT_max k hk hg.out
      have hread := ids_read (l := idsT c k) own (idsT_len hk) (by unfold far; omega) (fun x hx => by
        obtain ⟨t, ht, rfl⟩ := List.mem_map.1 hx
        exact IDT.out t (List.mem_of_mem_take ht))
      have hkm : 0 < k → ∃ u : Int, wx.cell? ⟨b, o + (k - 1) * 4, none⟩ = some (.int .i64 u) ∧ u = lastT c k := fun h0 => by
        obtain ⟨b', o', cc', cs', e1, -, hb', r', hc'⟩ := rList_at rGTable_lawful (by decide) ((rList_lawful rGTable_lawful).nix hT kk) (k - 1) (by omega)
        simp only [List.cons.injEq, Value.slice.injEq, Option.some.injEq, Addr.mk.injEq, and_true] at e1
        obtain ⟨⟨rfl, rfl⟩, -, -⟩ := e1
        obtain ⟨_, _, _, _, rfl, -⟩ := rGTable_open r'
        exact ⟨_, hc' 0 _ rfl, by
          have := lastT_succ (c := c) (i := k - 1) (by omega)
          rw [show k - 1 + 1 = k by omega] at this
          exact this.symm⟩
      have hla : k = 0 → lastT c k = 0 := fun h => by subst h; rfl
      generalize lastT c k = la at HQ hmx hkm hla
      have hu : ∃ u : Int, (decide (0 < k) = true → wx.cell? ⟨b, o + (k - 1) * 4, none⟩ = some (.int .i64 u)) ∧ (0 < k → u = la) := by
        rcases Nat.eq_zero_or_pos k with h | h
        · exact ⟨0, fun h' => absurd (of_decide_eq_true h') (by omega), fun h' => by omega⟩
        · obtain ⟨u, h1, h2⟩ := hkm h
          exact ⟨u, fun _ => h1, fun _ => h2⟩
      obtain ⟨u, hz, hu⟩ := hu
      have hbx : b < wx.heap.size := Nat.lt_of_lt_of_le hb hsz
      obtain ⟨e5, HE5⟩ : ∃ e5, Hid (e5 = !(decide (la < x.fID) && (decide (x.fID < c.fNext) && tableB x))) := ⟨_, rfl⟩
      have HE := HE5.out.trans (bad8 hmx hla hu).symm
      have hTR : ∀ w', Keep Nix wx w' → Calls Try.prog 50 #[.agg #[.int .i64 x.fID, .string (strB x.fName), .slice aC x.fColumns.length cC, .slice aK x.fKey.length cK]] w' fun e w'' => e = .returned (.bool (tableB x)) ∧ Keep Nix w' w'' := fun w' kW => rTableRight_c x _ w' (rGTable_lawful.nix rx kW)
      have hIN : ∀ w', Keep Nix wx w' → Calls Try.prog 49 #[.slice ai k ci, .int .i64 x.fID] w' fun e w'' => e = .returned (.bool (decide (x.fID ∈ idsT c k))) ∧ w' = w'' := fun w' kW => In_c ai k ci (idsT c k) x.fID w' ((rList_lawful (rInt_lawful _)).nix hread kW)
      refine R8 wx w.heap.size bt b o c.fTables.length cT k ci ai c.fVersion c.fNext u _ x aC cC aK cK _ _ _ _ _ _ _ _ _ _ _ _ _ _ _ _ _ _ _ _ _ _ _ _ _ _ _ _ _ _ _ _ _ _ _ _ _ _ _ _ _ _ _ _ _ _ _ _ _ _ _ _ _ _ _ _ _ _ _ _ _ _ _ _ _ _ _ _ _ _ _ _ _ _ _ _ _ _ _ _ _ _ _ _ _ _ _ _ _ _ _ _ _ _ _ _ _ _ _ _ _ _ _ _ _ _ _ _ _ _ _ _ _ _ _ _ _ _ _ _ _ _ _ _ _ _ _ _ _ _ _ _ _ _ _ _ _ _ _ _ _ _ _ _ _ _ _ _ _ _ _ _ _ _ _ _ _ _ _ _ _ _ _ _ _ _ _ _ _ _ _ _ _ _ _ _ _ _ _ _ _ _ _ _ _ _ _ _ _ _ _ _ _ _ _ _ _ _ _ _ _ _ _ _ _ _ _ _ _ e5 _ row0 rowT hlt mT hbx hz hIN hTR rfl rfl rfl rfl rfl rfl rfl rfl HE _ (show Shut _ from fun u49 u50 u51 u52 u53 u54 u55 u56 u57 u58 u59 u60 u61 u62 u63 u64 u65 u66 u67 u68 u69 u70 u71 u72 u73 u74 u75 u76 u77 u78 u79 u80 u81 u82 u83 u84 w1 kW => ?_)
      replace rowT := rowT.keep kW id
      replace row0 := row0.keep kW id
      replace own := owned_keep own kW (fun _ _ h => h)
      replace kk := kk.trans kW
      have HQ' : Hid (tabQ c k = (!e5 && decide (findB (fun o => decide (o.fName = x.fName)) c.fTables = (k : Int)))) := by show _ = _; rw [HQ.out, HE5.out]; cases decide (la < x.fID) <;> cases decide (x.fID < c.fNext) <;> cases tableB x <;> rfl
      clear HQ HE HE5 hTR hIN hread hmx hla hu hz hkm kW hbx rx
      cases e5 with
      | true =>
        have HF := Lib.hid (FIN.out (HB.out (by rw [HQ'.out]; rfl)))
        go_wp2_with fail
        go_ret
        exact ⟨ret_bool HF.out.symm, kk⟩
      | false =>
      have HQ : Hid (tabQ c k = decide (findB (fun o => decide (o.fName = x.fName)) c.fTables = (k : Int))) := HQ'.out
      clear HQ'
      go_wp2_with fail
      go_loopw [6] (fun i wi => ∃ j : Nat, j ≤ k ∧ i = .int .i64 j ∧ Hid (∀ m, m < j → ∀ y, c.fTables[m]? = some y → y.fName ≠ x.fName) ∧ RowIs wi w.heap.size 25 [.int .i64 c.fVersion, .int .i64 c.fNext, .slice (some ⟨b, o, none⟩) c.fTables.length cT, .slice aX c.fIndexes.length cX] ∧ RowIs wi bt 33 [.int .i64 x.fID, .string (strB x.fName), .slice aC x.fColumns.length cC, .slice aK x.fKey.length cK] ∧ wi.ownsRow (w.heap.size + 1) 3 1 (.slice ai k ci) k ((idsT c k).map (Value.int .i64)) ∧ Keep Nix w wi) (fun i _ => k - (intOf i).toNat)
      case atStart => exact ⟨0, by omega, rfl, fun j hj => by omega, row0, rowT, own, kk⟩
      case round =>
        clear row0 kk rowT own
        obtain ⟨j, hj, rfl, hgj, row0, rowT, own, kk⟩ := hrel
        by_cases hjk : j < k
        · have hj0 : (0 : Int) ≤ (j : Int) := by omega
          have hj1 : (j : Int) < (c.fTables.length : Int) := by omega
          have hjl : j < c.fTables.length := by omega
          obtain ⟨b', o', c', cs', e1, -, hb', r', hc'⟩ := rList_at rGTable_lawful (by decide) ((rList_lawful rGTable_lawful).nix hT kk) j hjl
          simp only [List.cons.injEq, Value.slice.injEq, Option.some.injEq, Addr.mk.injEq, and_true] at e1
          obtain ⟨⟨rfl, rfl⟩, -, -⟩ := e1
          have HY : Hid (c.fTables[j]? = some c.fTables[j]) := List.getElem?_eq_getElem hjl
          generalize c.fTables[j] = y at r' HY
          obtain ⟨_, _, _, _, rfl, -⟩ := rGTable_open r'
          have z0 := hc' 1 _ rfl
          clear r' hc'
          have x2 := row0.cell 2
          simp only [List.getElem?_cons_succ, List.getElem?_cons_zero] at x2
          have y1 := rowT.cell 1
          simp only [List.getElem?_cons_succ, List.getElem?_cons_zero] at y1
          have HE := Lib.hid (strB_eq y.fName x.fName)
          by_cases he : y.fName = x.fName
          · have hE : ((strB y.fName).toList == (strB x.fName).toList) = true := by rw [HE.out]; exact decide_eq_true he
            have HH := Lib.hid (HM.out j hjk y HY.out he)
            clear he
            go_wp2_with fail
            go_quiet (fail)
            go_wp2_with fail
            go_ret
            exact ⟨ret_bool (FIN.out (HB.out (by rw [HQ.out]; exact decide_eq_false HH.out))).symm, kk.drewN _⟩
          · have hE : ((strB y.fName).toList == (strB x.fName).toList) = false := by rw [HE.out]; exact decide_eq_false he
            have HH := Lib.hid he
            clear he
            go_wp2_with fail
            go_quiet (fail)
            go_wp2_with fail
            go_roundw
            case rel => exact ⟨j + 1, by omega, by go_num, fun m hm z hz => by
              rcases Nat.lt_succ_iff_lt_or_eq.1 hm with h | rfl
              · exact hgj.out m h z hz
              · rw [HY.out] at hz; cases hz; exact HH.out, row0.same, rowT.same, owned_same own, kk.drewN _⟩
            case measure => simp [intOf]; omega
        · obtain rfl : j = k := by omega
          have y0 := rowT.cell 0
          simp only [List.getElem?_cons_zero] at y0
          have hs0 : w.heap.size + 1 ≤ _ := row0.lt
          go_wp2_with (at_builtin; refine wpl_append1 T_lint rfl (.tmp 100) (.tmp 103) rfl (w.heap.size + 1) rfl own rfl rfl ?c1 ?c2 ?c3 hs0 ?_)
          case c1 => rfl
          case c2 => unfold maxLen; omega
          case c3 => omega
          intro a' cap' w6 own6 k1
          replace row0 := row0.keep k1 (fun hb => by have := (own.lt _ hb).1; omega)
          replace kk := kk.then k1 (fun i hi hb => by have := (own.lt _ hb).1; omega)
          clear own k1 y0
          go_wp2
          go_roundw
          case rel => exact ⟨j + 1, a', cap', by omega, by go_num, rfl, by rw [HS.out, List.map_append]; exact own6, fun m hm => by
            rcases Nat.lt_succ_iff_lt_or_eq.1 hm with h | rfl
            · exact hg.out m h
            · rw [HQ.out]; exact decide_eq_true (HN.out (fun q hq => hgj.out q hq _ (List.getElem?_eq_getElem (by omega)))), row0, kk⟩
          case measure => simp [intOf]; omega
    · obtain rfl : k = c.fTables.length := by omega
      have HA : Hid (allB c.fTables.length (tabQ c) = true) := allB_good hg.out
      have HTQ := hg
      rw [← idsX_zero] at own
      clear hg hlt hk
      go_wp2_with fail
      clear x2
      go_loopw [3, 7] (fun l i wi => ∃ (k : Nat) (a : Option Addr) (cap : Nat), k ≤ c.fIndexes.length ∧ i = .int .i64 k ∧ l = .slice a (c.fTables.length + k) cap ∧ wi.ownsRow (w.heap.size + 1) 3 1 (.slice a (c.fTables.length + k) cap) (c.fTables.length + k) ((idsX c k).map (Value.int .i64)) ∧ Hid (∀ j, j < k → idxQ c j = true) ∧ RowIs wi w.heap.size 25 [.int .i64 c.fVersion, .int .i64 c.fNext, .slice aT c.fTables.length cT, .slice aX c.fIndexes.length cX] ∧ Keep Nix w wi) (fun _ i _ => c.fIndexes.length - (intOf i).toNat)
      case atStart => exact ⟨0, ai, ci, by omega, rfl, rfl, own, fun j hj => by omega, row0, kk⟩
      case round =>
        clear row0 kk own
        obtain ⟨k, ai, ci, hk, rfl, rfl, own, hg, row0, kk⟩ := hrel
        have x3 := row0.cell 3
        simp only [List.getElem?_cons_succ, List.getElem?_cons_zero] at x3
        by_cases hlt : k < c.fIndexes.length
        · have hi0 : (0 : Int) ≤ (k : Int) := by omega
          have hi1 : (k : Int) < (c.fIndexes.length : Int) := by omega
          obtain ⟨b, o, cc, cs, e1, -, hb, r, hcl⟩ := rList_at rGIndex_lawful (by decide) ((rList_lawful rGIndex_lawful).nix hX kk) k hlt
          simp only [List.cons.injEq, Value.slice.injEq, and_true] at e1
          obtain ⟨rfl, -, -⟩ := e1
          have HQ : Hid (idxQ c k = (decide (lastX c k < c.fIndexes[k].fID) && (decide (c.fIndexes[k].fID < c.fNext) && (!(tabOf c c.fIndexes[k].fID).2 && (indexB c c.fIndexes[k] && decide (findB (fun o => decide (o.fName = c.fIndexes[k].fName)) c.fIndexes = (k : Int))))))) := idxQ_at hlt
          have HL := Lib.hid (lastX_succ hlt)
          have HS := Lib.hid (idsX_succ hlt)
          have HB : Hid (idxQ c k = false → allB c.fIndexes.length (idxQ c) = false) := fun h => allB_bad k hlt h
          have HN : Hid ((∀ j (hj : j < k), (c.fIndexes[j]'(by omega)).fName ≠ c.fIndexes[k].fName) → findB (fun o => decide (o.fName = c.fIndexes[k].fName)) c.fIndexes = (k : Int)) := fun hn => findB_at k hlt (fun j hj x hx => by rw [List.getElem?_eq_getElem (by omega)] at hx; cases hx; exact decide_eq_false (hn j hj)) (decide_eq_true rfl)
          have HM : Hid (∀ j, j < k → ∀ y, c.fIndexes[j]? = some y → y.fName = c.fIndexes[k].fName → findB (fun o => decide (o.fName = c.fIndexes[k].fName)) c.fIndexes ≠ (k : Int)) := fun j hj y hy he => by
            rw [List.getElem?_eq_getElem (by omega)] at hy; cases hy
            have := findB_le (P := fun o : GIndex => decide (o.fName = c.fIndexes[k].fName)) j (by omega : j < c.fIndexes.length) (decide_eq_true he)
            omega
          generalize c.fIndexes[k] = x at r HQ HL HS HN HM
          obtain ⟨aI, cI, rfl, hx0, -, hx1, hxc, -, -⟩ := rGIndex_open r
          have ld := Whole.at (P := Try.prog) S_Index rfl hcl
          unfold Whole at ld
          have hst := store_run (P := Try.prog) (cs := [.int .i64 x.fID, .int .i64 x.fTable, .string (strB x.fName), .slice aI x.fColumns.length cI, .bool x.fUnique, .int .i64 x.fState, .bool x.fBad]) S_Index (RowIs.alloc wr #[.int .i64 0, .int .i64 0, .string { data := #[] }, .slice none 0 0, .bool false, .int .i64 0, .bool false] 37) rfl rfl rfl
          have rowX := (RowIs.alloc wr #[.int .i64 0, .int .i64 0, .string { data := #[] }, .slice none 0 0, .bool false, .int .i64 0, .bool false] 37).setRow [.int .i64 x.fID, .int .i64 x.fTable, .string (strB x.fName), .slice aI x.fColumns.length cI, .bool x.fUnique, .int .i64 x.fState, .bool x.fBad]
          have kV : Keep Nix wr ((wr.alloc (.cells #[.int .i64 0, .int .i64 0, .string { data := #[] }, .slice none 0 0, .bool false, .int .i64 0, .bool false] 37)).setRow wr.heap.size [.int .i64 x.fID, .int .i64 x.fTable, .string (strB x.fName), .slice aI x.fColumns.length cI, .bool x.fUnique, .int .i64 x.fState, .bool x.fBad].toArray) := ((Keep.refl Nix wr).alloc (.cells #[.int .i64 0, .int .i64 0, .string { data := #[] }, .slice none 0 0, .bool false, .int .i64 0, .bool false] 37)).setRow (fun h => absurd h (Nat.lt_irrefl _)) _
          replace row0 := row0.keep kV id
          replace kk := kk.trans kV
          replace own := owned_keep own kV (fun _ _ h => h)
          replace hxc := (rList_lawful (rInt_lawful _)).nix hxc kV
          have hsz := kV.size
          clear kV r hcl
          have ld0 := Whole.row (P := Try.prog) S_Catalog rfl row0
          unfold Whole at ld0
          have y1 := rowX.cell 1
          simp only [List.getElem?_cons_succ, List.getElem?_cons_zero] at y1
          have HBY := Lib.hid (rByID_c c _ x.fTable _ (rGCatalog_lawful.nix gc kk) (fun b hb => Nat.lt_of_lt_of_le (hp b hb) kk.size))
          change Hid (Calls _ _ _ _ (FoundIn rGTable p _ (tabOf c x.fTable))) at HBY
          obtain ⟨tb, htb⟩ : ∃ y, Hid (tabOf c x.fTable = y) := ⟨_, rfl⟩
          have HIB : Hid (indexB c x = (tb.2 && (nameB x.fName && (placesB tb.1.fColumns.length x.fColumns && decide (1 ≤ x.fState ∧ x.fState ≤ 7))))) := by show _ = _; unfold indexB; rw [htb.out]
          have HPE : Hid (tb.2 = true → placesB tb.1.fColumns.length x.fColumns = placesR tb.1.fColumns.length x.fColumns) := fun h => by
            rw [← htb.out] at h ⊢
            have h1 := tableB_cols (tabQ_table (firstB_true h).1 HTQ.out)
            exact places_eq (by unfold tabOf; omega) (by omega) _
          rw [htb.out] at HBY
          obtain ⟨tt, is⟩ := tb
          go_wp2_with fail
          clear ld ld0 hst x3 y1
          go_fit HBY.out
          clear HBY
          generalize ((wr.alloc (.cells #[.int .i64 0, .int .i64 0, .string { data := #[] }, .slice none 0 0, .bool false, .int .i64 0, .bool false] 37)).setRow wr.heap.size [.int .i64 x.fID, .int .i64 x.fTable, .string (strB x.fName), .slice aI x.fColumns.length cI, .bool x.fUnique, .int .i64 x.fState, .bool x.fBad].toArray) = wx at *
          generalize wr.heap.size = bx at *
          rintro e w2 ⟨cst, rfl, hT2, k2⟩
          replace hT2 : rGTable w2 p cst tt := hT2
          obtain ⟨aC, cC, aK, cK, rfl, -, -, htC, -, -⟩ := rGTable_open hT2
          have nC := (rList_len htC).2.2
          have mC : tt.fColumns.length ≤ 140737488351232 := by have := far_len; omega
          have hst := store_run (P := Try.prog) (cs := [.int .i64 tt.fID, .string (strB tt.fName), .slice aC tt.fColumns.length cC, .slice aK tt.fKey.length cK]) S_Table (RowIs.alloc w2 #[.int .i64 0, .string { data := #[] }, .slice none 0 0, .slice none 0 0] 33) rfl rfl rfl
          have rowT := (RowIs.alloc w2 #[.int .i64 0, .string { data := #[] }, .slice none 0 0, .slice none 0 0] 33).setRow [.int .i64 tt.fID, .string (strB tt.fName), .slice aC tt.fColumns.length cC, .slice aK tt.fKey.length cK]
          have kV : Keep Nix w2 ((w2.alloc (.cells #[.int .i64 0, .string { data := #[] }, .slice none 0 0, .slice none 0 0] 33)).setRow w2.heap.size [.int .i64 tt.fID, .string (strB tt.fName), .slice aC tt.fColumns.length cC, .slice aK tt.fKey.length cK].toArray) := ((Keep.refl Nix w2).alloc (.cells #[.int .i64 0, .string { data := #[] }, .slice none 0 0, .slice none 0 0] 33)).setRow (fun h => absurd h (Nat.lt_irrefl _)) _
          have k3 := k2.trans kV
          replace row0 := row0.keep k3 id
          replace rowX := rowX.keep k3 id
          replace kk := kk.trans k3
          replace own := owned_keep own k3 (fun _ _ h => h)
          replace hxc := (rList_lawful (rInt_lawful _)).nix hxc k3
          have hsz2 := k3.size
          clear k2 k3 kV hT2 htC nC
          go_wp2_with fail
          clear hst
          generalize ((w2.alloc (.cells #[.int .i64 0, .string { data := #[] }, .slice none 0 0, .slice none 0 0] 33)).setRow w2.heap.size [.int .i64 tt.fID, .string (strB tt.fName), .slice aC tt.fColumns.length cC, .slice aK tt.fKey.length cK].toArray) = wy at *
          generalize w2.heap.size = bt at *
          have hmx := lastX_max k hk hg.out
          have hread := ids_read (l := idsX c k) own (idsX_len hk) (by unfold far; omega) (fun x hx => by
            unfold idsX at hx
            rcases List.mem_append.1 hx with hx | hx
            · obtain ⟨t, ht, rfl⟩ := List.mem_map.1 hx
              exact IDT.out t ht
            · obtain ⟨t, ht, rfl⟩ := List.mem_map.1 hx
              exact IDX.out t (List.mem_of_mem_take ht))
          have hkm : 0 < k → ∃ u : Int, wy.cell? ⟨b, o + (k - 1) * 7, none⟩ = some (.int .i64 u) ∧ u = lastX c k := fun h0 => by
            obtain ⟨b', o', cc', cs', e1, -, hb', r', hc'⟩ := rList_at rGIndex_lawful (by decide) ((rList_lawful rGIndex_lawful).nix hX kk) (k - 1) (by omega)
            simp only [List.cons.injEq, Value.slice.injEq, Option.some.injEq, Addr.mk.injEq, and_true] at e1
            obtain ⟨⟨rfl, rfl⟩, -, -⟩ := e1
            obtain ⟨_, _, rfl, -⟩ := rGIndex_open r'
            exact ⟨_, hc' 0 _ rfl, by
              have := lastX_succ (c := c) (i := k - 1) (by omega)
              rw [show k - 1 + 1 = k by omega] at this
              exact this.symm⟩
          have hla : k = 0 → lastX c k = 0 := fun h => by subst h; rfl
          generalize lastX c k = la at HQ hmx hkm hla
          have hu : ∃ u : Int, (decide (0 < k) = true → wy.cell? ⟨b, o + (k - 1) * 7, none⟩ = some (.int .i64 u)) ∧ (0 < k → u = la) := by
            rcases Nat.eq_zero_or_pos k with h | h
            · exact ⟨0, fun h' => absurd (of_decide_eq_true h') (by omega), fun h' => by omega⟩
            · obtain ⟨u, h1, h2⟩ := hkm h
              exact ⟨u, fun _ => h1, fun _ => h2⟩
          obtain ⟨u, hz, hu⟩ := hu
          have hbx : b < wy.heap.size := by omega
          have hl : x.fID ∈ idsX c k ↔ (tabOf c x.fID).2 = true ∨ x.fID ∈ (c.fIndexes.take k).map (·.fID) := by
            unfold idsX
            rw [List.mem_append]
            refine or_congr ⟨fun h => tabOf_of_mem h, fun h => ?_⟩ Iff.rfl
            exact Classical.byContradiction fun hn => by rw [tabOf_not_mem hn] at h; cases h
          obtain ⟨pp, hpp⟩ : ∃ pp, pp = placesR tt.fColumns.length x.fColumns := ⟨_, rfl⟩
          have hib : indexB c x = (is && (nameB x.fName && (pp && (!decide (x.fState < 1) && !decide (7 < x.fState))))) := by
            have e : decide (1 ≤ x.fState ∧ x.fState ≤ 7) = (!decide (x.fState < 1) && !decide (7 < x.fState)) := by
              rw [Bool.eq_iff_iff]; simp only [Bool.and_eq_true, decide_eq_true_eq, Bool.not_eq_true', decide_eq_false_iff_not]; omega
            rw [HIB.out, e, hpp]
            cases is with
            | false => rfl
            | true => rw [HPE.out rfl]
          obtain ⟨e9, HE9⟩ : ∃ e9, Hid (e9 = !(decide (la < x.fID) && (decide (x.fID < c.fNext) && (!(tabOf c x.fID).2 && indexB c x)))) := ⟨_, rfl⟩
          have HE := HE9.out.trans (bad21 hmx hl hla hu hib).symm
          have hIN : ∀ w', Keep Nix wy w' → Calls Try.prog 49 #[.slice ai (c.fTables.length + k) ci, .int .i64 x.fID] w' fun e w'' => e = .returned (.bool (decide (x.fID ∈ idsX c k))) ∧ w' = w'' := fun w' kW => In_c ai (c.fTables.length + k) ci (idsX c k) x.fID w' ((rList_lawful (rInt_lawful _)).nix hread kW)
          have hNM : ∀ w', Keep Nix wy w' → Calls Try.prog 52 #[.string (strB x.fName)] w' fun e w'' => e = .returned (.bool (nameB x.fName)) ∧ w' = w'' := fun w' _ => Name_s x.fName w' hx1
          have hPL : ∀ w', Keep Nix wy w' → Calls Try.prog 53 #[.slice aI x.fColumns.length cI, .int .i64 tt.fColumns.length] w' fun e w'' => e = .returned (.bool pp) ∧ ∃ q, w'' = w'.drewN q := fun w' kW => by rw [hpp]; exact rplaces_q aI x.fColumns.length cI x.fColumns tt.fColumns.length w' ((rList_lawful (rInt_lawful _)).nix hxc kW)
          have wyd : wy = wy := rfl
          refine R21 wy w.heap.size bx bt b o c.fIndexes.length cX k (c.fTables.length + k) ci ai c.fVersion c.fNext u _ x tt aI cI aC cC aK cK _ _ _ _ _ _ _ _ _ _ _ _ _ _ _ _ _ _ _ _ _ _ _ _ _ _ _ _ _ _ _ _ _ _ _ _ _ _ _ _ _ _ _ _ _ _ _ _ _ _ _ _ _ _ _ _ _ _ _ _ _ _ _ _ _ _ _ _ _ _ _ _ _ _ _ _ _ _ _ _ _ _ _ _ _ _ _ _ _ _ _ _ _ _ _ _ _ _ _ _ _ _ _ _ _ _ _ _ _ _ _ _ _ _ _ _ _ _ _ _ _ _ _ _ _ _ _ _ _ _ _ _ _ _ _ _ _ _ _ _ _ _ _ _ _ _ _ _ _ _ _ _ _ _ _ _ _ _ _ _ _ _ _ _ _ _ _ _ _ _ _ _ _ _ _ _ _ _ _ _ _ _ _ _ _ _ _ _ _ _ _ _ _ _ _ _ _ _ _ _ _ _ _ is _ pp _ _ _ _ _ _ _ _ _ e9 _ row0 rowX rowT hlt mX hbx hz hIN hNM hPL rfl rfl rfl rfl rfl rfl rfl rfl rfl rfl rfl rfl rfl rfl HE _ (show Shut _ from fun u124 u125 u126 u127 u128 u129 u130 u131 u132 u133 u134 u135 u136 u137 u138 u139 u140 u141 u142 u143 u144 u145 u146 u147 u148 u149 u150 u151 u152 u153 u154 u155 u156 u157 u158 u159 u160 u161 u162 u163 u164 u165 u166 u167 u168 u169 u170 u171 u172 u173 u174 u175 u176 u177 u178 u179 u180 u181 u182 u183 w1 kW => ?_)
          replace rowX := rowX.keep kW id
          replace row0 := row0.keep kW id
          replace own := owned_keep own kW (fun _ _ h => h)
          replace kk := kk.trans kW
          have HQ' : Hid (idxQ c k = (!e9 && decide (findB (fun o => decide (o.fName = x.fName)) c.fIndexes = (k : Int)))) := by show _ = _; rw [HQ.out, HE9.out]; cases decide (la < x.fID) <;> cases decide (x.fID < c.fNext) <;> cases (tabOf c x.fID).2 <;> cases indexB c x <;> rfl
          clear HQ HE HE9 hNM hPL hIN hread hmx hla hu hz hkm kW hbx hl hib hpp HIB HPE wyd rowT hxc
          cases e9 with
          | true =>
            have HF := Lib.hid (FIN2.out (HB.out (by rw [HQ'.out]; rfl)))
            go_wp2_with fail
            go_ret
            exact ⟨ret_bool HF.out.symm, kk⟩
          | false =>
          have HQ : Hid (idxQ c k = decide (findB (fun o => decide (o.fName = x.fName)) c.fIndexes = (k : Int))) := HQ'.out
          clear HQ'
          go_wp2_with fail
          go_loopw [11] (fun i wi => ∃ j : Nat, j ≤ k ∧ i = .int .i64 j ∧ Hid (∀ m, m < j → ∀ y, c.fIndexes[m]? = some y → y.fName ≠ x.fName) ∧ RowIs wi w.heap.size 25 [.int .i64 c.fVersion, .int .i64 c.fNext, .slice aT c.fTables.length cT, .slice (some ⟨b, o, none⟩) c.fIndexes.length cX] ∧ RowIs wi bx 37 [.int .i64 x.fID, .int .i64 x.fTable, .string (strB x.fName), .slice aI x.fColumns.length cI, .bool x.fUnique, .int .i64 x.fState, .bool x.fBad] ∧ wi.ownsRow (w.heap.size + 1) 3 1 (.slice ai (c.fTables.length + k) ci) (c.fTables.length + k) ((idsX c k).map (Value.int .i64)) ∧ Keep Nix w wi) (fun i _ => k - (intOf i).toNat)
          case atStart => exact ⟨0, by omega, rfl, fun j hj => by omega, row0, rowX, own, kk⟩
          case round =>
            clear row0 kk rowX own
            obtain ⟨j, hj, rfl, hgj, row0, rowX, own, kk⟩ := hrel
            by_cases hjk : j < k
            · have hj0 : (0 : Int) ≤ (j : Int) := by omega
              have hj1 : (j : Int) < (c.fIndexes.length : Int) := by omega
              have hjl : j < c.fIndexes.length := by omega
              obtain ⟨b', o', c', cs', e1, -, hb', r', hc'⟩ := rList_at rGIndex_lawful (by decide) ((rList_lawful rGIndex_lawful).nix hX kk) j hjl
              simp only [List.cons.injEq, Value.slice.injEq, Option.some.injEq, Addr.mk.injEq, and_true] at e1
              obtain ⟨⟨rfl, rfl⟩, -, -⟩ := e1
              have HY : Hid (c.fIndexes[j]? = some c.fIndexes[j]) := List.getElem?_eq_getElem hjl
              generalize c.fIndexes[j] = y at r' HY
              obtain ⟨_, _, rfl, -⟩ := rGIndex_open r'
              have z0 := hc' 2 _ rfl
              clear r' hc'
              have x3 := row0.cell 3
              simp only [List.getElem?_cons_succ, List.getElem?_cons_zero] at x3
              have y1 := rowX.cell 2
              simp only [List.getElem?_cons_succ, List.getElem?_cons_zero] at y1
              have HE := Lib.hid (strB_eq y.fName x.fName)
              by_cases he : y.fName = x.fName
              · have hE : ((strB y.fName).toList == (strB x.fName).toList) = true := by rw [HE.out]; exact decide_eq_true he
                have HH := Lib.hid (HM.out j hjk y HY.out he)
                clear he
                go_wp2_with fail
                go_quiet (fail)
                go_wp2_with fail
                go_ret
                exact ⟨ret_bool (FIN2.out (HB.out (by rw [HQ.out]; exact decide_eq_false HH.out))).symm, kk.drewN _⟩
              · have hE : ((strB y.fName).toList == (strB x.fName).toList) = false := by rw [HE.out]; exact decide_eq_false he
                have HH := Lib.hid he
                clear he
                go_wp2_with fail
                go_quiet (fail)
                go_wp2_with fail
                go_roundw
                case rel => exact ⟨j + 1, by omega, by go_num, fun m hm z hz => by
                  rcases Nat.lt_succ_iff_lt_or_eq.1 hm with h | rfl
                  · exact hgj.out m h z hz
                  · rw [HY.out] at hz; cases hz; exact HH.out, row0.same, rowX.same, owned_same own, kk.drewN _⟩
                case measure => simp [intOf]; omega
            · obtain rfl : j = k := by omega
              have y0 := rowX.cell 0
              simp only [List.getElem?_cons_zero] at y0
              have hs0 : w.heap.size + 1 ≤ _ := row0.lt
              go_wp2_with (at_builtin; refine wpl_append1 T_lint rfl (.tmp 199) (.tmp 202) rfl (w.heap.size + 1) rfl own rfl rfl ?c1 ?c2 ?c3 hs0 ?_)
              case c1 => rfl
              case c2 => unfold maxLen; omega
              case c3 => omega
              intro a' cap' w6 own6 k1
              replace row0 := row0.keep k1 (fun hb => by have := (own.lt _ hb).1; omega)
              replace kk := kk.then k1 (fun i hi hb => by have := (own.lt _ hb).1; omega)
              clear own k1 y0
              go_wp2
              go_roundw
              case rel => exact ⟨j + 1, a', cap', by omega, by go_num, rfl, by rw [HS.out, List.map_append]; exact own6, fun m hm => by
                rcases Nat.lt_succ_iff_lt_or_eq.1 hm with h | rfl
                · exact hg.out m h
                · rw [HQ.out]; exact decide_eq_true (HN.out (fun q hq => hgj.out q hq _ (List.getElem?_eq_getElem (by omega)))), row0, kk⟩
              case measure => simp [intOf]; omega
        · obtain rfl : k = c.fIndexes.length := by omega
          have HA2 : Hid (allB c.fIndexes.length (idxQ c) = true) := allB_good hg.out
          go_wp2_with fail
          go_ret
          exact ⟨ret_bool (by unfold rightB; rw [HH.out, HA.out, HA2.out]; rfl), kk⟩
end
end Go.Proofs.Ytfogbbnfedcldaa
