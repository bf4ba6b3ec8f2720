/- SCHEMA: an index is let go, by the reference. Printed by mac.py. -/
import Derived.Test.YtfogbbnfedcldaaSchCa
import Derived.Test.YtfogbbnfedcldaaSchOa
namespace Go.Proofs.Ytfogbbnfedcldaa
open Go.RowKit

theorem setL_id {d to : Int} {bad : Bool} {l : List GIndex} (h : ∀ x ∈ l, x.fID ≠ d ∧ x.fState ≠ 0) : setL d to bad l = l := by
  unfold setL
  have h1 : l.map (setX d to bad) = l := by
    conv => rhs; rw [← List.map_id l]
    refine List.map_congr_left fun x hx => ?_
    unfold setX; rw [if_neg (h x hx).1]; rfl
  rw [h1, List.filter_eq_self]
  exact fun x hx => decide_eq_true (h x hx).2
theorem setL_at {d to : Int} {bad : Bool} {l : List GIndex} {k : Nat} (hk : k < l.length) (hd : l[k].fID = d) (h : ∀ i (hi : i < l.length), i ≠ k → l[i].fID ≠ d) (hs : ∀ x ∈ l, x.fState ≠ 0) :
    setL d to bad l = if to = 0 then l.eraseIdx k else l.set k { l[k] with fState := to, fBad := bad } := by
  have e : l = l.take k ++ (l[k] :: l.drop (k + 1)) := by rw [List.getElem_cons_drop, List.take_append_drop]
  have h1 : setL d to bad (l.take k) = l.take k := setL_id fun x hx => by
    obtain ⟨i, hi, rfl⟩ := List.mem_iff_getElem.1 hx
    rw [List.length_take] at hi
    rw [List.getElem_take]
    exact ⟨h i (by omega) (by omega), hs _ (List.getElem_mem _)⟩
  have h2 : setL d to bad (l.drop (k + 1)) = l.drop (k + 1) := setL_id fun x hx => by
    obtain ⟨i, hi, rfl⟩ := List.mem_iff_getElem.1 hx
    rw [List.length_drop] at hi
    rw [List.getElem_drop]
    exact ⟨h _ (by omega) (by omega), hs _ (List.getElem_mem _)⟩
  have happ : ∀ a b : List GIndex, setL d to bad (a ++ b) = setL d to bad a ++ setL d to bad b := fun a b => by unfold setL; rw [List.map_append, List.filter_append]
  have hx : setX d to bad l[k] = { l[k] with fState := to, fBad := bad } := by unfold setX; rw [if_pos hd]
  have h3 : setL d to bad [l[k]] = if to = 0 then [] else [{ l[k] with fState := to, fBad := bad }] := by
    unfold setL
    rw [List.map_cons, List.map_nil, hx]
    by_cases h0 : to = 0
    · rw [if_pos h0]; simp [h0]
    · rw [if_neg h0]; simp [h0]
  have hl : setL d to bad l = l.take k ++ ((if to = 0 then [] else [{ l[k] with fState := to, fBad := bad }]) ++ l.drop (k + 1)) := by
    conv => lhs; rw [e]
    rw [happ, h1, show (l[k] :: l.drop (k + 1)) = [l[k]] ++ l.drop (k + 1) from rfl, happ, h2, h3]
  rw [hl]
  by_cases h0 : to = 0
  · rw [if_pos h0, if_pos h0, List.eraseIdx_eq_take_drop_succ, List.nil_append]
  · rw [if_neg h0, if_neg h0, List.set_eq_take_append_cons_drop, if_pos hk]; rfl
theorem setF_at {c : GCatalog} (h : RightP c) {k : Nat} (hk : k < c.fIndexes.length) (to : Int) (bad : Bool) : setF c c.fIndexes[k].fID to bad = if to = 0 then cutAt c k else setAt c k { c.fIndexes[k] with fState := to, fBad := bad } := by
  have := setL_at (to := to) (bad := bad) hk rfl (fun i hi hne e => by
    rcases Nat.lt_or_gt_of_ne hne with h1 | h1
    · have := List.pairwise_iff_getElem.1 h.xid i k hi hk h1; omega
    · have := List.pairwise_iff_getElem.1 h.xid k i hk hi h1; omega) (fun x hx e => by have := indexB_state (h.xok x hx).2.2.2; omega)
  unfold setF
  rw [this]
  by_cases h0 : to = 0
  · rw [if_pos h0, if_pos h0]; rfl
  · rw [if_neg h0, if_neg h0]; rfl
def TookA {α : Type} (R : RD α) (p : Nat → Prop) (w : World) (y : α × Int) (e : Ending) (w' : World) : Prop := ∃ cs : List Value, e = .returned (.tuple #[.agg cs.toArray, .int .i64 y.2]) ∧ R w' (fun b => b < w'.heap.size ∧ (b < w.heap.size → p b)) cs y.1 ∧ ones cs = true ∧ Keep Nix w w'
/-- The catalog itself is handed back. -/
theorem same_back {p : Nat → Prop} {w cur : World} {c : GCatalog} {csc : List Value} {rb : Nat} {zs : List Value} (rowR : RowIs cur rb 25 zs) (hz : zs.length = 4) (hw : w.heap.size ≤ rb) (gc : rGCatalog cur p csc c) (hp : ∀ b, p b → b < w.heap.size) (kk : Keep Nix w cur) :
    (storeSem 25 (.pointer (some ⟨rb, 0, none⟩)) (.agg csc.toArray)).run Try.prog cur = .ok .skip (cur.setRow rb csc.toArray) ∧ RowIs (cur.setRow rb csc.toArray) rb 25 csc ∧
    Hid (rGCatalog (cur.setRow rb csc.toArray) (fun b => b < (cur.setRow rb csc.toArray).heap.size ∧ (b < w.heap.size → p b)) csc c) ∧ Hid (Keep Nix w (cur.setRow rb csc.toArray)) ∧ Hid ((Try.prog.info? 25).map (·.size) = some csc.toArray.size) := by
  have hl := rGCatalog_lawful.len gc
  obtain ⟨k1, k2⟩ := kk_set2 kk hw csc.toArray
  refine ⟨store_run S_Catalog rowR hz hl (rGCatalog_ones gc), rowR.setRow csc, ?_, k1, by show _ = _; rw [List.size_toArray, hl]; exact S_Catalog.info⟩
  exact rGCatalog_lawful.mono (rGCatalog_lawful.keep gc k2 (fun b hb e => by have := hp b hb; omega)) (fun b hb => ⟨by have := hp b hb; have := k1.size; omega, fun _ => hb⟩)
/-- A new catalog is handed back. -/
theorem new_back {p : Nat → Prop} {w cur : World} {c : GCatalog} {csc : List Value} {rb : Nat} {zs : List Value} (rowR : RowIs cur rb 25 zs) (hz : zs.length = 4) (hw : w.heap.size ≤ rb) (gc : rGCatalog cur (fun b => rb < b ∧ b < cur.heap.size) csc c) (kk : Keep Nix w cur) :
    (storeSem 25 (.pointer (some ⟨rb, 0, none⟩)) (.agg csc.toArray)).run Try.prog cur = .ok .skip (cur.setRow rb csc.toArray) ∧ RowIs (cur.setRow rb csc.toArray) rb 25 csc ∧
    Hid (rGCatalog (cur.setRow rb csc.toArray) (fun b => b < (cur.setRow rb csc.toArray).heap.size ∧ (b < w.heap.size → p b)) csc c) ∧ Hid (Keep Nix w (cur.setRow rb csc.toArray)) ∧ Hid ((Try.prog.info? 25).map (·.size) = some csc.toArray.size) := by
  have hl := rGCatalog_lawful.len gc
  obtain ⟨k1, k2⟩ := kk_set2 kk hw csc.toArray
  refine ⟨store_run S_Catalog rowR hz hl (rGCatalog_ones gc), rowR.setRow csc, ?_, k1, by show _ = _; rw [List.size_toArray, hl]; exact S_Catalog.info⟩
  exact rGCatalog_lawful.mono (rGCatalog_lawful.keep gc k2 (fun b hb e => by have := hb.1; omega)) (fun b hb => ⟨Nat.lt_of_lt_of_le hb.2 k2.size, fun h => by have := hb.1; omega⟩)
section
attribute [local go_sem ↓] ldz_Catalog stz_Catalog ldz_Index stz_Index
set_option maxRecDepth 100000 in
set_option maxHeartbeats 16000000 in
theorem rDrop_c {p : Nat → Prop} (c : GCatalog) (csc : List Value) (nm : List UInt8) (w : World) (hc : rGCatalog w p csc c) (hR : RightP c) (hs : smallC c) (hv : c.fVersion ≤ 4611686018427387904) (hp : ∀ b, p b → b < w.heap.size) :
    Calls Try.prog 39 #[.agg csc.toArray, .string (strB nm)] w (TookA rGCatalog p w (dropF c nm)) := by
  obtain ⟨hlc, hcv, hcn, nT, nX⟩ := cat_facts hc
  have row0 : RowIs ((w.alloc (.cells csc.toArray 25)).alloc (.cells #[.int .i64 0, .int .i64 0, .slice none 0 0, .slice none 0 0] 25)) w.heap.size 25 csc := by have := (RowIs.alloc w csc.toArray 25).keep ((Keep.refl Nix _).alloc (.cells #[.int .i64 0, .int .i64 0, .slice none 0 0, .slice none 0 0] 25)) id; simpa using this
  have rowR : RowIs ((w.alloc (.cells csc.toArray 25)).alloc (.cells #[.int .i64 0, .int .i64 0, .slice none 0 0, .slice none 0 0] 25)) (w.heap.size + 1) 25 [.int .i64 0, .int .i64 0, .slice none 0 0, .slice none 0 0] := RowIs.alloc_at (w.alloc (.cells csc.toArray 25)) _ (by simp) #[.int .i64 0, .int .i64 0, .slice none 0 0, .slice none 0 0] 25
  have kk : Keep Nix w ((w.alloc (.cells csc.toArray 25)).alloc (.cells #[.int .i64 0, .int .i64 0, .slice none 0 0, .slice none 0 0] 25)) := ((Keep.refl Nix w).alloc _).alloc _
  have gc := rGCatalog_lawful.nix hc kk
  clear hc
  have ld0 := Whole.run (P := Try.prog) S_Catalog hlc row0
  obtain ⟨y, HY⟩ : ∃ y, Hid (firstB (fun x => decide (x.fName = nm)) c.fIndexes zIdx = y) := ⟨_, rfl⟩
  have HC := rIndex_c c csc nm _ gc (fun b hb => Nat.lt_of_lt_of_le (hp b hb) kk.size)
  rw [HY.out] at HC
  have HCC := Lib.hid HC
  clear HC
  go_enter Try.func39, Try.ntmps39
  go_wp2_with fail
  clear ld0
  go_fit HCC.out
  obtain ⟨x, yb⟩ := y
  rintro e w1 ⟨csx, rfl, gx, k1⟩
  replace gx : rGIndex w1 p csx x := gx
  (try replace row0 := row0.keep k1 id)
  (try replace rowR := rowR.keep k1 id)
  (try replace rowX := rowX.keep k1 id)
  (try replace gc := rGCatalog_lawful.nix gc k1)
  (try replace gx := rGIndex_lawful.nix gx k1)
  replace kk := kk.trans k1
  clear k1 HCC
  have hlx := rGIndex_lawful.len gx
  obtain ⟨hst, rowX, kV⟩ := boxed (P := Try.prog) (zs := [.int .i64 0, .int .i64 0, .string { data := #[] }, .slice none 0 0, .bool false, .int .i64 0, .bool false]) S_Index w1 rfl hlx (rGIndex_ones gx)
  (try replace row0 := row0.keep kV id)
  (try replace rowR := rowR.keep kV id)
  (try replace rowX := rowX.keep kV id)
  (try replace gc := rGCatalog_lawful.nix gc kV)
  (try replace gx := rGIndex_lawful.nix gx kV)
  replace kk := kk.trans kV
  have hX1 := Lib.hid rowR.lt
  clear kV
  rcases findB_cases (fun x : GIndex => decide (x.fName = nm)) c.fIndexes with ⟨h1, h2⟩ | ⟨k, hk, h1, h2, h3⟩
  · have hyy := HY.out.symm.trans (firstB_none (z := zIdx) h2)
    obtain ⟨rfl, rfl⟩ := Prod.mk.inj hyy
    have HR : Hid (dropF c nm = (c, 5)) := by show _ = _; unfold dropF; rw [h1, atI_neg]
    clear h1 h2 hyy
    obtain ⟨hstR, rowF, HRES, HKF, HIN⟩ := same_back (w := w) rowR rfl (by omega) gc hp kk
    have ld0 := Whole.run (P := Try.prog) S_Catalog hlc row0
    go_wp2_with fail
    refine bodyPost_ret (results_cell_row2 (by rfl) _ _ _ _ _ _ _ (by rfl) rowF Try.underlying25 (by rfl) HIN.out) rfl ?_
    rw [HR.out]
    exact ⟨_, rfl, HRES.out, rGCatalog_ones HRES.out, HKF.out⟩
  · have hyy := HY.out.symm.trans (firstB_some (P := fun x : GIndex => decide (x.fName = nm)) (z := zIdx) k hk h2 h3)
    obtain ⟨hxk, rfl⟩ := Prod.mk.inj hyy
    have HR1 : Hid (dropF c nm = dropAt c k x) := by show _ = _; unfold dropF; rw [h1, atI_nat hk, hxk]
    have hin := indexB_state (hR.xok _ (List.getElem_mem hk)).2.2.2
    rw [← hxk] at hin
    have HSA : Hid (∀ to, to ≠ 0 → setF c x.fID to x.fBad = setAt c k { x with fState := to }) := fun to h0 => by
      rw [hxk, setF_at hR hk, if_neg h0]
    clear h1 h2 h3 hyy
    obtain ⟨aI, cI, rfl, -, -, -, -, -, -⟩ := rGIndex_open gx
    have x5 := rowX.cell 5
    (try simp only [List.getElem?_cons_succ] at x5); (try simp only [List.getElem?_cons_zero] at x5)
    have x0 := rowX.cell 0
    (try simp only [List.getElem?_cons_succ] at x0); (try simp only [List.getElem?_cons_zero] at x0)
    have x6 := rowX.cell 6
    (try simp only [List.getElem?_cons_succ] at x6); (try simp only [List.getElem?_cons_zero] at x6)
    clear hxk
    rcases Int.lt_or_le 4 x.fState with s4 | s4
    · have HR : Hid (dropF c nm = (c, 7)) := by show _ = _; rw [HR1.out]; unfold dropAt; rw [if_neg (by omega), if_neg (by omega)]
      clear HSA HR1
      obtain ⟨hstR, rowF, HRES, HKF, HIN⟩ := same_back (w := w) rowR rfl (by omega) gc hp kk
      have ld0 := Whole.run (P := Try.prog) S_Catalog hlc row0
      go_wp2_with fail
      refine bodyPost_ret (results_cell_row2 (by rfl) _ _ _ _ _ _ _ (by rfl) rowF Try.underlying25 (by rfl) HIN.out) rfl ?_
      rw [HR.out]
      exact ⟨_, rfl, HRES.out, rGCatalog_ones HRES.out, HKF.out⟩
    rcases test_eq x.fState 4 with ⟨t4, hT4⟩ | ⟨t4, hT4⟩
    · have HR : Hid (dropF c nm = (setF c x.fID 5 x.fBad, 0)) := by show _ = _; rw [HR1.out, HSA.out 5 (by decide)]; unfold dropAt; rw [if_pos hT4.out]
      clear HSA HR1 hT4
      have ld0 := Whole.run (P := Try.prog) S_Catalog hlc row0
      go_wp2_with fail
      clear ld0
      have HC := set_c c csc x.fID 5 x.fBad _ gc hs hv ⟨by decide, by decide⟩
      go_fit HC
      clear HC
      rintro e w3 ⟨csn, rfl, gn, k3⟩
      replace gn := rGCatalog_lawful.mono gn (q := fun b => w.heap.size + 1 < b ∧ b < w3.heap.size) (fun b hb => ⟨by have := hb.1; have := hX1.out; omega, hb.2⟩)
      (try replace row0 := row0.keep k3 id)
      (try replace rowR := rowR.keep k3 id)
      (try replace rowX := rowX.keep k3 id)
      (try replace gc := rGCatalog_lawful.nix gc k3)
      (try replace gx := rGIndex_lawful.nix gx k3)
      replace kk := kk.trans k3
      clear k3
      obtain ⟨hstR, rowF, HRES, HKF, HIN⟩ := new_back (p := p) (w := w) rowR rfl (by omega) gn kk
      go_wp2_with fail
      refine bodyPost_ret (results_cell_row2 (by rfl) _ _ _ _ _ _ _ (by rfl) rowF Try.underlying25 (by rfl) HIN.out) rfl ?_
      rw [HR.out]
      exact ⟨_, rfl, HRES.out, rGCatalog_ones HRES.out, HKF.out⟩
    · have HR : Hid (dropF c nm = (setF c x.fID 6 x.fBad, 0)) := by show _ = _; rw [HR1.out, HSA.out 6 (by decide)]; unfold dropAt; rw [if_neg hT4, if_pos (by omega)]
      clear HSA HR1 hT4
      have ld0 := Whole.run (P := Try.prog) S_Catalog hlc row0
      go_wp2_with fail
      clear ld0
      have HC := set_c c csc x.fID 6 x.fBad _ gc hs hv ⟨by decide, by decide⟩
      go_fit HC
      clear HC
      rintro e w3 ⟨csn, rfl, gn, k3⟩
      replace gn := rGCatalog_lawful.mono gn (q := fun b => w.heap.size + 1 < b ∧ b < w3.heap.size) (fun b hb => ⟨by have := hb.1; have := hX1.out; omega, hb.2⟩)
      (try replace row0 := row0.keep k3 id)
      (try replace rowR := rowR.keep k3 id)
      (try replace rowX := rowX.keep k3 id)
      (try replace gc := rGCatalog_lawful.nix gc k3)
      (try replace gx := rGIndex_lawful.nix gx k3)
      replace kk := kk.trans k3
      clear k3
      obtain ⟨hstR, rowF, HRES, HKF, HIN⟩ := new_back (p := p) (w := w) rowR rfl (by omega) gn kk
      go_wp2_with fail
      refine bodyPost_ret (results_cell_row2 (by rfl) _ _ _ _ _ _ _ (by rfl) rowF Try.underlying25 (by rfl) HIN.out) rfl ?_
      rw [HR.out]
      exact ⟨_, rfl, HRES.out, rGCatalog_ones HRES.out, HKF.out⟩
end
end Go.Proofs.Ytfogbbnfedcldaa
