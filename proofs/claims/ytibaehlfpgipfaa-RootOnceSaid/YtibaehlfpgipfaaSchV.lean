/- SCHEMA: an index is let go, by the program. Printed by mac.py. -/
import Derived.Test.YtibaehlfpgipfaaSchU
namespace Go.Proofs.Ytibaehlfpgipfaa
open Go.RowKit

def setAt (c : GCatalog) (k : Nat) (x : GIndex) : GCatalog := { c with fVersion := c.fVersion + 1, fIndexes := c.fIndexes.set k x }
def cutAt (c : GCatalog) (k : Nat) : GCatalog := { c with fVersion := c.fVersion + 1, fIndexes := c.fIndexes.eraseIdx k }
def dropAt (c : GCatalog) (k : Nat) (x : GIndex) : GCatalog × Int :=
  if x.fState = 4 then (setAt c k { x with fState := 5 }, 0) else if 1 ≤ x.fState ∧ x.fState < 4 then (setAt c k { x with fState := 6 }, 0) else (c, 7)
def atI {α β : Type} (i : Int) (l : List α) (z : β) (f : Nat → α → β) : β := if i < 0 then z else match l[i.toNat]? with
  | none => z
  | some x => f i.toNat x
theorem atI_neg {α β : Type} {l : List α} {z : β} {f : Nat → α → β} : atI (-1) l z f = z := by unfold atI; rw [if_pos (by decide)]
theorem atI_nat {α β : Type} {l : List α} {z : β} {f : Nat → α → β} {k : Nat} (h : k < l.length) : atI (k : Int) l z f = f k l[k] := by
  unfold atI; rw [if_neg (by omega), Int.toNat_natCast, List.getElem?_eq_getElem h]
def dropF (c : GCatalog) (nm : List UInt8) : GCatalog × Int := atI (findB (fun x => decide (x.fName = nm)) c.fIndexes) c.fIndexes (c, 5) (dropAt c)
section
attribute [local go_sem ↓] ldz_Catalog stz_Catalog ldz_Index stz_Index
set_option maxRecDepth 100000 in
set_option maxHeartbeats 16000000 in
theorem sDrop_c {p : Nat → Prop} (c : GCatalog) (csc : List Value) (nm : List UInt8) (w : World) (hc : rGCatalog w p csc c) (hs : smallC c) (hv : c.fVersion ≤ 4611686018427387904) :
    Calls Try.prog 24 #[.agg csc.toArray, .string (strB nm)] w (Took rGCatalog w (dropF c nm)) := by
  obtain ⟨hlc, hcv, hcn, nT, nX⟩ := cat_facts hc
  have row0 : RowIs ((w.alloc (.cells csc.toArray 34)).alloc (.cells #[.int .i64 0, .int .i64 0, .slice none 0 0, .slice none 0 0] 34)) w.heap.size 34 csc := by have := (RowIs.alloc w csc.toArray 34).keep ((Keep.refl Nix _).alloc (.cells #[.int .i64 0, .int .i64 0, .slice none 0 0, .slice none 0 0] 34)) id; simpa using this
  have rowR : RowIs ((w.alloc (.cells csc.toArray 34)).alloc (.cells #[.int .i64 0, .int .i64 0, .slice none 0 0, .slice none 0 0] 34)) (w.heap.size + 1) 34 [.int .i64 0, .int .i64 0, .slice none 0 0, .slice none 0 0] := RowIs.alloc_at (w.alloc (.cells csc.toArray 34)) _ (by simp) #[.int .i64 0, .int .i64 0, .slice none 0 0, .slice none 0 0] 34
  have kk : Keep Nix w ((w.alloc (.cells csc.toArray 34)).alloc (.cells #[.int .i64 0, .int .i64 0, .slice none 0 0, .slice none 0 0] 34)) := ((Keep.refl Nix w).alloc _).alloc _
  have gc := rGCatalog_lawful.nix hc kk
  clear hc
  have ld0 := Whole.run (P := Try.prog) S_Catalog hlc row0
  go_enter Try.func24, Try.ntmps24
  go_wp2_with fail
  clear ld0
  go_fit (Own_o c _ _ gc hs)
  rintro e w1 ⟨csO, rfl, hOwn, k1⟩
  (try replace row0 := row0.keep k1 id)
  (try replace rowR := rowR.keep k1 id)
  (try replace rowO := rowO.keep k1 id)
  (try replace gc := rGCatalog_lawful.nix gc k1)
  (try replace hO := rGCatalog_lawful.nix hO k1)
  (try replace ownT := owned_keep ownT k1 (fun _ _ h => h))
  (try replace ownX := owned_keep ownX k1 (fun _ _ h => h))
  (try replace elsT := elsT.keep fGTable_lawful k1 (fun _ _ h => h))
  (try replace elsX := elsX.keep fGIndex_lawful k1 (fun _ _ h => h))
  replace kk := kk.trans k1
  clear k1
  have hO := hOwn.read hcv hcn nT nX
  obtain ⟨aO, cO, aP, cP, cssT, cssX, m, rfl, hbm, hmw, ownT, hTlt, elsT, ownX, elsX⟩ := hOwn
  have hs1 : w.heap.size + 1 + 1 + 1 + 1 + 1 ≤ m := by simp at hbm; omega
  have elsT := elsT.mono (q := fun b => w.heap.size + 1 + 1 + 1 + 1 + 1 ≤ b ∧ b < m) fGTable_lawful (fun b hb => ⟨by have := hb.1; simp at this; omega, hb.2.1⟩)
  have ownT := owned_base (base' := w.heap.size + 1 + 1 + 1 + 1 + 1) ownT (by simp)
  have hXlt : ∀ b, OwnB (.slice aP c.fIndexes.length cP) b → b < w1.heap.size := fun b hb => (ownX.lt b hb).2
  obtain ⟨hst, rowO, kV⟩ := boxed (P := Try.prog) (zs := [.int .i64 0, .int .i64 0, .slice none 0 0, .slice none 0 0]) S_Catalog w1 rfl (rGCatalog_lawful.len hO) (rGCatalog_ones hO)
  (try replace row0 := row0.keep kV id)
  (try replace rowR := rowR.keep kV id)
  (try replace rowO := rowO.keep kV id)
  (try replace gc := rGCatalog_lawful.nix gc kV)
  (try replace hO := rGCatalog_lawful.nix hO kV)
  (try replace ownT := owned_keep ownT kV (fun _ _ h => h))
  (try replace ownX := owned_keep ownX kV (fun _ _ h => h))
  (try replace elsT := elsT.keep fGTable_lawful kV (fun _ _ h => h))
  (try replace elsX := elsX.keep fGIndex_lawful kV (fun _ _ h => h))
  replace kk := kk.trans kV
  clear kV gc
  have ldO := Whole.run (P := Try.prog) S_Catalog rfl rowO
  have HF := Lib.hid (find_c c _ nm _ hO)
  clear hO
  go_wp2_with fail
  clear ldO hst
  go_fit HF.out
  rintro e w2 ⟨rfl, k2⟩
  (try replace row0 := row0.keep k2 id)
  (try replace rowR := rowR.keep k2 id)
  (try replace rowO := rowO.keep k2 id)
  (try replace gc := rGCatalog_lawful.nix gc k2)
  (try replace hO := rGCatalog_lawful.nix hO k2)
  (try replace ownT := owned_keep ownT k2 (fun _ _ h => h))
  (try replace ownX := owned_keep ownX k2 (fun _ _ h => h))
  (try replace elsT := elsT.keep fGTable_lawful k2 (fun _ _ h => h))
  (try replace elsX := elsX.keep fGIndex_lawful k2 (fun _ _ h => h))
  replace kk := kk.trans k2
  clear k2 HF
  have hO1 := rowO.lt
  rcases findB_cases (fun x : GIndex => decide (x.fName = nm)) c.fIndexes with ⟨h1, -⟩ | ⟨k, hk, h1, -, -⟩
  · rw [h1]
    have HR : Hid (dropF c nm = (c, 5)) := by show _ = _; unfold dropF; rw [h1, atI_neg]
    clear h1
    obtain ⟨hstR, rowF, HRES, HKF⟩ := finish (w := w) (d := c) rfl rfl rfl rowR rfl (by omega) (by omega) (by omega) hcv hcn rfl hs.2.2.1 (by have := hs.2.2.2; omega) ownT ownX elsT elsX (fun b hb => ⟨by have := hb.1; omega, by have := hb.2; omega⟩) (fun b hb => ⟨by have := hb.1; omega, by have := hb.2.1; omega⟩) kk
    have ldO := Whole.run (P := Try.prog) S_Catalog rfl rowO
    go_wp2_with fail
    refine bodyPost_ret (results_cell_row2 (by rfl) _ _ _ _ _ _ _ (by rfl) rowF Try.underlying34 (by rfl) (by exact S_Catalog.info)) rfl ?_
    rw [HR.out]
    exact ⟨_, rfl, HRES.out, rGCatalog_ones HRES.out, HKF.out⟩
  · rw [h1]
    have HR1 : Hid (dropF c nm = dropAt c k c.fIndexes[k]) := by show _ = _; unfold dropF; rw [h1, atI_nat hk]
    clear h1
    have hkX : k < cssX.length := by rw [elsX.1]; exact hk
    have fx := elsX.2 k _ _ (List.getElem?_eq_getElem hkX) (List.getElem?_eq_getElem hk)
    obtain ⟨x, hx⟩ : ∃ x, Hid (c.fIndexes[k] = x) := ⟨c.fIndexes[k], Lib.hid rfl⟩
    rw [hx.out] at fx HR1
    obtain ⟨aI, cI, hcs, -, -, e5, -⟩ := fGIndex_open fx
    obtain ⟨bX, rest, rfl, hbX, rowP, hlP, hxl, hnc, hcm⟩ := own_rowS ownX (by omega)
    have hl7 := elsX.lens fGIndex_lawful
    have hb1 := hXlt bX rfl
    have y5 := row_cell rowP hl7 hkX (j := 5) (u := .int .i64 x.fState) (by rw [hcs]; rfl)
    have f5 := rowP.frozen (k * 7 + 5)
    have hi0 : (0 : Int) ≤ (k : Int) := by omega
    have hi1 : (k : Int) < (c.fIndexes.length : Int) := by omega
    have mX : c.fIndexes.length ≤ 140737488351232 := by have := hs.2.2.2; omega
    have i2 : IntKind.i64.wrap (c.fVersion + 1) = c.fVersion + 1 := by have := hcv.1; rw [IntKind.wrap_i64]; omega
    have hcv2 : isI64 (c.fVersion + 1) := ⟨by have := hcv.1; omega, by omega⟩
    have x3 := rowO.cell 3
    (try simp only [List.getElem?_cons_succ] at x3); (try simp only [List.getElem?_cons_zero] at x3)
    have EH := Lib.hid hcs
    clear hcs
    rcases test_eq x.fState 4 with ⟨t4, hT4⟩ | ⟨t4, hT4⟩
    · have HR : Hid (dropF c nm = (setAt c k { x with fState := 5 }, 0)) := by show _ = _; rw [HR1.out]; unfold dropAt; rw [if_pos hT4.out]
      clear HR1 hT4
      have kA : Keep (· = bX) w2 (w2.setCell ⟨bX, k * 7 + 5, none⟩ (.int .i64 5)) := (Keep.refl (· = bX) w2).setCell (p := ⟨bX, k * 7 + 5, none⟩) (fun _ => rfl) _
      obtain ⟨rowP2, hlP2, hxl2⟩ := row_set3 rowP hl7 hkX (j := 5) (by decide) (.int .i64 5)
      have fx2 := fGIndex_state fx (s := 5) ⟨by decide, by decide⟩
      have ownX2 := row_own rowP2 hbX (hlP2.trans hlP) (hxl2.trans hxl) hnc hcm
      have elsX2 := (elsX.set (i := k) fx2).keep fGIndex_lawful kA (fun b hb e => hb.2.2 (by rw [e]; rfl))
      have rowO2 := rowO.keep kA (by omega)
      have rowR2 := rowR.keep kA (by omega)
      have ownT2 := owned_keep ownT kA (fun b hb e => by have := hTlt b hb; omega)
      have elsT2 := elsT.keep fGTable_lawful kA (fun b hb e => by have := hb.2; omega)
      have kk2 := kk.then kA (fun i hi e => by omega)
      have x0 := rowO2.cell 0
      (try simp only [List.getElem?_cons_succ] at x0); (try simp only [List.getElem?_cons_zero] at x0)
      have f0 := rowO2.frozen 0
      have rowO3 := rowO2.set 0 (.int .i64 (c.fVersion + 1))
      simp only [List.set_cons_zero] at rowO3
      have kB : Keep (· = w1.heap.size) (w2.setCell ⟨bX, k * 7 + 5, none⟩ (.int .i64 5)) ((w2.setCell ⟨bX, k * 7 + 5, none⟩ (.int .i64 5)).setCell ⟨w1.heap.size, 0, none⟩ (.int .i64 (c.fVersion + 1))) := (Keep.refl (· = w1.heap.size) _).setCell (p := ⟨w1.heap.size, 0, none⟩) (fun _ => rfl) _
      obtain ⟨hstR, rowF, HRES, HKF⟩ := finish (w := w) (c := c) (d := setAt c k { x with fState := 5 }) (ver := c.fVersion + 1) (nx := c.fNext) (nX := c.fIndexes.length) rfl rfl (List.length_set ..) (rowR2.keep kB (by omega)) rfl (by omega) (by omega) (by omega) hcv2 hcn rfl hs.2.2.1 (by show (c.fIndexes.set k _).length ≤ _; rw [List.length_set]; have := hs.2.2.2; omega)
        (owned_keep ownT2 kB (fun b hb e => by have := hTlt b hb; omega)) (owned_keep ownX2 kB (fun b hb e => by have := hXlt b hb; omega)) (elsT2.keep fGTable_lawful kB (fun b hb e => by have := hb.2; omega)) (elsX2.keep fGIndex_lawful kB (fun b hb e => by have := hb.2.1; omega))
        (fun b hb => ⟨by have := hb.1; omega, by have := hb.2; have := kA.size; have := kB.size; omega⟩) (fun b hb => ⟨by have := hb.1; omega, by have := hb.2.1; have := kA.size; have := kB.size; omega⟩) (kk2.then kB (fun i hi e => by omega))
      have ldO := Whole.run (P := Try.prog) S_Catalog rfl rowO3
      clear kA rowP rowP2 fx2 fx ownX2 elsX2 rowO2 rowR2 ownT2 elsT2 kk2 rowO3 kB ownT ownX elsT elsX hlP hlP2 hxl hxl2
      go_wp2_with fail
      refine bodyPost_ret (results_cell_row2 (by rfl) _ _ _ _ _ _ _ (by rfl) rowF Try.underlying34 (by rfl) (by exact S_Catalog.info)) rfl ?_
      rw [HR.out]
      exact ⟨_, rfl, HRES.out, rGCatalog_ones HRES.out, HKF.out⟩
    rcases Int.lt_or_le x.fState 1 with s1 | s1
    · have HR : Hid (dropF c nm = (c, 7)) := by show _ = _; rw [HR1.out]; unfold dropAt; rw [if_neg hT4, if_neg (by omega)]
      clear HR1 hT4
      obtain ⟨hstR, rowF, HRES, HKF⟩ := finish (w := w) (d := c) rfl rfl rfl rowR rfl (by omega) (by omega) (by omega) hcv hcn rfl hs.2.2.1 (by have := hs.2.2.2; omega) ownT ownX elsT elsX (fun b hb => ⟨by have := hb.1; omega, by have := hb.2; omega⟩) (fun b hb => ⟨by have := hb.1; omega, by have := hb.2.1; omega⟩) kk
      have ldO := Whole.run (P := Try.prog) S_Catalog rfl rowO
      go_wp2_with fail
      refine bodyPost_ret (results_cell_row2 (by rfl) _ _ _ _ _ _ _ (by rfl) rowF Try.underlying34 (by rfl) (by exact S_Catalog.info)) rfl ?_
      rw [HR.out]
      exact ⟨_, rfl, HRES.out, rGCatalog_ones HRES.out, HKF.out⟩
    rcases Int.lt_or_le x.fState 4 with s2 | s2
    · have HR : Hid (dropF c nm = (setAt c k { x with fState := 6 }, 0)) := by show _ = _; rw [HR1.out]; unfold dropAt; rw [if_neg hT4, if_pos ⟨s1, s2⟩]
      clear HR1 hT4
      have kA : Keep (· = bX) w2 (w2.setCell ⟨bX, k * 7 + 5, none⟩ (.int .i64 6)) := (Keep.refl (· = bX) w2).setCell (p := ⟨bX, k * 7 + 5, none⟩) (fun _ => rfl) _
      obtain ⟨rowP2, hlP2, hxl2⟩ := row_set3 rowP hl7 hkX (j := 5) (by decide) (.int .i64 6)
      have fx2 := fGIndex_state fx (s := 6) ⟨by decide, by decide⟩
      have ownX2 := row_own rowP2 hbX (hlP2.trans hlP) (hxl2.trans hxl) hnc hcm
      have elsX2 := (elsX.set (i := k) fx2).keep fGIndex_lawful kA (fun b hb e => hb.2.2 (by rw [e]; rfl))
      have rowO2 := rowO.keep kA (by omega)
      have rowR2 := rowR.keep kA (by omega)
      have ownT2 := owned_keep ownT kA (fun b hb e => by have := hTlt b hb; omega)
      have elsT2 := elsT.keep fGTable_lawful kA (fun b hb e => by have := hb.2; omega)
      have kk2 := kk.then kA (fun i hi e => by omega)
      have x0 := rowO2.cell 0
      (try simp only [List.getElem?_cons_succ] at x0); (try simp only [List.getElem?_cons_zero] at x0)
      have f0 := rowO2.frozen 0
      have rowO3 := rowO2.set 0 (.int .i64 (c.fVersion + 1))
      simp only [List.set_cons_zero] at rowO3
      have kB : Keep (· = w1.heap.size) (w2.setCell ⟨bX, k * 7 + 5, none⟩ (.int .i64 6)) ((w2.setCell ⟨bX, k * 7 + 5, none⟩ (.int .i64 6)).setCell ⟨w1.heap.size, 0, none⟩ (.int .i64 (c.fVersion + 1))) := (Keep.refl (· = w1.heap.size) _).setCell (p := ⟨w1.heap.size, 0, none⟩) (fun _ => rfl) _
      obtain ⟨hstR, rowF, HRES, HKF⟩ := finish (w := w) (c := c) (d := setAt c k { x with fState := 6 }) (ver := c.fVersion + 1) (nx := c.fNext) (nX := c.fIndexes.length) rfl rfl (List.length_set ..) (rowR2.keep kB (by omega)) rfl (by omega) (by omega) (by omega) hcv2 hcn rfl hs.2.2.1 (by show (c.fIndexes.set k _).length ≤ _; rw [List.length_set]; have := hs.2.2.2; omega)
        (owned_keep ownT2 kB (fun b hb e => by have := hTlt b hb; omega)) (owned_keep ownX2 kB (fun b hb e => by have := hXlt b hb; omega)) (elsT2.keep fGTable_lawful kB (fun b hb e => by have := hb.2; omega)) (elsX2.keep fGIndex_lawful kB (fun b hb e => by have := hb.2.1; omega))
        (fun b hb => ⟨by have := hb.1; omega, by have := hb.2; have := kA.size; have := kB.size; omega⟩) (fun b hb => ⟨by have := hb.1; omega, by have := hb.2.1; have := kA.size; have := kB.size; omega⟩) (kk2.then kB (fun i hi e => by omega))
      have ldO := Whole.run (P := Try.prog) S_Catalog rfl rowO3
      clear kA rowP rowP2 fx2 fx ownX2 elsX2 rowO2 rowR2 ownT2 elsT2 kk2 rowO3 kB ownT ownX elsT elsX hlP hlP2 hxl hxl2
      go_wp2_with fail
      refine bodyPost_ret (results_cell_row2 (by rfl) _ _ _ _ _ _ _ (by rfl) rowF Try.underlying34 (by rfl) (by exact S_Catalog.info)) rfl ?_
      rw [HR.out]
      exact ⟨_, rfl, HRES.out, rGCatalog_ones HRES.out, HKF.out⟩
    · have HR : Hid (dropF c nm = (c, 7)) := by show _ = _; rw [HR1.out]; unfold dropAt; rw [if_neg hT4, if_neg (by omega)]
      clear HR1 hT4
      obtain ⟨hstR, rowF, HRES, HKF⟩ := finish (w := w) (d := c) rfl rfl rfl rowR rfl (by omega) (by omega) (by omega) hcv hcn rfl hs.2.2.1 (by have := hs.2.2.2; omega) ownT ownX elsT elsX (fun b hb => ⟨by have := hb.1; omega, by have := hb.2; omega⟩) (fun b hb => ⟨by have := hb.1; omega, by have := hb.2.1; omega⟩) kk
      have ldO := Whole.run (P := Try.prog) S_Catalog rfl rowO
      go_wp2_with fail
      refine bodyPost_ret (results_cell_row2 (by rfl) _ _ _ _ _ _ _ (by rfl) rowF Try.underlying34 (by rfl) (by exact S_Catalog.info)) rfl ?_
      rw [HR.out]
      exact ⟨_, rfl, HRES.out, rGCatalog_ones HRES.out, HKF.out⟩
end
end Go.Proofs.Ytibaehlfpgipfaa
