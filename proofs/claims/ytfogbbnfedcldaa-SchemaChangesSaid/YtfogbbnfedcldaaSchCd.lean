/- SCHEMA: a table is added, by the reference. Printed by mac.py. -/
import Derived.Test.YtfogbbnfedcldaaSchCc
namespace Go.Proofs.Ytfogbbnfedcldaa
open Go.RowKit

theorem bump {w : World} {q : Nat → Prop} {v n : Int} {aT aX : Option Addr} {nT cT nX cX : Nat} {N : GCatalog} (h : rGCatalog w q [.int .i64 v, .int .i64 n, .slice aT nT cT, .slice aX nX cX] N) (hv : isI64 (N.fVersion + 1)) (hn : isI64 (N.fNext + 1)) :
    rGCatalog w q [.int .i64 (N.fVersion + 1), .int .i64 (N.fNext + 1), .slice aT nT cT, .slice aX nX cX] { N with fVersion := N.fVersion + 1, fNext := N.fNext + 1 } := by
  obtain ⟨_, _, _, _, e, -, -, h1, h2, -⟩ := rGCatalog_open h
  simp only [List.cons.injEq, Value.slice.injEq, Value.int.injEq, and_true, true_and] at e
  obtain ⟨-, -, ⟨rfl, rfl, rfl⟩, rfl, rfl, rfl⟩ := e
  exact rGCatalog_mk w q (x := { N with fVersion := N.fVersion + 1, fNext := N.fNext + 1 }) hv hn h1 h2
section
attribute [local go_sem ↓] ldz_Catalog stz_Catalog ldz_Table stz_Table lsz_Table
set_option maxRecDepth 100000 in
set_option maxHeartbeats 32000000 in
theorem rAddTable_c {p : Nat → Prop} (c : GCatalog) (csc : List Value) (t : GTable) (cst : List Value) (w : World) (hc : rGCatalog w p csc c) (ht : rGTable w p cst t) (hs : smallC c) (hv : c.fVersion ≤ 4611686018427387904) (hp : ∀ b, p b → b < w.heap.size) :
    Calls Try.prog 41 #[.agg csc.toArray, .agg cst.toArray] w (TookA rGCatalog p w (addTableF c t)) := by
  obtain ⟨hlc, hcv, hcn, nT, nX⟩ := cat_facts hc
  have row0 : RowIs (((w.alloc (.cells csc.toArray 25)).alloc (.cells cst.toArray 33)).alloc (.cells #[.int .i64 0, .int .i64 0, .slice none 0 0, .slice none 0 0] 25)) w.heap.size 25 csc := by have := ((RowIs.alloc w csc.toArray 25).keep ((Keep.refl Nix _).alloc (.cells cst.toArray 33)) id).keep ((Keep.refl Nix _).alloc (.cells #[.int .i64 0, .int .i64 0, .slice none 0 0, .slice none 0 0] 25)) id; simpa using this
  have rowT : RowIs (((w.alloc (.cells csc.toArray 25)).alloc (.cells cst.toArray 33)).alloc (.cells #[.int .i64 0, .int .i64 0, .slice none 0 0, .slice none 0 0] 25)) (w.heap.size + 1) 33 cst := by have := (RowIs.alloc_at (w.alloc (.cells csc.toArray 25)) (w.heap.size + 1) (by simp) cst.toArray 33).keep ((Keep.refl Nix _).alloc (.cells #[.int .i64 0, .int .i64 0, .slice none 0 0, .slice none 0 0] 25)) id; simpa using this
  have rowR : RowIs (((w.alloc (.cells csc.toArray 25)).alloc (.cells cst.toArray 33)).alloc (.cells #[.int .i64 0, .int .i64 0, .slice none 0 0, .slice none 0 0] 25)) (w.heap.size + 1 + 1) 25 [.int .i64 0, .int .i64 0, .slice none 0 0, .slice none 0 0] := RowIs.alloc_at ((w.alloc (.cells csc.toArray 25)).alloc (.cells cst.toArray 33)) _ (by simp) #[.int .i64 0, .int .i64 0, .slice none 0 0, .slice none 0 0] 25
  have kk : Keep Nix w (((w.alloc (.cells csc.toArray 25)).alloc (.cells cst.toArray 33)).alloc (.cells #[.int .i64 0, .int .i64 0, .slice none 0 0, .slice none 0 0] 25)) := (((Keep.refl Nix w).alloc _).alloc _).alloc _
  have gc := rGCatalog_lawful.nix hc kk
  have gt := rGTable_lawful.nix ht kk
  clear hc
  obtain ⟨aC, cC, aK, cK, rfl, -, hq1, hq2, hq3, -⟩ := rGTable_open ht
  clear ht hq2 hq3
  have ld0 := Whole.run (P := Try.prog) S_Catalog hlc row0
  have y1 := rowT.cell 1
  (try simp only [List.getElem?_cons_succ] at y1); (try simp only [List.getElem?_cons_zero] at y1)
  obtain ⟨y, HY⟩ : ∃ y, Hid (firstB (fun x => decide (x.fName = t.fName)) c.fTables zTab = y) := ⟨_, rfl⟩
  have HC := rTable_c c csc t.fName _ gc (fun b hb => Nat.lt_of_lt_of_le (hp b hb) kk.size)
  rw [HY.out] at HC
  have HCC := Lib.hid HC
  clear HC
  go_enter Try.func41, Try.ntmps41
  go_wp2_with fail
  clear ld0 y1
  go_fit HCC.out
  obtain ⟨u, yb⟩ := y
  rintro e w1 ⟨csu, rfl, gu, k1⟩
  replace gu : rGTable w1 p csu u := gu
  (try replace row0 := row0.keep k1 id)
  (try replace rowR := rowR.keep k1 id)
  (try replace rowX := rowX.keep k1 id)
  (try replace rowT := rowT.keep k1 id)
  (try replace gc := rGCatalog_lawful.nix gc k1)
  (try replace gt := rGTable_lawful.nix gt k1)
  replace kk := kk.trans k1
  clear k1 HCC
  obtain ⟨hst, rowU, kV⟩ := boxed (P := Try.prog) (zs := [.int .i64 0, .string { data := #[] }, .slice none 0 0, .slice none 0 0]) S_Table w1 rfl (rGTable_lawful.len gu) (rGTable_ones gu)
  (try replace row0 := row0.keep kV id)
  (try replace rowR := rowR.keep kV id)
  (try replace rowX := rowX.keep kV id)
  (try replace rowT := rowT.keep kV id)
  (try replace gc := rGCatalog_lawful.nix gc kV)
  (try replace gt := rGTable_lawful.nix gt kV)
  replace kk := kk.trans kV
  clear kV rowU gu
  have ldT := Whole.run (P := Try.prog) S_Table rfl rowT
  obtain ⟨tb, HTB⟩ : ∃ b, Hid (tableB t = b) := ⟨_, rfl⟩
  have HC := rTableRight_c t _ _ gt
  rw [HTB.out] at HC
  have HCC := Lib.hid HC
  clear HC
  go_wp2_with fail
  clear hst ldT
  go_fit HCC.out
  rintro e w2 ⟨rfl, k2⟩
  (try replace row0 := row0.keep k2 id)
  (try replace rowR := rowR.keep k2 id)
  (try replace rowX := rowX.keep k2 id)
  (try replace rowT := rowT.keep k2 id)
  (try replace gc := rGCatalog_lawful.nix gc k2)
  (try replace gt := rGTable_lawful.nix gt k2)
  replace kk := kk.trans k2
  clear k2 HCC
  cases tb with
  | false =>
    have HR : Hid (addTableF c t = (c, 9)) := by show _ = _; unfold addTableF; rw [if_pos HTB.out]
    obtain ⟨hstR, rowF, HRES, HKF, HIN⟩ := same_back (w := w) rowR rfl (by omega) gc hp kk
    have ld0 := Whole.run (P := Try.prog) S_Catalog hlc row0
    go_wp2_with fail
    refine bodyPost_ret (results_cell_row2 (by rfl) _ _ _ _ _ _ _ (by rfl) rowF Try.underlying25 (by rfl) HIN.out) rfl ?_
    rw [HR.out]
    exact ⟨_, rfl, HRES.out, rGCatalog_ones HRES.out, HKF.out⟩
  | true =>
  cases yb with
  | true =>
    have HR : Hid (addTableF c t = (c, 6)) := by show _ = _; unfold addTableF; rw [if_neg (by rw [HTB.out]; simp), if_pos (by rw [HY.out])]
    obtain ⟨hstR, rowF, HRES, HKF, HIN⟩ := same_back (w := w) rowR rfl (by omega) gc hp kk
    have ld0 := Whole.run (P := Try.prog) S_Catalog hlc row0
    go_wp2_with fail
    refine bodyPost_ret (results_cell_row2 (by rfl) _ _ _ _ _ _ _ (by rfl) rowF Try.underlying25 (by rfl) HIN.out) rfl ?_
    rw [HR.out]
    exact ⟨_, rfl, HRES.out, rGCatalog_ones HRES.out, HKF.out⟩
  | false =>
  have HRR : Hid (∀ r, (if 6 ≤ c.fTables.length ∨ 1073741824 ≤ c.fNext then (c, (4 : Int)) else ({ c with fVersion := c.fVersion + 1, fNext := c.fNext + 1, fTables := c.fTables ++ [{ t with fID := c.fNext }] }, 0)) = r → addTableF c t = r) := fun r hr => by
    unfold addTableF; rw [if_neg (by rw [HTB.out]; simp), if_neg (by rw [HY.out]; simp)]; exact hr
  have mT : c.fTables.length ≤ 140737488351232 := by have := hs.2.2.1; omega
  obtain ⟨aT0, cT0, aX0, cX0, rfl, -⟩ := rGCatalog_open gc
  have x2 := row0.cell 2
  (try simp only [List.getElem?_cons_succ] at x2); (try simp only [List.getElem?_cons_zero] at x2)
  have x1 := row0.cell 1
  (try simp only [List.getElem?_cons_succ] at x1); (try simp only [List.getElem?_cons_zero] at x1)
  by_cases hfull : 6 ≤ c.fTables.length ∨ 1073741824 ≤ c.fNext
  · have HR : Hid (addTableF c t = (c, 4)) := HRR.out _ (if_pos hfull)
    clear HRR
    rcases Nat.lt_or_ge c.fTables.length 6 with h6 | h6
    · have h7 : 1073741824 ≤ c.fNext := by omega
      clear hfull
      obtain ⟨hstR, rowF, HRES, HKF, HIN⟩ := same_back (w := w) rowR rfl (by omega) gc hp kk
      have ld0 := Whole.run (P := Try.prog) S_Catalog hlc row0
      go_wp2_with fail
      refine bodyPost_ret (results_cell_row2 (by rfl) _ _ _ _ _ _ _ (by rfl) rowF Try.underlying25 (by rfl) HIN.out) rfl ?_
      rw [HR.out]
      exact ⟨_, rfl, HRES.out, rGCatalog_ones HRES.out, HKF.out⟩
    · clear hfull
      obtain ⟨hstR, rowF, HRES, HKF, HIN⟩ := same_back (w := w) rowR rfl (by omega) gc hp kk
      have ld0 := Whole.run (P := Try.prog) S_Catalog hlc row0
      go_wp2_with fail
      refine bodyPost_ret (results_cell_row2 (by rfl) _ _ _ _ _ _ _ (by rfl) rowF Try.underlying25 (by rfl) HIN.out) rfl ?_
      rw [HR.out]
      exact ⟨_, rfl, HRES.out, rGCatalog_ones HRES.out, HKF.out⟩
  have HRp := Lib.hid (HRR.out _ (if_neg hfull))
  have h6 : c.fTables.length < 6 := by omega
  have h7 : c.fNext < 1073741824 := by omega
  obtain ⟨ht1, ht2⟩ := tableB_small HTB.out
  clear hfull HRR
  have ld0 := Whole.run (P := Try.prog) S_Catalog hlc row0
  go_wp2_with fail
  clear ld0 x2 x1
  have kkB := Lib.hid rowR.lt
  go_fit (Copy_o c _ _ gc hs)
  rintro e w3 ⟨csn, rfl, hOwn, k3⟩
  (try replace row0 := row0.keep k3 id)
  (try replace rowR := rowR.keep k3 id)
  (try replace rowX := rowX.keep k3 id)
  (try replace rowT := rowT.keep k3 id)
  (try replace gc := rGCatalog_lawful.nix gc k3)
  (try replace gt := rGTable_lawful.nix gt k3)
  replace kk := kk.trans k3
  clear k3
  obtain ⟨aN, cN, aM, cM, cssT, cssX, m, rfl, hbm, hmw, ownT, hTlt, elsT, ownX, elsX⟩ := hOwn
  have hXl : Hid (∀ b, OwnB (.slice aM c.fIndexes.length cM) b → m ≤ b ∧ b < w3.heap.size) := fun b hb => ownX.lt b hb
  have hgR : Hid (w.heap.size + 1 + 1 < w3.heap.size) := rowR.lt
  have hgR' := hgR.out
  have hbase := Lib.hid hbm
  obtain ⟨hst, rowN, kV⟩ := boxed (P := Try.prog) (zs := [.int .i64 0, .int .i64 0, .slice none 0 0, .slice none 0 0]) (cs := [.int .i64 c.fVersion, .int .i64 c.fNext, .slice aN c.fTables.length cN, .slice aM c.fIndexes.length cM]) S_Catalog w3 rfl rfl rfl
  (try replace row0 := row0.keep kV id)
  (try replace rowR := rowR.keep kV id)
  (try replace rowX := rowX.keep kV id)
  (try replace rowT := rowT.keep kV id)
  (try replace gc := rGCatalog_lawful.nix gc kV)
  (try replace gt := rGTable_lawful.nix gt kV)
  replace kk := kk.trans kV
  replace ownT := owned_keep ownT kV (fun _ _ h => h)
  replace ownX := owned_keep ownX kV (fun _ _ h => h)
  replace elsT := elsT.keep fGTable_lawful kV (fun _ _ h => h)
  replace elsX := elsX.keep fGIndex_lawful kV (fun _ _ h => h)
  clear kV
  have hbm1 : w.heap.size + 1 + 1 < m := by have := kkB.out; omega
  have hTg : ∀ b, OwnB (.slice aN c.fTables.length cN) b → w.heap.size + 1 + 1 < b ∧ b < m := fun b hb => ⟨by have := (ownT.lt b hb).1; have := kkB.out; omega, hTlt b hb⟩
  have hXg : ∀ b, OwnB (.slice aM c.fIndexes.length cM) b → m ≤ b ∧ b < w3.heap.size := fun b hb => hXl.out b hb
  have kS : Keep (· = w.heap.size + 1) ((w3.alloc (.cells #[.int .i64 0, .int .i64 0, .slice none 0 0, .slice none 0 0] 25)).setRow w3.heap.size [.int .i64 c.fVersion, .int .i64 c.fNext, .slice aN c.fTables.length cN, .slice aM c.fIndexes.length cM].toArray) (((w3.alloc (.cells #[.int .i64 0, .int .i64 0, .slice none 0 0, .slice none 0 0] 25)).setRow w3.heap.size [.int .i64 c.fVersion, .int .i64 c.fNext, .slice aN c.fTables.length cN, .slice aM c.fIndexes.length cM].toArray).setCell ⟨w.heap.size + 1, 0, none⟩ (.int .i64 c.fNext)) := (Keep.refl (· = w.heap.size + 1) _).setCell (p := ⟨w.heap.size + 1, 0, none⟩) (fun _ => rfl) _
  have x1 := row0.cell 1
  (try simp only [List.getElem?_cons_succ] at x1); (try simp only [List.getElem?_cons_zero] at x1)
  have y0 := rowT.cell 0
  (try simp only [List.getElem?_cons_succ] at y0); (try simp only [List.getElem?_cons_zero] at y0)
  have f0 := rowT.frozen 0
  have rowT2 := rowT.set 0 (.int .i64 c.fNext)
  simp only [List.set_cons_zero] at rowT2
  have rowN2 := rowN.keep kS (by omega)
  have z2 := rowN2.cell 2
  (try simp only [List.getElem?_cons_succ] at z2); (try simp only [List.getElem?_cons_zero] at z2)
  have ldT := Whole.run (P := Try.prog) S_Table rfl rowT2
  have hls := list_run (P := Try.prog) T_lTable (by decide) [.int .i64 c.fNext, .string (strB t.fName), .slice aC t.fColumns.length cC, .slice aK t.fKey.length cK] rfl (((w3.alloc (.cells #[.int .i64 0, .int .i64 0, .slice none 0 0, .slice none 0 0] 25)).setRow w3.heap.size [.int .i64 c.fVersion, .int .i64 c.fNext, .slice aN c.fTables.length cN, .slice aM c.fIndexes.length cM].toArray).setCell ⟨w.heap.size + 1, 0, none⟩ (.int .i64 c.fNext))
  have ownT2 := owned_keep ownT kS (fun b hb e => by have := hTg b hb; omega)
  have ownX2 := owned_keep ownX kS (fun b hb e => by have := hXg b hb; omega)
  have elsT2 := elsT.keep fGTable_lawful kS (fun b hb e => by have := hb.1; have := kkB.out; omega)
  have elsX2 := elsX.keep fGIndex_lawful kS (fun b hb e => by have := hb.1; omega)
  have gt2 := rGTable_lawful.keep gt kS (fun b hb e => by have := hp b hb; omega)
  have rowR2 := rowR.keep kS (by omega)
  have kk2 := kk.then kS (fun i hi e => by omega)
  have HSA : Hid (((((w3.alloc (.cells #[.int .i64 0, .int .i64 0, .slice none 0 0, .slice none 0 0] 25)).setRow w3.heap.size [.int .i64 c.fVersion, .int .i64 c.fNext, .slice aN c.fTables.length cN, .slice aM c.fIndexes.length cM].toArray).setCell ⟨w.heap.size + 1, 0, none⟩ (.int .i64 c.fNext))).heap.size = w3.heap.size + 1) := (size_setCell _ _ _).trans ((size_setRow _ _ _).trans (by simp))
  clear ownT ownX elsT elsX gt rowR kk kS rowT
  go_wp2_with (at_builtin; refine wpl_append1_at (c := 1) T_lTable ?hgd (.tmp 41) (.tmp 43) ?ho _ ?hs ownT2 ?hx ?c0 ?c1 ?c2 ?c3 ?c4 ?_)
  case hgd => rfl
  case ho => rfl
  case hs => rfl
  case hx => rw [HSA.out]; rfl
  case c0 => rfl
  case c1 => exact ⟨rfl, rfl, rfl, rfl⟩
  case c2 => unfold maxLen; omega
  case c3 => omega
  case c4 => rw [HSA.out]; have := hbase.out; omega
  intro a7 c7 w7 own7 k7 hfresh
  have hA1 := HSA.out
  have hs7 := k7.size
  have hw3 : w3.heap.size < w7.heap.size := by omega
  have hTn : ∀ b, OwnB (.slice aN c.fTables.length cN) b → b ≠ w3.heap.size ∧ w.heap.size + 1 + 1 < b ∧ b < w3.heap.size := fun b hb => by have := hTg b hb; omega
  have h7g : ∀ b, OwnB (.slice a7 (c.fTables.length + 1) c7) b → b ≠ w3.heap.size := fun b hb => by
    rcases hfresh b hb with h | h
    · exact (hTn b h).1
    · omega
  have rowN7 := rowN2.keep k7 (fun hb => (hTn _ hb).1 rfl)
  have rowR7 := rowR2.keep k7 (fun hb => by have := hTn _ hb; omega)
  have kk7 := kk2.then k7 (fun i hi hb => by have := hTn _ hb; omega)
  have gt7 := rGTable_lawful.keep gt2 k7 (fun b hb e => by have := hTn _ e; have := hp b hb; omega)
  have ownX7 := owned_keep ownX2 k7 (fun b hb e => by have := hTg _ e; have := hXg b hb; omega)
  have elsX7 := elsX2.keep fGIndex_lawful k7 (fun b hb e => by have := hTg _ e; have := hb.1; omega)
  have elsT7 := elsT2.keep fGTable_lawful k7 (fun b hb e => hb.2.2 e)
  have x3 := rowN7.cell 2
  (try simp only [List.getElem?_cons_succ] at x3); (try simp only [List.getElem?_cons_zero] at x3)
  have f3 := rowN7.frozen 2
  have kN : Keep (· = w3.heap.size) w7 (w7.setCell ⟨w3.heap.size, 2, none⟩ (.slice a7 (c.fTables.length + 1) c7)) := (Keep.refl (· = w3.heap.size) w7).setCell (p := ⟨w3.heap.size, 2, none⟩) (fun _ => rfl) _
  obtain ⟨t', ht'⟩ : ∃ t' : GTable, t' = { t with fID := c.fNext } := ⟨_, rfl⟩
  obtain ⟨N1, hN1⟩ : ∃ N1 : GCatalog, N1 = { c with fTables := c.fTables ++ [t'] } := ⟨_, rfl⟩
  have hne : ∀ b, p b → b ≠ w3.heap.size := fun b hb => by have := hp b hb; omega
  have rT : rGTable w7 (fun b => b ≠ w3.heap.size) [.int .i64 c.fNext, .string (strB t.fName), .slice aC t.fColumns.length cC, .slice aK t.fKey.length cK] t' := by
    rw [ht']
    obtain ⟨_, _, _, _, e, -, z1, z2, z3, -⟩ := rGTable_open gt7
    simp only [List.cons.injEq, Value.slice.injEq, and_true, true_and] at e
    obtain ⟨⟨rfl, rfl⟩, rfl, rfl⟩ := e
    exact rGTable_lawful.mono (rGTable_mk w7 _ (x := { t with fID := c.fNext }) hcn z1 z2 z3) hne
  have elsN : Els rGTable w7 (fun b => b ≠ w3.heap.size) (cssT ++ [[.int .i64 c.fNext, .string (strB t.fName), .slice aC t.fColumns.length cC, .slice aK t.fKey.length cK]]) (c.fTables ++ [t']) :=
    Els.snoc ⟨elsT7.1, fun i cc x h1 h2 => rGTable_lawful.mono (fGTable_to (elsT7.2 i cc x h1 h2)) (fun b hb => by have h3 := hb.2.1; omega)⟩ rT
  have hln : (c.fTables ++ [t']).length = c.fTables.length + 1 := by simp
  have rL : rList rGTable w7 (fun b => b ≠ w3.heap.size) [.slice a7 (c.fTables.length + 1) c7] (c.fTables ++ [t']) := by
    rw [← hln]
    exact list_owned (R := rGTable) (css := cssT ++ [[.int .i64 c.fNext, .string (strB t.fName), .slice aC t.fColumns.length cC, .slice aK t.fKey.length cK]]) (by rw [hln]; simpa using own7) elsN (by rw [hln]; unfold far; omega) (fun _ _ h => h) (fun b h1 h2 => by rw [hln] at h2; exact h7g b h2)
  have rX : rList rGIndex w7 (fun b => b ≠ w3.heap.size) [.slice aM c.fIndexes.length cM] c.fIndexes :=
    list_owned (R := fGIndex) ownX7 elsX7 (by unfold far; have := hs.2.2.2; omega) (fun _ _ h => rGIndex_lawful.mono (fGIndex_to h) (fun b hb => by have := hb.2.1; omega)) (fun b h1 h2 => by have := hXg b h2; omega)
  have rN1 : rGCatalog (w7.setCell ⟨w3.heap.size, 2, none⟩ (.slice a7 (c.fTables.length + 1) c7)) (fun b => b ≠ w3.heap.size) [.int .i64 c.fVersion, .int .i64 c.fNext, .slice a7 (c.fTables.length + 1) c7, .slice aM c.fIndexes.length cM] N1 := by
    have e : ([.int .i64 c.fVersion, .int .i64 c.fNext, .slice a7 (c.fTables.length + 1) c7, .slice aM c.fIndexes.length cM] : List Value) = [.int .i64 N1.fVersion, .int .i64 N1.fNext, .slice a7 N1.fTables.length c7, .slice aM N1.fIndexes.length cM] := by rw [hN1, hln]
    rw [e]
    refine rGCatalog_mk _ _ (x := N1) (by rw [hN1]; exact hcv) (by rw [hN1]; exact hcn) ?_ ?_
    · rw [hN1]; show rList rGTable _ _ [.slice a7 (c.fTables ++ [t']).length c7] (c.fTables ++ [t']); rw [hln]
      exact (rList_lawful rGTable_lawful).keep rL kN (fun b hb e => hb e)
    · rw [hN1]; exact (rList_lawful rGIndex_lawful).keep rX kN (fun b hb e => hb e)
  replace rowN7 := rowN7.set 2 (.slice a7 (c.fTables.length + 1) c7)
  simp only [List.set_cons_succ, List.set_cons_zero] at rowN7
  replace rowR7 := rowR7.keep kN (by omega)
  replace kk7 := kk7.then kN (fun i hi e => by omega)
  have hsN : smallC N1 := by
    rw [hN1]
    refine ⟨fun q hq => ?_, hs.2.1, by show (c.fTables ++ [t']).length ≤ 1000; rw [hln]; omega, hs.2.2.2⟩
    rcases List.mem_append.1 hq with hq | hq
    · exact hs.1 q hq
    · rw [List.mem_singleton] at hq; subst hq; rw [ht']; exact ⟨by show t.fColumns.length ≤ 1000; omega, by show t.fKey.length ≤ 1000; omega⟩
  have hcvN : isI64 N1.fVersion := by rw [hN1]; exact hcv
  have hcnN : isI64 N1.fNext := by rw [hN1]; exact hcn
  have hvN : N1.fVersion ≤ 4611686018427387904 := by rw [hN1]; exact hv
  have hnN : N1.fNext < 1073741824 := by rw [hN1]; exact h7
  have hfT : N1.fTables.length ≤ far := by have := hsN.2.2.1; unfold far; omega
  have hfX : N1.fIndexes.length ≤ far := by have := hsN.2.2.2; unfold far; omega
  have HR : Hid (addTableF c t = ({ N1 with fVersion := N1.fVersion + 1, fNext := N1.fNext + 1 }, 0)) := by show _ = _; rw [HRp.out, hN1, ht']
  clear hN1 ht' HRp rL rX elsN rT elsT7 elsX7 ownX7 own7 gt7 kN hfresh k7 kk2 rowN2 rowR2 gt2 elsT2 elsX2 ownT2 ownX2 rowT2 rowN
  -- the second copy, stored, counted on, handed back
  have hlN := rGCatalog_lawful.len rN1
  have ldN := Whole.run (P := Try.prog) S_Catalog rfl rowN7
  go_wp2_with fail
  clear ldN
  go_fit (Copy_o N1 _ _ rN1 hsN)
  rintro e w9 ⟨cs9, rfl, hOwn, k9⟩
  have hs9 := k9.size
  have hN := hOwn.read hcvN hcnN hfT hfX
  replace hN := rGCatalog_lawful.mono hN (q := fun b => w3.heap.size < b ∧ b < w9.heap.size) (fun b hb => ⟨by have h1 := hb.1; have := rowN7.lt; simp at h1; omega, hb.2⟩)
  replace rowN7 := rowN7.keep k9 id
  replace rowR7 := rowR7.keep k9 id
  replace kk7 := kk7.trans k9
  clear hOwn k9 rN1 hlN
  obtain ⟨a9, c9, b9, d9, rfl, -⟩ := rGCatalog_open hN
  have hst := store_run (P := Try.prog) (cs := [.int .i64 N1.fVersion, .int .i64 N1.fNext, .slice a9 N1.fTables.length c9, .slice b9 N1.fIndexes.length d9]) S_Catalog rowN7 rfl rfl rfl
  have rowN8 := rowN7.setRow [.int .i64 N1.fVersion, .int .i64 N1.fNext, .slice a9 N1.fTables.length c9, .slice b9 N1.fIndexes.length d9]
  have x1 := rowN8.cell 1
  (try simp only [List.getElem?_cons_succ] at x1); (try simp only [List.getElem?_cons_zero] at x1)
  have f1 := rowN8.frozen 1
  have rowN9 := rowN8.set 1 (.int .i64 (N1.fNext + 1))
  simp only [List.set_cons_succ, List.set_cons_zero] at rowN9
  have x0 := rowN9.cell 0
  (try simp only [List.getElem?_cons_succ] at x0); (try simp only [List.getElem?_cons_zero] at x0)
  have f0 := rowN9.frozen 0
  have rowN10 := rowN9.set 0 (.int .i64 (N1.fVersion + 1))
  simp only [List.set_cons_zero] at rowN10
  have kB : Keep (· = w3.heap.size) w9 (((w9.setRow w3.heap.size #[.int .i64 N1.fVersion, .int .i64 N1.fNext, .slice a9 N1.fTables.length c9, .slice b9 N1.fIndexes.length d9]).setCell ⟨w3.heap.size, 1, none⟩ (.int .i64 (N1.fNext + 1))).setCell ⟨w3.heap.size, 0, none⟩ (.int .i64 (N1.fVersion + 1))) := (((Keep.refl (· = w3.heap.size) w9).setRow (fun _ => rfl) _).setCell (p := ⟨w3.heap.size, 1, none⟩) (fun _ => rfl) _).setCell (p := ⟨w3.heap.size, 0, none⟩) (fun _ => rfl) _
  have i1 : IntKind.i64.wrap (N1.fNext + 1) = N1.fNext + 1 := by have := hcnN.1; rw [IntKind.wrap_i64]; omega
  have i2 : IntKind.i64.wrap (N1.fVersion + 1) = N1.fVersion + 1 := by have := hcvN.1; rw [IntKind.wrap_i64]; omega
  have hsB := kB.size
  have gB := bump (rGCatalog_lawful.keep hN kB (fun b hb e => by have := hb.1; omega)) ⟨by have := hcvN.1; omega, by omega⟩ ⟨by have := hcnN.1; omega, by omega⟩
  have hgr : w.heap.size + 1 + 1 < w3.heap.size := hgR.out
  obtain ⟨hstR, rowF, HRES, HKF, HIN⟩ := new_back (p := p) (w := w) (rowR7.keep kB (by omega)) rfl (by omega) (rGCatalog_lawful.mono gB (fun b hb => ⟨by have := hb.1; omega, Nat.lt_of_lt_of_le hb.2 hsB⟩)) (kk7.then kB (fun i hi e => by omega))
  have ldO := Whole.run (P := Try.prog) S_Catalog rfl rowN10
  clear gB kB hN rowR7 kk7 rowN7 rowN8 rowN9 rowN10
  go_wp2_with fail
  refine bodyPost_ret (results_cell_row2 (by rfl) _ _ _ _ _ _ _ (by rfl) rowF Try.underlying25 (by rfl) HIN.out) rfl ?_
  rw [HR.out]
  exact ⟨_, rfl, HRES.out, rGCatalog_ones HRES.out, HKF.out⟩
end
end Go.Proofs.Ytfogbbnfedcldaa
