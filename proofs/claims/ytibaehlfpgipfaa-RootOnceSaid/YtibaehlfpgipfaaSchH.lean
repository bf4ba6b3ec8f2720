/- SCHEMA: a table is added, by the program. Printed by gen29.py. -/
import Derived.Test.YtibaehlfpgipfaaSchF
namespace Go.Proofs.Ytibaehlfpgipfaa
open Go.RowKit

theorem added_reads {w w7 wz : World} {c : GCatalog} {t : GTable} {a7 aP : Option Addr} {c7 cP base m : Nat} {cssT cssX : List (List Value)} {CN : List Value} {q : Nat → Prop} (hcv : isI64 c.fVersion) (hcn : isI64 c.fNext) (hs : smallC c) (hv : c.fVersion ≤ 4611686018427387904) (h7 : c.fNext < 1073741824) (h6 : c.fTables.length < 6)
    (e9 : w7.heap.size ≤ wz.heap.size) (_hw : w.heap.size ≤ w7.heap.size)
    (own : wz.ownsRow base 49 4 (.slice a7 (c.fTables.length + 1) c7) (c.fTables.length + 1) (cssT.flatten ++ CN)) (ownX : wz.ownsRow m 51 7 (.slice aP c.fIndexes.length cP) c.fIndexes.length cssX.flatten)
    (els : Els rGTable wz (fun b => w.heap.size + 1 + 1 + 1 ≤ b ∧ b < w7.heap.size ∧ q b) (cssT ++ [CN]) (c.fTables ++ [{ t with fID := c.fNext }])) (elsI : Els rGIndex wz (fun b => w.heap.size + 1 + 1 + 1 ≤ b ∧ b < w7.heap.size ∧ q b) cssX c.fIndexes)
    (hT : ∀ b, OwnB (.slice a7 (c.fTables.length + 1) c7) b → w.heap.size + 1 + 1 + 1 ≤ b ∧ b < w7.heap.size) (hX : ∀ b, OwnB (.slice aP c.fIndexes.length cP) b → w.heap.size + 1 + 1 + 1 ≤ b ∧ b < w7.heap.size) :
    rGCatalog wz (NewIn w wz) [.int .i64 (c.fVersion + 1), .int .i64 (c.fNext + 1), .slice a7 (c.fTables.length + 1) c7, .slice aP c.fIndexes.length cP] ({ c with fVersion := c.fVersion + 1, fNext := c.fNext + 1, fTables := c.fTables ++ [{ t with fID := c.fNext }] } : GCatalog) := by
  have hln : (c.fTables ++ [{ t with fID := c.fNext }]).length = c.fTables.length + 1 := by simp
  have hr : ([.int .i64 (c.fVersion + 1), .int .i64 (c.fNext + 1), .slice a7 (c.fTables.length + 1) c7, .slice aP c.fIndexes.length cP] : List Value) = [.int .i64 (c.fVersion + 1), .int .i64 (c.fNext + 1), .slice a7 (c.fTables ++ [{ t with fID := c.fNext }]).length c7, .slice aP c.fIndexes.length cP] := by rw [hln]
  rw [hr]
  refine rGCatalog_mk _ _ (x := ({ c with fVersion := c.fVersion + 1, fNext := c.fNext + 1, fTables := c.fTables ++ [{ t with fID := c.fNext }] } : GCatalog)) ⟨by have := hcv.1; show _ ≤ c.fVersion + 1; omega, by show c.fVersion + 1 ≤ _; omega⟩ ⟨by have := hcn.1; show _ ≤ c.fNext + 1; omega, by show c.fNext + 1 ≤ _; omega⟩ ?_ ?_
  · refine list_owned (R := rGTable) (base := base) (e := 49) (sz := 4) (css := cssT ++ [CN]) ?_ els (by show (c.fTables ++ [{ t with fID := c.fNext }]).length ≤ far; rw [hln]; unfold far; omega) (fun d y hy => rGTable_lawful.mono hy (fun b hb => ⟨by have := hb.1; omega, by have := hb.2.1; omega⟩)) (fun b h1 h2 => ?_)
    · show wz.ownsRow base _ 4 (.slice a7 (c.fTables ++ [{ t with fID := c.fNext }]).length c7) (c.fTables ++ [{ t with fID := c.fNext }]).length _
      rw [hln]; simpa using own
    · have h2' : OwnB (.slice a7 (c.fTables.length + 1) c7) b := by rw [← hln]; exact h2
      have := hT b h2'
      exact ⟨by omega, by omega⟩
  · exact list_owned (R := rGIndex) ownX elsI (by show c.fIndexes.length ≤ far; unfold far; have := hs.2.2.2; omega) (fun d y hy => rGIndex_lawful.mono hy (fun b hb => ⟨by have := hb.1; omega, by have := hb.2.1; omega⟩)) (fun b h1 h2 => by have := hX b h2; exact ⟨by omega, by omega⟩)
theorem size_setCell (w : World) (a : Addr) (v : Value) : (w.setCell a v).heap.size = w.heap.size := by simp [World.setCell]
theorem size_setRow (w : World) (b : Nat) (cs : Array Value) : (w.setRow b cs).heap.size = w.heap.size := by simp [World.setRow]
def addTableF (c : GCatalog) (t : GTable) : GCatalog × Int :=
  if tableB t = false then (c, 9) else if (firstB (fun x => decide (x.fName = t.fName)) c.fTables zTab).2 = true then (c, 6)
  else if 6 ≤ c.fTables.length ∨ 1073741824 ≤ c.fNext then (c, 4)
  else ({ c with fVersion := c.fVersion + 1, fNext := c.fNext + 1, fTables := c.fTables ++ [{ t with fID := c.fNext }] }, 0)
theorem tableB_small {t : GTable} (h : tableB t = true) : t.fColumns.length ≤ 6 ∧ t.fKey.length ≤ 6 := by
  have h1 : t.fColumns.length ≤ 6 := by
    have h := h
    unfold tableB at h
    simp only [Bool.and_eq_true, decide_eq_true_eq] at h
    exact h.2.1.2
  unfold tableB at h
  simp only [Bool.and_eq_true, decide_eq_true_eq] at h
  have h2 := of_decide_eq_true h.2.2.1
  rw [show min (t.fColumns.length : Int) 6 = ((t.fColumns.length : Nat) : Int) by omega] at h2
  have := goodP_len _ _ h2.1
  omega
section
attribute [local go_sem ↓] ldz_Table stz_Table ldz_Catalog stz_Catalog lsz_Table
set_option maxRecDepth 100000 in
set_option maxHeartbeats 16000000 in
theorem sAddTable_c {p : Nat → Prop} (c : GCatalog) (csc : List Value) (t : GTable) (cst : List Value) (w : World) (hc : rGCatalog w p csc c) (ht : rGTable w p cst t) (hs : smallC c) (hv : c.fVersion ≤ 4611686018427387904) (_hp : ∀ b, p b → b < w.heap.size) :
    Calls Try.prog 22 #[.agg csc.toArray, .agg cst.toArray] w (Took rGCatalog w (addTableF c t)) := by
  have gc := hc
  have gt := ht
  obtain ⟨aT, cT, aX, cX, rfl, hcv, hcn, hcT, hcX, -⟩ := rGCatalog_open hc
  have hlc : ([.int .i64 c.fVersion, .int .i64 c.fNext, .slice aT c.fTables.length cT, .slice aX c.fIndexes.length cX] : List Value).length = 4 := rfl
  obtain ⟨aC, cC, aK, cK, rfl, h0, h1, h2, h3, -⟩ := rGTable_open ht
  have row0 : RowIs (((w.alloc (.cells #[.int .i64 c.fVersion, .int .i64 c.fNext, .slice aT c.fTables.length cT, .slice aX c.fIndexes.length cX] 34)).alloc (.cells #[.int .i64 t.fID, .string (strB t.fName), .slice aC t.fColumns.length cC, .slice aK t.fKey.length cK] 49)).alloc (.cells #[.int .i64 0, .int .i64 0, .slice none 0 0, .slice none 0 0] 34)) w.heap.size 34 [.int .i64 c.fVersion, .int .i64 c.fNext, .slice aT c.fTables.length cT, .slice aX c.fIndexes.length cX] := ((RowIs.alloc w _ _).keep ((Keep.refl Nix _).alloc _) id).keep ((Keep.refl Nix _).alloc _) id
  have rowT : RowIs (((w.alloc (.cells #[.int .i64 c.fVersion, .int .i64 c.fNext, .slice aT c.fTables.length cT, .slice aX c.fIndexes.length cX] 34)).alloc (.cells #[.int .i64 t.fID, .string (strB t.fName), .slice aC t.fColumns.length cC, .slice aK t.fKey.length cK] 49)).alloc (.cells #[.int .i64 0, .int .i64 0, .slice none 0 0, .slice none 0 0] 34)) (w.heap.size + 1) 49 [.int .i64 t.fID, .string (strB t.fName), .slice aC t.fColumns.length cC, .slice aK t.fKey.length cK] := (RowIs.alloc_at (w.alloc (.cells #[.int .i64 c.fVersion, .int .i64 c.fNext, .slice aT c.fTables.length cT, .slice aX c.fIndexes.length cX] 34)) _ (by simp) #[.int .i64 t.fID, .string (strB t.fName), .slice aC t.fColumns.length cC, .slice aK t.fKey.length cK] 49).keep ((Keep.refl Nix _).alloc _) id
  have rowR : RowIs (((w.alloc (.cells #[.int .i64 c.fVersion, .int .i64 c.fNext, .slice aT c.fTables.length cT, .slice aX c.fIndexes.length cX] 34)).alloc (.cells #[.int .i64 t.fID, .string (strB t.fName), .slice aC t.fColumns.length cC, .slice aK t.fKey.length cK] 49)).alloc (.cells #[.int .i64 0, .int .i64 0, .slice none 0 0, .slice none 0 0] 34)) (w.heap.size + 1 + 1) 34 [.int .i64 0, .int .i64 0, .slice none 0 0, .slice none 0 0] := RowIs.alloc_at ((w.alloc (.cells #[.int .i64 c.fVersion, .int .i64 c.fNext, .slice aT c.fTables.length cT, .slice aX c.fIndexes.length cX] 34)).alloc (.cells #[.int .i64 t.fID, .string (strB t.fName), .slice aC t.fColumns.length cC, .slice aK t.fKey.length cK] 49)) _ (by simp) #[.int .i64 0, .int .i64 0, .slice none 0 0, .slice none 0 0] 34
  have kk : Keep Nix w (((w.alloc (.cells #[.int .i64 c.fVersion, .int .i64 c.fNext, .slice aT c.fTables.length cT, .slice aX c.fIndexes.length cX] 34)).alloc (.cells #[.int .i64 t.fID, .string (strB t.fName), .slice aC t.fColumns.length cC, .slice aK t.fKey.length cK] 49)).alloc (.cells #[.int .i64 0, .int .i64 0, .slice none 0 0, .slice none 0 0] 34)) := (((Keep.refl Nix w).alloc _).alloc _).alloc _
  have ld0 := Whole.row (P := Try.prog) S_Catalog hlc row0
  unfold Whole at ld0
  replace gc := rGCatalog_lawful.nix gc kk
  replace gt := rGTable_lawful.nix gt kk
  clear hc ht
  go_enter Try.func22, Try.ntmps22
  go_wp2_with fail
  clear ld0
  go_fit (Own_o c _ _ gc hs)
  rintro e w1 ⟨cso, rfl, hOwn, k1⟩
  have hO := hOwn.read hcv hcn (rList_len hcT).2.2 (rList_len hcX).2.2
  obtain ⟨aO, cO, aP, cP, cssT, cssX, m, rfl, hbm, hmw, ownT, hTlt, elsT, ownX, elsX⟩ := hOwn
  have hXlt : Hid (∀ b, OwnB (.slice aP c.fIndexes.length cP) b → b < w1.heap.size) := fun b hb => (ownX.lt b hb).2
  have hs1 : w.heap.size + 1 + 1 + 1 ≤ w1.heap.size := by simp at hbm; omega
  replace row0 := row0.keep k1 id
  replace rowT := rowT.keep k1 id
  replace rowR := rowR.keep k1 id
  replace gc := rGCatalog_lawful.nix gc k1
  replace gt := rGTable_lawful.nix gt k1
  replace kk := kk.trans k1
  have hlo := rGCatalog_lawful.len hO
  have hst := store_run (P := Try.prog) (cs := [.int .i64 c.fVersion, .int .i64 c.fNext, .slice aO c.fTables.length cO, .slice aP c.fIndexes.length cP]) S_Catalog (RowIs.alloc w1 #[.int .i64 0, .int .i64 0, .slice none 0 0, .slice none 0 0] 34) rfl hlo (rGCatalog_ones hO)
  have rowO := (RowIs.alloc w1 #[.int .i64 0, .int .i64 0, .slice none 0 0, .slice none 0 0] 34).setRow [.int .i64 c.fVersion, .int .i64 c.fNext, .slice aO c.fTables.length cO, .slice aP c.fIndexes.length cP]
  have kV : Keep Nix w1 ((w1.alloc (.cells #[.int .i64 0, .int .i64 0, .slice none 0 0, .slice none 0 0] 34)).setRow w1.heap.size ([.int .i64 c.fVersion, .int .i64 c.fNext, .slice aO c.fTables.length cO, .slice aP c.fIndexes.length cP] : List Value).toArray) := ((Keep.refl Nix w1).alloc (.cells #[.int .i64 0, .int .i64 0, .slice none 0 0, .slice none 0 0] 34)).setRow (fun h => absurd h (Nat.lt_irrefl _)) _
  replace row0 := row0.keep kV id
  replace rowT := rowT.keep kV id
  replace rowR := rowR.keep kV id
  replace gc := rGCatalog_lawful.nix gc kV
  replace gt := rGTable_lawful.nix gt kV
  replace hO := rGCatalog_lawful.nix hO kV
  replace ownT := owned_keep ownT kV (fun _ _ h => h)
  replace ownX := owned_keep ownX kV (fun _ _ h => h)
  replace elsT := elsT.keep fGTable_lawful kV (fun _ _ h => h)
  replace elsX := elsX.keep fGIndex_lawful kV (fun _ _ h => h)
  replace kk := kk.trans kV
  clear k1 kV
  have ld0 := Whole.row (P := Try.prog) S_Catalog hlc row0
  unfold Whole at ld0
  have x1 := rowT.cell 1
  simp only [List.getElem?_cons_succ, List.getElem?_cons_zero] at x1
  go_wp2_with fail
  clear ld0 hst x1
  go_fit (sTable_c c _ t.fName _ gc hs.1)
  rintro e w2 ⟨csf, rfl, hF, k1⟩
  obtain ⟨y, hy⟩ : ∃ y, Hid (firstB (fun x => decide (x.fName = t.fName)) c.fTables zTab = y) := ⟨_, rfl⟩
  rw [hy.out] at hF ⊢
  obtain ⟨yt, twice⟩ := y
  replace hF : fGTable w2 (NewIn _ w2) csf yt := hF
  have hst := store_run (P := Try.prog) (cs := csf) S_Table (RowIs.alloc w2 #[.int .i64 0, .string { data := #[] }, .slice none 0 0, .slice none 0 0] 49) rfl (fGTable_lawful.len hF) (fGTable_ones hF)
  have kV : Keep Nix w2 ((w2.alloc (.cells #[.int .i64 0, .string { data := #[] }, .slice none 0 0, .slice none 0 0] 49)).setRow w2.heap.size csf.toArray) := ((Keep.refl Nix w2).alloc (.cells #[.int .i64 0, .string { data := #[] }, .slice none 0 0, .slice none 0 0] 49)).setRow (fun h => absurd h (Nat.lt_irrefl _)) _
  have k3 := k1.trans kV
  replace row0 := row0.keep k3 id
  replace rowT := rowT.keep k3 id
  replace rowR := rowR.keep k3 id
  replace rowO := rowO.keep k3 id
  replace gc := rGCatalog_lawful.nix gc k3
  replace gt := rGTable_lawful.nix gt k3
  replace hO := rGCatalog_lawful.nix hO k3
  replace ownT := owned_keep ownT k3 (fun _ _ h => h)
  replace ownX := owned_keep ownX k3 (fun _ _ h => h)
  replace elsT := elsT.keep fGTable_lawful k3 (fun _ _ h => h)
  replace elsX := elsX.keep fGIndex_lawful k3 (fun _ _ h => h)
  replace kk := kk.trans k3
  clear k1 kV k3 hF
  have ldt := Whole.row (P := Try.prog) S_Table rfl rowT
  unfold Whole at ldt
  go_wp2_with fail
  clear ldt hst
  go_fit (srightTable_c t _ _ gt)
  rintro e w3 ⟨rfl, k1⟩
  replace row0 := row0.keep k1 id
  replace rowT := rowT.keep k1 id
  replace rowR := rowR.keep k1 id
  replace rowO := rowO.keep k1 id
  replace gt := rGTable_lawful.nix gt k1
  replace hO := rGCatalog_lawful.nix hO k1
  replace ownT := owned_keep ownT k1 (fun _ _ h => h)
  replace ownX := owned_keep ownX k1 (fun _ _ h => h)
  replace elsT := elsT.keep fGTable_lawful k1 (fun _ _ h => h)
  replace elsX := elsX.keep fGIndex_lawful k1 (fun _ _ h => h)
  replace kk := kk.trans k1
  clear k1
  -- what is handed back where nothing is added
  have hback : ∀ err : Int, addTableF c t = (c, err) → True := fun _ _ => trivial
  clear hback
  have ldo := Whole.row (P := Try.prog) S_Catalog hlo rowO
  unfold Whole at ldo
  have hstR := store_run (P := Try.prog) (cs := [.int .i64 c.fVersion, .int .i64 c.fNext, .slice aO c.fTables.length cO, .slice aP c.fIndexes.length cP]) S_Catalog rowR rfl hlo (rGCatalog_ones hO)
  have rowF := rowR.setRow [.int .i64 c.fVersion, .int .i64 c.fNext, .slice aO c.fTables.length cO, .slice aP c.fIndexes.length cP]
  have kS : Keep (· = w.heap.size + 1 + 1) w3 (w3.setRow (w.heap.size + 1 + 1) ([.int .i64 c.fVersion, .int .i64 c.fNext, .slice aO c.fTables.length cO, .slice aP c.fIndexes.length cP] : List Value).toArray) := (Keep.refl (· = w.heap.size + 1 + 1) w3).setRow (fun _ => rfl) _
  have kF := kk.setRow (g := w.heap.size + 1 + 1) (fun h => by omega) ([.int .i64 c.fVersion, .int .i64 c.fNext, .slice aO c.fTables.length cO, .slice aP c.fIndexes.length cP] : List Value).toArray
  have hin : (Try.prog.info? 34).map (·.size) = some ([.int .i64 c.fVersion, .int .i64 c.fNext, .slice aO c.fTables.length cO, .slice aP c.fIndexes.length cP] : List Value).toArray.size := by rw [List.size_toArray, hlo]; exact S_Catalog.info
  have HIN := Lib.hid hin
  clear hin
  obtain ⟨bt, hbt⟩ : ∃ b, Hid (tableB t = b) := ⟨_, rfl⟩
  have hsO := rowO.lt
  have hres : rGCatalog (w3.setRow (w.heap.size + 1 + 1) ([.int .i64 c.fVersion, .int .i64 c.fNext, .slice aO c.fTables.length cO, .slice aP c.fIndexes.length cP] : List Value).toArray) (NewIn w (w3.setRow (w.heap.size + 1 + 1) ([.int .i64 c.fVersion, .int .i64 c.fNext, .slice aO c.fTables.length cO, .slice aP c.fIndexes.length cP] : List Value).toArray)) [.int .i64 c.fVersion, .int .i64 c.fNext, .slice aO c.fTables.length cO, .slice aP c.fIndexes.length cP] c :=
    rGCatalog_lawful.mono (rGCatalog_lawful.keep hO kS (fun b hb e => by have := hb.1; simp at this; omega)) (fun b hb => ⟨by have := hb.1; simp at this; omega, by have := hb.2; have := kS.size; omega⟩)
  rw [hbt.out]
  cases bt with
  | false =>
    have HR : Hid (addTableF c t = (c, 9)) := by show _ = _; unfold addTableF; rw [if_pos hbt.out]
    go_wp2_with fail
    refine bodyPost_ret (results_cell_row2 (by rfl) _ _ _ _ _ _ _ (by rfl) rowF Try.underlying34 (by rfl) HIN.out) rfl ?_
    rw [HR.out]
    exact ⟨_, rfl, hres, rGCatalog_ones hres, kF⟩
  | true =>
  cases twice with
  | true =>
    have HR : Hid (addTableF c t = (c, 6)) := by show _ = _; unfold addTableF; rw [if_neg (by rw [hbt.out]; simp), if_pos (by rw [hy.out])]
    go_wp2_with fail
    refine bodyPost_ret (results_cell_row2 (by rfl) _ _ _ _ _ _ _ (by rfl) rowF Try.underlying34 (by rfl) HIN.out) rfl ?_
    rw [HR.out]
    exact ⟨_, rfl, hres, rGCatalog_ones hres, kF⟩
  | false =>
  have mT : c.fTables.length ≤ 140737488351232 := by have := hs.2.2.1; omega
  have x1 := row0.cell 1
  have x2 := row0.cell 2
  simp only [List.getElem?_cons_succ, List.getElem?_cons_zero] at x1 x2
  by_cases hfull : 6 ≤ c.fTables.length ∨ 1073741824 ≤ c.fNext
  · have HR : Hid (addTableF c t = (c, 4)) := by show _ = _; unfold addTableF; rw [if_neg (by rw [hbt.out]; simp), if_neg (by rw [hy.out]; simp), if_pos hfull]
    rcases Nat.lt_or_ge c.fTables.length 6 with h6 | h6
    · have h7 : 1073741824 ≤ c.fNext := by omega
      clear hfull
      go_wp2_with fail
      refine bodyPost_ret (results_cell_row2 (by rfl) _ _ _ _ _ _ _ (by rfl) rowF Try.underlying34 (by rfl) HIN.out) rfl ?_
      rw [HR.out]
      exact ⟨_, rfl, hres, rGCatalog_ones hres, kF⟩
    · clear hfull
      go_wp2_with fail
      refine bodyPost_ret (results_cell_row2 (by rfl) _ _ _ _ _ _ _ (by rfl) rowF Try.underlying34 (by rfl) HIN.out) rfl ?_
      rw [HR.out]
      exact ⟨_, rfl, hres, rGCatalog_ones hres, kF⟩
  have h6 : c.fTables.length < 6 := by omega
  have h7 : c.fNext < 1073741824 := by omega
  have HR : Hid (addTableF c t = ({ c with fVersion := c.fVersion + 1, fNext := c.fNext + 1, fTables := c.fTables ++ [{ t with fID := c.fNext }] }, 0)) := by
    show _ = _; unfold addTableF; rw [if_neg (by rw [hbt.out]; simp), if_neg (by rw [hy.out]; simp), if_neg hfull]
  clear hfull hres kS kF rowF hstR ldo hO
  obtain ⟨ht1, ht2⟩ := tableB_small hbt.out
  have ldt := Whole.row (P := Try.prog) S_Table rfl rowT
  unfold Whole at ldt
  have hbO3' := rowO.lt
  have hOt := Lib.hid (ownTable_c t _ _ gt (by omega) (by omega))
  clear gt
  go_wp2_with fail
  clear ldt x1 x2
  go_fit hOt.out
  rintro e w4 ⟨csn, rfl, hN, k1⟩
  replace rowT := rowT.keep k1 id
  replace rowR := rowR.keep k1 id
  replace rowO := rowO.keep k1 id
  replace kk := kk.trans k1
  replace ownT := owned_keep ownT k1 (fun _ _ h => h)
  replace ownX := owned_keep ownX k1 (fun _ _ h => h)
  replace elsT := elsT.keep fGTable_lawful k1 (fun _ _ h => h)
  replace elsX := elsX.keep fGIndex_lawful k1 (fun _ _ h => h)
  have hsN := k1.size
  have hbO3 : Hid (w1.heap.size < w3.heap.size) := hbO3'
  clear k1 hOt hbO3'
  have hNr := fGTable_to hN
  obtain ⟨q0, q1, q2, q3, hq, g0, g1, g2, g3⟩ := hN
  obtain ⟨rfl, -⟩ := g0
  obtain ⟨rfl, g1⟩ := g1
  obtain ⟨b1, d1, rfl, g2⟩ := rListW_open g2
  obtain ⟨b2, d2, rfl, g3⟩ := rListW_open g3
  simp only [List.flatten_cons, List.flatten_nil, List.append_nil, List.cons_append, List.nil_append] at hq
  subst hq
  have hst := store_run (P := Try.prog) (cs := [.int .i64 t.fID, .string (strB t.fName), .slice b1 t.fColumns.length d1, .slice b2 t.fKey.length d2]) S_Table rowT rfl rfl rfl
  have rowT5 := rowT.setRow [.int .i64 t.fID, .string (strB t.fName), .slice b1 t.fColumns.length d1, .slice b2 t.fKey.length d2]
  have k5 : Keep (· = w.heap.size + 1) w4 (w4.setRow (w.heap.size + 1) ([.int .i64 t.fID, .string (strB t.fName), .slice b1 t.fColumns.length d1, .slice b2 t.fKey.length d2] : List Value).toArray) := (Keep.refl (· = w.heap.size + 1) w4).setRow (fun _ => rfl) _
  have rowT6 := rowT5.set 0 (.int .i64 c.fNext)
  simp only [List.set_cons_zero] at rowT6
  have k6 : Keep (· = w.heap.size + 1) (w4.setRow (w.heap.size + 1) ([.int .i64 t.fID, .string (strB t.fName), .slice b1 t.fColumns.length d1, .slice b2 t.fKey.length d2] : List Value).toArray) ((w4.setRow (w.heap.size + 1) ([.int .i64 t.fID, .string (strB t.fName), .slice b1 t.fColumns.length d1, .slice b2 t.fKey.length d2] : List Value).toArray).setCell ⟨w.heap.size + 1, 0, none⟩ (.int .i64 c.fNext)) := (Keep.refl (· = w.heap.size + 1) _).setCell (p := ⟨w.heap.size + 1, 0, none⟩) (fun _ => rfl) _
  have k56 := k5.trans k6
  have hXm : ∀ b, OwnB (.slice aP c.fIndexes.length cP) b → m ≤ b := fun b hb => (ownX.lt b hb).1
  have hbm' : w.heap.size + 1 + 1 + 1 ≤ m := by simp at hbm; omega
  have ownX7 := owned_keep ownX k56 (fun b hb e => by have := hXm b hb; omega)
  have elsT7 := elsT.keep fGTable_lawful k56 (fun b hb e => by have := hb.1; simp at this; omega)
  have elsX7 := elsX.keep fGIndex_lawful k56 (fun b hb e => by have := hb.1; omega)
  have rN := rGTable_lawful.keep hNr k56 (fun b hb e => by have := hb.1; have := hbO3.out; omega)
  have hmw' := Lib.hid hmw
  have rowO5 := rowO.keep k5 (by omega)
  have f0 := rowT5.frozen 0
  have y0 := rowT5.cell 0
  simp only [List.getElem?_cons_zero] at y0
  have rowO6 := rowO.keep k56 (by omega)
  have x1 := rowO5.cell 1
  have x2 := rowO6.cell 2
  simp only [List.getElem?_cons_succ, List.getElem?_cons_zero] at x1 x2
  have ldt := Whole.row (P := Try.prog) S_Table rfl rowT6
  unfold Whole at ldt
  have hls := list_run (P := Try.prog) T_lTable (by decide) [.int .i64 c.fNext, .string (strB t.fName), .slice b1 t.fColumns.length d1, .slice b2 t.fKey.length d2] rfl ((w4.setRow (w.heap.size + 1) ([.int .i64 t.fID, .string (strB t.fName), .slice b1 t.fColumns.length d1, .slice b2 t.fKey.length d2] : List Value).toArray).setCell ⟨w.heap.size + 1, 0, none⟩ (.int .i64 c.fNext))
  replace rowR := rowR.keep k56 (by omega)
  replace kk := kk.then k56 (fun i hi e => by omega)
  replace ownT := owned_keep ownT k56 (fun b hb e => by have := (ownT.lt b hb).1; simp at this; omega)
  have hTg : ∀ b, OwnB (.slice aO c.fTables.length cO) b → w.heap.size + 1 + 1 + 1 ≤ b := fun b hb => by have := (ownT.lt b hb).1; simp at this; omega
  have hbs : w.heap.size + 1 + 1 + 1 ≤ ((w4.setRow (w.heap.size + 1) ([.int .i64 t.fID, .string (strB t.fName), .slice b1 t.fColumns.length d1, .slice b2 t.fKey.length d2] : List Value).toArray).setCell ⟨w.heap.size + 1, 0, none⟩ (.int .i64 c.fNext)).heap.size := by have := rowO6.lt; simp at hsO ⊢; omega
  have hown1 := ownT.lt
  have hs6 : ((w4.setRow (w.heap.size + 1) ([.int .i64 t.fID, .string (strB t.fName), .slice b1 t.fColumns.length d1, .slice b2 t.fKey.length d2] : List Value).toArray).setCell ⟨w.heap.size + 1, 0, none⟩ (.int .i64 c.fNext)).heap.size = w4.heap.size := (size_setCell _ _ _).trans (size_setRow _ _ _)
  have HS6 := Lib.hid hs6
  clear hs6
  go_wp2_with (at_builtin; refine wpl_append1_at (c := 1) T_lTable ?hgd (.tmp 43) (.tmp 45) ?ho _ ?hs ownT ?hx ?c0 ?c1 ?c2 ?c3 ?c4 ?_)
  case hgd => rfl
  case ho => rfl
  case hs => rfl
  case hx => rw [HS6.out]; rfl
  case c0 => rfl
  case c1 => exact ⟨rfl, rfl, rfl, rfl⟩
  case c2 => unfold maxLen; omega
  case c3 => omega
  case c4 => simp at hbm hbs ⊢; omega
  intro a7 c7 w7 own7 k7 hfresh
  have hTm : ∀ b, OwnB (.slice aO c.fTables.length cO) b → w.heap.size + 1 + 1 + 1 ≤ b ∧ b < m := fun b hb => ⟨hTg b hb, hTlt b hb⟩
  have hmw1 := hmw'.out
  have rowO7 := rowO6.keep k7 (fun hb => by have := hTm _ hb; omega)
  replace rowR := rowR.keep k7 (fun hb => by have := hTg _ hb; omega)
  replace ownX7 := owned_keep ownX7 k7 (fun b hb h => by have := hXm b hb; have := hTm b h; omega)
  replace elsT7 := elsT7.keep fGTable_lawful k7 (fun b hb => hb.2.2)
  replace elsX7 := elsX7.keep fGIndex_lawful k7 (fun b hb h => by have := hb.1; have := hTm b h; omega)
  replace rN := rGTable_lawful.keep rN k7 (fun b hb h => by have := hb.1; have := hTm b h; have := hbO3.out; omega)
  have hs7 := k7.size
  have hs67 : w4.heap.size ≤ w7.heap.size := by rw [HS6.out] at hs7; exact hs7
  have h7g : ∀ b, OwnB (.slice a7 (c.fTables.length + 1) c7) b → w.heap.size + 1 + 1 + 1 ≤ b ∧ b < w7.heap.size ∧ b ≠ w1.heap.size := fun b hb => by
    have h1 := (own7.lt b hb).2
    rcases hfresh b hb with h | h
    · have := hTm b h; omega
    · have h' : w4.heap.size ≤ b := by first | exact h | exact Nat.le_trans (Nat.le_of_eq HS6.out.symm) h
      have := hbO3.out; omega
  replace kk := kk.then k7 (fun i hi hb => by have := hTg _ hb; omega)
  clear hls ldt y0 f0 x1 x2 hst k7 hfresh
  -- the table, as it is read now
  have rNew : rGTable w7 (fun b => w.heap.size + 1 + 1 + 1 ≤ b ∧ b < w7.heap.size ∧ b ≠ w1.heap.size) [.int .i64 c.fNext, .string (strB t.fName), .slice b1 t.fColumns.length d1, .slice b2 t.fKey.length d2] ({ t with fID := c.fNext } : GTable) := by
    obtain ⟨e1, e2, e3, e4, he, z0, z1, z2, z3, -⟩ := rGTable_open rN
    simp only [List.cons.injEq, Value.slice.injEq, and_true, true_and] at he
    obtain ⟨⟨rfl, rfl⟩, rfl, rfl⟩ := he
    exact rGTable_lawful.mono (rGTable_mk w7 _ (x := ({ t with fID := c.fNext } : GTable)) hcn z1 z2 z3) (fun b hb => by have h1 := hb.1; have h2 := hb.2; have := hbO3.out; have := kk.size; refine ⟨by omega, by omega, by omega⟩)
  have elsR : Els rGTable w7 (fun b => w.heap.size + 1 + 1 + 1 ≤ b ∧ b < w7.heap.size ∧ b ≠ w1.heap.size) (cssT ++ [[.int .i64 c.fNext, .string (strB t.fName), .slice b1 t.fColumns.length d1, .slice b2 t.fKey.length d2]]) (c.fTables ++ [({ t with fID := c.fNext } : GTable)]) :=
    Els.snoc ⟨elsT7.1, fun i cc x h1 h2 => rGTable_lawful.mono (fGTable_to (elsT7.2 i cc x h1 h2)) (fun b hb => by have h3 := hb.1; have h4 := hb.2.1; simp at h3; have := hbO3.out; refine ⟨by omega, by omega, by omega⟩)⟩ rNew
  have elsI : Els rGIndex w7 (fun b => w.heap.size + 1 + 1 + 1 ≤ b ∧ b < w7.heap.size ∧ b ≠ w1.heap.size) cssX c.fIndexes :=
    ⟨elsX7.1, fun i cc x h1 h2 => rGIndex_lawful.mono (fGIndex_to (elsX7.2 i cc x h1 h2)) (fun b hb => by have h3 := hb.1; have h4 := hb.2.1; have := hbO3.out; refine ⟨by omega, by omega, by omega⟩)⟩
  clear rN elsT7 elsX7
  have k8 : Keep (· = w1.heap.size) w7 (((w7.setCell ⟨w1.heap.size, 2, none⟩ (.slice a7 (c.fTables.length + 1) c7)).setCell ⟨w1.heap.size, 1, none⟩ (.int .i64 (c.fNext + 1))).setCell ⟨w1.heap.size, 0, none⟩ (.int .i64 (c.fVersion + 1))) := (((Keep.refl (· = w1.heap.size) w7).setCell (p := ⟨w1.heap.size, 2, none⟩) (fun _ => rfl) (.slice a7 (c.fTables.length + 1) c7)).setCell (p := ⟨w1.heap.size, 1, none⟩) (fun _ => rfl) (.int .i64 (c.fNext + 1))).setCell (p := ⟨w1.heap.size, 0, none⟩) (fun _ => rfl) (.int .i64 (c.fVersion + 1))
  have rowO8 := rowO7.set 2 (.slice a7 (c.fTables.length + 1) c7)
  simp only [List.set_cons_succ, List.set_cons_zero] at rowO8
  have rowO9 := rowO8.set 1 (.int .i64 (c.fNext + 1))
  simp only [List.set_cons_succ, List.set_cons_zero] at rowO9
  have rowO10 := rowO9.set 0 (.int .i64 (c.fVersion + 1))
  simp only [List.set_cons_zero] at rowO10
  have x7 := rowO7.cell 2
  (try simp only [List.getElem?_cons_succ] at x7); (try simp only [List.getElem?_cons_zero] at x7)
  have f7 := rowO7.frozen 2
  have x8 := rowO8.cell 1
  (try simp only [List.getElem?_cons_succ] at x8); (try simp only [List.getElem?_cons_zero] at x8)
  have f8 := rowO8.frozen 1
  have x9 := rowO9.cell 0
  (try simp only [List.getElem?_cons_succ] at x9); (try simp only [List.getElem?_cons_zero] at x9)
  have f9 := rowO9.frozen 0
  have i1 : IntKind.i64.wrap (c.fNext + 1) = c.fNext + 1 := by have := hcn.1; rw [IntKind.wrap_i64]; omega
  have i2 : IntKind.i64.wrap (c.fVersion + 1) = c.fVersion + 1 := by have := hcv.1; rw [IntKind.wrap_i64]; omega
  replace rowR := rowR.keep k8 (by omega)
  have ldo := Whole.row (P := Try.prog) (T := 34) S_Catalog rfl rowO10
  unfold Whole at ldo
  have hstR := store_run (P := Try.prog) (cs := [.int .i64 (c.fVersion + 1), .int .i64 (c.fNext + 1), .slice a7 (c.fTables.length + 1) c7, .slice aP c.fIndexes.length cP]) S_Catalog rowR rfl rfl rfl
  have rowF := rowR.setRow [.int .i64 (c.fVersion + 1), .int .i64 (c.fNext + 1), .slice a7 (c.fTables.length + 1) c7, .slice aP c.fIndexes.length cP]
  have k9 : Keep (· = w.heap.size + 1 + 1) (((w7.setCell ⟨w1.heap.size, 2, none⟩ (.slice a7 (c.fTables.length + 1) c7)).setCell ⟨w1.heap.size, 1, none⟩ (.int .i64 (c.fNext + 1))).setCell ⟨w1.heap.size, 0, none⟩ (.int .i64 (c.fVersion + 1))) ((((w7.setCell ⟨w1.heap.size, 2, none⟩ (.slice a7 (c.fTables.length + 1) c7)).setCell ⟨w1.heap.size, 1, none⟩ (.int .i64 (c.fNext + 1))).setCell ⟨w1.heap.size, 0, none⟩ (.int .i64 (c.fVersion + 1))).setRow (w.heap.size + 1 + 1) ([.int .i64 (c.fVersion + 1), .int .i64 (c.fNext + 1), .slice a7 (c.fTables.length + 1) c7, .slice aP c.fIndexes.length cP] : List Value).toArray) := (Keep.refl (· = w.heap.size + 1 + 1) _).setRow (fun _ => rfl) _
  have kF : Keep Nix w ((((w7.setCell ⟨w1.heap.size, 2, none⟩ (.slice a7 (c.fTables.length + 1) c7)).setCell ⟨w1.heap.size, 1, none⟩ (.int .i64 (c.fNext + 1))).setCell ⟨w1.heap.size, 0, none⟩ (.int .i64 (c.fVersion + 1))).setRow (w.heap.size + 1 + 1) ([.int .i64 (c.fVersion + 1), .int .i64 (c.fNext + 1), .slice a7 (c.fTables.length + 1) c7, .slice aP c.fIndexes.length cP] : List Value).toArray) := (kk.then k8 (fun i hi e => by omega)).then k9 (fun i hi e => by omega)
  have hs67' : w.heap.size ≤ w7.heap.size := kk.size
  have e9 : w7.heap.size ≤ ((((w7.setCell ⟨w1.heap.size, 2, none⟩ (.slice a7 (c.fTables.length + 1) c7)).setCell ⟨w1.heap.size, 1, none⟩ (.int .i64 (c.fNext + 1))).setCell ⟨w1.heap.size, 0, none⟩ (.int .i64 (c.fVersion + 1))).setRow (w.heap.size + 1 + 1) ([.int .i64 (c.fVersion + 1), .int .i64 (c.fNext + 1), .slice a7 (c.fTables.length + 1) c7, .slice aP c.fIndexes.length cP] : List Value).toArray).heap.size := Nat.le_trans k8.size k9.size
  have hown9 := owned_keep (owned_keep own7 k8 (fun b hb e => (h7g b hb).2.2 e)) k9 (fun b hb e => by have := (h7g b hb).1; omega)
  have hownX9 := owned_keep (owned_keep ownX7 k8 (fun b hb e => by have := hXlt.out b hb; omega)) k9 (fun b hb e => by have := hXm b hb; omega)
  have elsR9 := (elsR.keep rGTable_lawful k8 (fun b hb e => hb.2.2 e)).keep rGTable_lawful k9 (fun b hb e => by have := hb.1; omega)
  have elsI9 := (elsI.keep rGIndex_lawful k8 (fun b hb e => hb.2.2 e)).keep rGIndex_lawful k9 (fun b hb e => by have := hb.1; omega)
  have hres := added_reads (t := t) hcv hcn hs hv h7 h6 e9 hs67' hown9 hownX9 elsR9 elsI9 (fun b hb => ⟨(h7g b hb).1, (h7g b hb).2.1⟩) (fun b hb => by have := hXm b hb; have := hXlt.out b hb; have := hbO3.out; constructor <;> omega)
  have HRES := Lib.hid hres
  have HKF := Lib.hid kF
  clear hres kF elsR9 elsI9 hown9 hownX9 elsR elsI rNew own7 ownX7 k8 k9 kk rowO7 rowO8 rowO9 rowO10
  go_wp2_with fail
  refine bodyPost_ret (results_cell_row2 (by rfl) _ _ _ _ _ _ _ (by rfl) rowF Try.underlying34 (by rfl) (by exact S_Catalog.info)) rfl ?_
  rw [HR.out]
  exact ⟨_, rfl, HRES.out, rGCatalog_ones HRES.out, HKF.out⟩
end
end Go.Proofs.Ytibaehlfpgipfaa
