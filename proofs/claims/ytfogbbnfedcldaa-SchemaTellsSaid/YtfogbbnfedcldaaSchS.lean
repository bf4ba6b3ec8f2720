/- SCHEMA: the law SchemaTells. Printed by mac.py. -/
import Derived.Test.YtfogbbnfedcldaaSchR
namespace Go.Proofs.Ytfogbbnfedcldaa
open Go.RowKit

namespace schemaTells
theorem cat_facts {w : World} {p : Nat → Prop} {cs : List Value} {c : GCatalog} (h : rGCatalog w p cs c) : cs.length = 4 ∧ isI64 c.fVersion ∧ isI64 c.fNext ∧ c.fTables.length ≤ far ∧ c.fIndexes.length ≤ far := by
  obtain ⟨aT, cT, aX, cX, rfl, h1, h2, h3, h4, -⟩ := rGCatalog_open h
  exact ⟨rfl, h1, h2, (rList_len h3).2.2, (rList_len h4).2.2⟩
section
attribute [local go_sem ↓] ldz_Catalog stz_Catalog ldz_Table stz_Table ldz_Index stz_Index
set_option maxRecDepth 100000 in
set_option maxHeartbeats 16000000 in
theorem walk' (W : World) (c : GCatalog) (csc : List Value) (nm : List UInt8) (d : Int) (hc : rGCatalog W (· < W.heap.size) csc c) :
    Calls Try.prog 3 #[.agg csc.toArray, .string (strB nm), .int .i64 d] W fun e w' => e = .returned (.bool true) ∧ Keep Nix W w' := by
  obtain ⟨hlc, hcv, hcn, nT, nX⟩ := cat_facts hc
  have row0 : RowIs (W.alloc (.cells csc.toArray 25)) W.heap.size 25 csc := by have := RowIs.alloc W csc.toArray 25; simpa using this
  have kk : Keep Nix W (W.alloc (.cells csc.toArray 25)) := (Keep.refl Nix W).alloc _
  have gc := rGCatalog_lawful.nix hc kk
  clear hc
  have ld0 := Whole.run (P := Try.prog) S_Catalog hlc row0
  obtain ⟨sb, HSB⟩ : ∃ b, Hid (decide (Small c) = b) := ⟨_, rfl⟩
  obtain ⟨rb, HRB⟩ : ∃ b, Hid (rightB c = b) := ⟨_, rfl⟩
  go_enter Try.func3, Try.ntmps3
  go_wp2_with fail
  clear ld0
  have HC := small_c c _ _ gc
  rw [HSB.out] at HC
  go_fit HC
  rintro e w1 ⟨rfl, k1⟩
  (try replace row0 := row0.keep k1 id)
  (try replace rowI := rowI.keep k1 id)
  (try replace rowT := rowT.keep k1 id)
  (try replace rowU := rowU.keep k1 id)
  (try replace rowX := rowX.keep k1 id)
  (try replace rowY := rowY.keep k1 id)
  (try replace gc := rGCatalog_lawful.nix gc k1)
  (try replace gi := rGCatalog_lawful.nix gi k1)
  (try replace fT := fGTable_lawful.nix fT k1)
  (try replace gU := rGTable_lawful.nix gU k1)
  (try replace fX := fGIndex_lawful.nix fX k1)
  (try replace gY := rGIndex_lawful.nix gY k1)
  replace kk := kk.trans k1
  clear HC k1
  cases sb with
  | false =>
    go_wp2_with fail
    go_fit (swake_c _)
    rintro e w2 ⟨rfl, k2⟩
    go_wp2_with fail
    go_ret
    exact ⟨rfl, kk.trans k2⟩
  | true =>
  have hsm := of_decide_eq_true HSB.out
  have hsc := hsm.toC
  have HS := Lib.hid hsc
  clear hsm hsc HSB
  have ld0 := Whole.run (P := Try.prog) S_Catalog hlc row0
  go_wp2_with fail
  clear ld0
  go_fit (Copy_o c _ _ gc HS.out)
  rintro e w2 ⟨csi, rfl, hOwn, k2⟩
  (try replace row0 := row0.keep k2 id)
  (try replace rowI := rowI.keep k2 id)
  (try replace rowT := rowT.keep k2 id)
  (try replace rowU := rowU.keep k2 id)
  (try replace rowX := rowX.keep k2 id)
  (try replace rowY := rowY.keep k2 id)
  (try replace gc := rGCatalog_lawful.nix gc k2)
  (try replace gi := rGCatalog_lawful.nix gi k2)
  (try replace fT := fGTable_lawful.nix fT k2)
  (try replace gU := rGTable_lawful.nix gU k2)
  (try replace fX := fGIndex_lawful.nix fX k2)
  (try replace gY := rGIndex_lawful.nix gY k2)
  replace kk := kk.trans k2
  have gi := hOwn.read hcv hcn nT nX
  have hli := rGCatalog_lawful.len gi
  have ho1 := k2.size
  clear hOwn k2
  obtain ⟨hst, rowI, kV⟩ := boxed (P := Try.prog) (zs := [.int .i64 0, .int .i64 0, .slice none 0 0, .slice none 0 0]) S_Catalog w2 rfl hli (rGCatalog_ones gi)
  (try replace row0 := row0.keep kV id)
  (try replace rowI := rowI.keep kV id)
  (try replace rowT := rowT.keep kV id)
  (try replace rowU := rowU.keep kV id)
  (try replace rowX := rowX.keep kV id)
  (try replace rowY := rowY.keep kV id)
  (try replace gc := rGCatalog_lawful.nix gc kV)
  (try replace gi := rGCatalog_lawful.nix gi kV)
  (try replace fT := fGTable_lawful.nix fT kV)
  (try replace gU := rGTable_lawful.nix gU kV)
  (try replace fX := fGIndex_lawful.nix fX kV)
  (try replace gY := rGIndex_lawful.nix gY kV)
  replace kk := kk.trans kV
  have gi := rGCatalog_lawful.mono gi (q := fun b => w1.heap.size + 1 + 1 ≤ b ∧ b < w2.heap.size + 1) (fun b hb => ⟨hb.1, by have := hb.2; omega⟩)
  clear kV
  go_wp2_with fail
  clear hst
  generalize (w2.alloc (.cells #[.int .i64 0, .int .i64 0, .slice none 0 0, .slice none 0 0] 25)).setRow w2.heap.size csi.toArray = w3 at *
  have kd : Keep Nix w3 w3.drew := (Keep.refl Nix w3).drew
  (try replace row0 := row0.keep kd id)
  (try replace rowI := rowI.keep kd id)
  (try replace rowT := rowT.keep kd id)
  (try replace rowU := rowU.keep kd id)
  (try replace rowX := rowX.keep kd id)
  (try replace rowY := rowY.keep kd id)
  (try replace gc := rGCatalog_lawful.nix gc kd)
  (try replace gi := rGCatalog_lawful.nix gi kd)
  (try replace fT := fGTable_lawful.nix fT kd)
  (try replace gU := rGTable_lawful.nix gU kd)
  (try replace fX := fGIndex_lawful.nix fX kd)
  (try replace gY := rGIndex_lawful.nix gY kd)
  replace kk := kk.trans kd
  clear kd
  have ld0 := Whole.run (P := Try.prog) S_Catalog hlc row0
  have ldI := Whole.run (P := Try.prog) S_Catalog hli rowI
  refine wp_region_held_drew (S := (fun w' => (wholeSem 25 (.pointer (some ⟨W.heap.size, 0, none⟩))).run Try.prog w' = .ok (.value (.agg csc.toArray)) w' ∧ (wholeSem 25 (.pointer (some ⟨w2.heap.size, 0, none⟩))).run Try.prog w' = .ok (.value (.agg csi.toArray)) w')) (by kernel_rfl) (⟨ld0, ldI⟩) (fun hHeld => ?_)
  refine wpAnyH_ready (rs := [0]) (by kernel_rfl) (by simp) ?_
  refine AllReadyH.cons rfl (fun K hK => ?_) AllReadyH.nil
  go_simp
  go_fit (swake_c _)
  rintro e w9 ⟨rfl, k9⟩
  (try replace row0 := row0.keep k9 id)
  (try replace rowI := rowI.keep k9 id)
  (try replace rowT := rowT.keep k9 id)
  (try replace rowU := rowU.keep k9 id)
  (try replace rowX := rowX.keep k9 id)
  (try replace rowY := rowY.keep k9 id)
  (try replace gc := rGCatalog_lawful.nix gc k9)
  (try replace gi := rGCatalog_lawful.nix gi k9)
  (try replace fT := fGTable_lawful.nix fT k9)
  (try replace gU := rGTable_lawful.nix gU k9)
  (try replace fX := fGIndex_lawful.nix fX k9)
  (try replace gY := rGIndex_lawful.nix gY k9)
  replace kk := kk.trans k9
  clear ld0 ldI k9
  have ld0 := Whole.run (P := Try.prog) S_Catalog hlc row0
  have ldI := Whole.run (P := Try.prog) S_Catalog hli rowI
  go_wp2_with fail
  refine hK.out _ _ (⟨ld0, ldI⟩) (fun hHeld => ?_)
  clear hK K
  (try simp only [Act.put]); (try simp only [List.getElem_toArray]); (try simp only [List.getElem_cons_succ]); (try simp only [List.getElem_cons_zero]); (try simp only [List.setIfInBounds_toArray]); (try simp only [List.set_cons_succ]); (try simp only [List.set_cons_zero])
  refine wpAnyH_take (i := 1) (v := ?_) rfl (by kernel_rfl) (by kernel_rfl) (by kernel_rfl) (fun _ _ _ h => h) (Or.inl ⟨by kernel_rfl, ?_⟩) hHeld ?_
  rotate_left
  · intro w' hSw
    (try dsimp only at hSw)
    (try simp only [List.getElem_toArray]); (try simp only [List.getElem_cons_succ]); (try simp only [List.getElem_cons_zero])
    go_simp
    try with_reducible rfl
  (try simp only [Act.put]); (try simp only [List.getElem_toArray]); (try simp only [List.getElem_cons_succ]); (try simp only [List.getElem_cons_zero]); (try simp only [List.setIfInBounds_toArray]); (try simp only [List.set_cons_succ]); (try simp only [List.set_cons_zero])
  refine wpAnyH_take (i := 2) (v := ?_) rfl (by kernel_rfl) (by kernel_rfl) (by kernel_rfl) (fun _ _ _ h => h) (Or.inl ⟨by kernel_rfl, ?_⟩) hHeld ?_
  rotate_left
  · intro w' hSw
    (try dsimp only at hSw)
    (try simp only [List.getElem_toArray]); (try simp only [List.getElem_cons_succ]); (try simp only [List.getElem_cons_zero])
    go_simp
    try with_reducible rfl
  (try simp only [Act.put]); (try simp only [List.getElem_toArray]); (try simp only [List.getElem_cons_succ]); (try simp only [List.getElem_cons_zero]); (try simp only [List.setIfInBounds_toArray]); (try simp only [List.set_cons_succ]); (try simp only [List.set_cons_zero])
  refine wpAnyH_take (i := 3) (v := ?_) rfl (by kernel_rfl) (by kernel_rfl) (by kernel_rfl) (fun _ _ _ h => h) (Or.inl ⟨by kernel_rfl, ?_⟩) hHeld ?_
  rotate_left
  · intro w' hSw
    (try dsimp only at hSw)
    (try simp only [List.getElem_toArray]); (try simp only [List.getElem_cons_succ]); (try simp only [List.getElem_cons_zero])
    go_simp
    try with_reducible rfl
  (try simp only [Act.put]); (try simp only [List.getElem_toArray]); (try simp only [List.getElem_cons_succ]); (try simp only [List.getElem_cons_zero]); (try simp only [List.setIfInBounds_toArray]); (try simp only [List.set_cons_succ]); (try simp only [List.set_cons_zero])
  refine wpAnyH_take (i := 5) (v := ?_) rfl (by kernel_rfl) (by kernel_rfl) (by kernel_rfl) (fun _ _ _ h => h) (Or.inl ⟨by kernel_rfl, ?_⟩) hHeld ?_
  rotate_left
  · intro w' hSw
    (try dsimp only at hSw)
    (try simp only [List.getElem_toArray]); (try simp only [List.getElem_cons_succ]); (try simp only [List.getElem_cons_zero])
    go_simp
    try with_reducible rfl
  (try simp only [Act.put]); (try simp only [List.getElem_toArray]); (try simp only [List.getElem_cons_succ]); (try simp only [List.getElem_cons_zero]); (try simp only [List.setIfInBounds_toArray]); (try simp only [List.set_cons_succ]); (try simp only [List.set_cons_zero])
  refine wpAnyH_ready (rs := [4]) (by kernel_rfl) (by simp) ?_
  refine AllReadyH.cons rfl (fun K hK => ?_) AllReadyH.nil
  go_simp
  have HC := sRight_c c csi _ gi (fun b hb => Nat.lt_of_lt_of_le hb.2 rowI.lt); rw [HRB.out] at HC; go_fit HC
  rintro e w9 ⟨rfl, k9⟩
  (try replace row0 := row0.keep k9 id)
  (try replace rowI := rowI.keep k9 id)
  (try replace rowT := rowT.keep k9 id)
  (try replace rowU := rowU.keep k9 id)
  (try replace rowX := rowX.keep k9 id)
  (try replace rowY := rowY.keep k9 id)
  (try replace gc := rGCatalog_lawful.nix gc k9)
  (try replace gi := rGCatalog_lawful.nix gi k9)
  (try replace fT := fGTable_lawful.nix fT k9)
  (try replace gU := rGTable_lawful.nix gU k9)
  (try replace fX := fGIndex_lawful.nix fX k9)
  (try replace gY := rGIndex_lawful.nix gY k9)
  replace kk := kk.trans k9
  clear ld0 ldI k9
  have ld0 := Whole.run (P := Try.prog) S_Catalog hlc row0
  have ldI := Whole.run (P := Try.prog) S_Catalog hli rowI
  go_wp2_with fail
  refine hK.out _ _ (⟨ld0, ldI⟩) (fun hHeld => ?_)
  clear hK K
  (try simp only [Act.put]); (try simp only [List.getElem_toArray]); (try simp only [List.getElem_cons_succ]); (try simp only [List.getElem_cons_zero]); (try simp only [List.setIfInBounds_toArray]); (try simp only [List.set_cons_succ]); (try simp only [List.set_cons_zero])
  refine wpAnyH_ready (rs := [6]) (by kernel_rfl) (by simp) ?_
  refine AllReadyH.cons rfl (fun K hK => ?_) AllReadyH.nil
  go_simp
  have HC := rRight_c c csc _ gc (fun b hb => Nat.lt_of_lt_of_le hb kk.size); rw [HRB.out] at HC; go_fit HC
  rintro e w9 ⟨rfl, k9⟩
  (try replace row0 := row0.keep k9 id)
  (try replace rowI := rowI.keep k9 id)
  (try replace rowT := rowT.keep k9 id)
  (try replace rowU := rowU.keep k9 id)
  (try replace rowX := rowX.keep k9 id)
  (try replace rowY := rowY.keep k9 id)
  (try replace gc := rGCatalog_lawful.nix gc k9)
  (try replace gi := rGCatalog_lawful.nix gi k9)
  (try replace fT := fGTable_lawful.nix fT k9)
  (try replace gU := rGTable_lawful.nix gU k9)
  (try replace fX := fGIndex_lawful.nix fX k9)
  (try replace gY := rGIndex_lawful.nix gY k9)
  replace kk := kk.trans k9
  clear ld0 ldI k9
  have ld0 := Whole.run (P := Try.prog) S_Catalog hlc row0
  have ldI := Whole.run (P := Try.prog) S_Catalog hli rowI
  go_wp2_with fail
  refine hK.out _ _ (⟨ld0, ldI⟩) (fun hHeld => ?_)
  clear hK K
  (try simp only [Act.put]); (try simp only [List.getElem_toArray]); (try simp only [List.getElem_cons_succ]); (try simp only [List.getElem_cons_zero]); (try simp only [List.setIfInBounds_toArray]); (try simp only [List.set_cons_succ]); (try simp only [List.set_cons_zero])
  refine wpAnyH_take (i := 7) (v := ?_) rfl (by kernel_rfl) (by kernel_rfl) (by kernel_rfl) (fun _ _ _ h => h) (Or.inl ⟨by kernel_rfl, ?_⟩) hHeld ?_
  rotate_left
  · intro w' hSw
    (try dsimp only at hSw)
    (try simp only [List.getElem_toArray]); (try simp only [List.getElem_cons_succ]); (try simp only [List.getElem_cons_zero])
    go_simp
    try with_reducible rfl
  (try simp only [Act.put]); (try simp only [List.getElem_toArray]); (try simp only [List.getElem_cons_succ]); (try simp only [List.getElem_cons_zero]); (try simp only [List.setIfInBounds_toArray]); (try simp only [List.set_cons_succ]); (try simp only [List.set_cons_zero])
  refine wpAnyH_take (i := 8) (v := ?_) rfl (by kernel_rfl) (by kernel_rfl) (by kernel_rfl) (fun _ _ _ h => h) (Or.inl ⟨by kernel_rfl, ?_⟩) hHeld ?_
  rotate_left
  · intro w' hSw
    (try dsimp only at hSw)
    (try simp only [List.getElem_toArray]); (try simp only [List.getElem_cons_succ]); (try simp only [List.getElem_cons_zero])
    go_simp
    try with_reducible rfl
  (try simp only [Act.put]); (try simp only [List.getElem_toArray]); (try simp only [List.getElem_cons_succ]); (try simp only [List.getElem_cons_zero]); (try simp only [List.setIfInBounds_toArray]); (try simp only [List.set_cons_succ]); (try simp only [List.set_cons_zero])
  refine wpAnyH_take (i := 9) (v := ?_) rfl (by kernel_rfl) (by kernel_rfl) (by kernel_rfl) (fun _ _ _ h => h) (Or.inl ⟨by kernel_rfl, ?_⟩) hHeld ?_
  rotate_left
  · intro w' hSw
    (try dsimp only at hSw)
    (try simp only [List.getElem_toArray]); (try simp only [List.getElem_cons_succ]); (try simp only [List.getElem_cons_zero])
    go_simp
    try with_reducible rfl
  (try simp only [Act.put]); (try simp only [List.getElem_toArray]); (try simp only [List.getElem_cons_succ]); (try simp only [List.getElem_cons_zero]); (try simp only [List.setIfInBounds_toArray]); (try simp only [List.set_cons_succ]); (try simp only [List.set_cons_zero])
  refine wpAnyH_take (i := 10) (v := ?_) rfl (by kernel_rfl) (by kernel_rfl) (by kernel_rfl) (fun _ _ _ h => h) (Or.inl ⟨by kernel_rfl, ?_⟩) hHeld ?_
  rotate_left
  · intro w' hSw
    (try dsimp only at hSw)
    (try simp only [List.getElem_toArray]); (try simp only [List.getElem_cons_succ]); (try simp only [List.getElem_cons_zero])
    go_simp
    try with_reducible rfl
  (try simp only [Act.put]); (try simp only [List.getElem_toArray]); (try simp only [List.getElem_cons_succ]); (try simp only [List.getElem_cons_zero]); (try simp only [List.setIfInBounds_toArray]); (try simp only [List.set_cons_succ]); (try simp only [List.set_cons_zero])
  refine wpAnyH_take (i := 11) (v := ?_) rfl (by kernel_rfl) (by kernel_rfl) (by kernel_rfl) (fun _ _ _ h => h) (Or.inl ⟨by kernel_rfl, ?_⟩) hHeld ?_
  rotate_left
  · intro w' hSw
    (try dsimp only at hSw)
    (try simp only [List.getElem_toArray]); (try simp only [List.getElem_cons_succ]); (try simp only [List.getElem_cons_zero])
    go_simp
    try with_reducible rfl
  (try simp only [Act.put]); (try simp only [List.getElem_toArray]); (try simp only [List.getElem_cons_succ]); (try simp only [List.getElem_cons_zero]); (try simp only [List.setIfInBounds_toArray]); (try simp only [List.set_cons_succ]); (try simp only [List.set_cons_zero])
  refine wpAnyH_ready (rs := [12]) (by kernel_rfl) (by simp) ?_
  refine AllReadyH.cons rfl (fun K hK => ?_) AllReadyH.nil
  go_simp
  go_fit (cmp_sCatalog_c _ c csi csc gi gc)
  rintro e w9 ⟨rfl, k9⟩
  (try replace row0 := row0.keep k9 id)
  (try replace rowI := rowI.keep k9 id)
  (try replace rowT := rowT.keep k9 id)
  (try replace rowU := rowU.keep k9 id)
  (try replace rowX := rowX.keep k9 id)
  (try replace rowY := rowY.keep k9 id)
  (try replace gc := rGCatalog_lawful.nix gc k9)
  (try replace gi := rGCatalog_lawful.nix gi k9)
  (try replace fT := fGTable_lawful.nix fT k9)
  (try replace gU := rGTable_lawful.nix gU k9)
  (try replace fX := fGIndex_lawful.nix fX k9)
  (try replace gY := rGIndex_lawful.nix gY k9)
  replace kk := kk.trans k9
  clear ld0 ldI k9
  have ld0 := Whole.run (P := Try.prog) S_Catalog hlc row0
  have ldI := Whole.run (P := Try.prog) S_Catalog hli rowI
  go_wp2_with fail
  refine hK.out _ _ (⟨ld0, ldI⟩) (fun hHeld => ?_)
  clear hK K
  (try simp only [Act.put]); (try simp only [List.getElem_toArray]); (try simp only [List.getElem_cons_succ]); (try simp only [List.getElem_cons_zero]); (try simp only [List.setIfInBounds_toArray]); (try simp only [List.set_cons_succ]); (try simp only [List.set_cons_zero])
  refine wpAnyH_take (i := 13) (v := ?_) rfl (by kernel_rfl) (by kernel_rfl) (by kernel_rfl) (fun _ _ _ h => h) (Or.inl ⟨by kernel_rfl, ?_⟩) hHeld ?_
  rotate_left
  · intro w' hSw
    (try dsimp only at hSw)
    (try simp only [List.getElem_toArray]); (try simp only [List.getElem_cons_succ]); (try simp only [List.getElem_cons_zero])
    go_simp
    try with_reducible rfl
  (try simp only [Act.put]); (try simp only [List.getElem_toArray]); (try simp only [List.getElem_cons_succ]); (try simp only [List.getElem_cons_zero]); (try simp only [List.setIfInBounds_toArray]); (try simp only [List.set_cons_succ]); (try simp only [List.set_cons_zero])
  refine wpAnyH_take (i := 14) (v := ?_) rfl (by kernel_rfl) (by kernel_rfl) (by kernel_rfl) (fun _ _ _ h => h) (Or.inl ⟨by kernel_rfl, ?_⟩) hHeld ?_
  rotate_left
  · intro w' hSw
    (try dsimp only at hSw)
    (try simp only [List.getElem_toArray]); (try simp only [List.getElem_cons_succ]); (try simp only [List.getElem_cons_zero])
    go_simp
    try with_reducible rfl
  (try simp only [Act.put]); (try simp only [List.getElem_toArray]); (try simp only [List.getElem_cons_succ]); (try simp only [List.getElem_cons_zero]); (try simp only [List.setIfInBounds_toArray]); (try simp only [List.set_cons_succ]); (try simp only [List.set_cons_zero])
  refine wpAnyH_done (by kernel_rfl) ?_ _
  clear ld0 ldI hHeld
  have ld0 := Whole.run (P := Try.prog) S_Catalog hlc row0
  go_wp2_with fail
  clear ld0
  have HC := rRight_c c csc _ gc (fun b hb => Nat.lt_of_lt_of_le hb kk.size)
  rw [HRB.out] at HC
  go_fit HC
  clear HC
  rintro e w4 ⟨rfl, k4⟩
  (try replace row0 := row0.keep k4 id)
  (try replace rowI := rowI.keep k4 id)
  (try replace rowT := rowT.keep k4 id)
  (try replace rowU := rowU.keep k4 id)
  (try replace rowX := rowX.keep k4 id)
  (try replace rowY := rowY.keep k4 id)
  (try replace gc := rGCatalog_lawful.nix gc k4)
  (try replace gi := rGCatalog_lawful.nix gi k4)
  (try replace fT := fGTable_lawful.nix fT k4)
  (try replace gU := rGTable_lawful.nix gU k4)
  (try replace fX := fGIndex_lawful.nix fX k4)
  (try replace gY := rGIndex_lawful.nix gY k4)
  replace kk := kk.trans k4
  clear k4
  have hy4 : w2.heap.size < w4.heap.size := rowI.lt
  have hy0 : W.heap.size < w4.heap.size := row0.lt
  cases rb with
  | false =>
    go_wp2_with fail
    go_ret
    exact ⟨rfl, kk⟩
  | true =>
  have ldI := Whole.run (P := Try.prog) S_Catalog hli rowI
  go_wp2_with fail
  clear ldI
  go_fit (sTable_c c csi nm _ gi HS.out.1)
  obtain ⟨y, HY⟩ : ∃ y, Hid (firstB (fun x => decide (x.fName = nm)) c.fTables zTab = y) := ⟨_, rfl⟩
  rw [HY.out]
  obtain ⟨yt, yb⟩ := y
  rintro e w5 ⟨cst, rfl, fT, k5⟩
  replace fT : fGTable w5 (NewIn w4 w5) cst yt := fT
  (try replace row0 := row0.keep k5 id)
  (try replace rowI := rowI.keep k5 id)
  (try replace rowT := rowT.keep k5 id)
  (try replace rowU := rowU.keep k5 id)
  (try replace rowX := rowX.keep k5 id)
  (try replace rowY := rowY.keep k5 id)
  (try replace gc := rGCatalog_lawful.nix gc k5)
  (try replace gi := rGCatalog_lawful.nix gi k5)
  (try replace fT := fGTable_lawful.nix fT k5)
  (try replace gU := rGTable_lawful.nix gU k5)
  (try replace fX := fGIndex_lawful.nix fX k5)
  (try replace gY := rGIndex_lawful.nix gY k5)
  replace kk := kk.trans k5
  clear k5
  obtain ⟨hst, rowT, kV⟩ := boxed (P := Try.prog) (zs := [.int .i64 0, .string { data := #[] }, .slice none 0 0, .slice none 0 0]) S_Table w5 rfl (fGTable_lawful.len fT) (fGTable_ones fT)
  (try replace row0 := row0.keep kV id)
  (try replace rowI := rowI.keep kV id)
  (try replace rowT := rowT.keep kV id)
  (try replace rowU := rowU.keep kV id)
  (try replace rowX := rowX.keep kV id)
  (try replace rowY := rowY.keep kV id)
  (try replace gc := rGCatalog_lawful.nix gc kV)
  (try replace gi := rGCatalog_lawful.nix gi kV)
  (try replace fT := fGTable_lawful.nix fT kV)
  (try replace gU := rGTable_lawful.nix gU kV)
  (try replace fX := fGIndex_lawful.nix fX kV)
  (try replace gY := rGIndex_lawful.nix gY kV)
  replace kk := kk.trans kV
  clear kV
  have ld0 := Whole.run (P := Try.prog) S_Catalog hlc row0
  go_wp2_with fail
  clear ld0 hst
  have HC := rTable_c c csc nm _ gc (fun b hb => Nat.lt_of_lt_of_le hb kk.size)
  rw [HY.out] at HC
  go_fit HC
  clear HC
  rintro e w6 ⟨csu, rfl, gU, k6⟩
  replace gU : rGTable w6 (· < W.heap.size) csu yt := gU
  (try replace row0 := row0.keep k6 id)
  (try replace rowI := rowI.keep k6 id)
  (try replace rowT := rowT.keep k6 id)
  (try replace rowU := rowU.keep k6 id)
  (try replace rowX := rowX.keep k6 id)
  (try replace rowY := rowY.keep k6 id)
  (try replace gc := rGCatalog_lawful.nix gc k6)
  (try replace gi := rGCatalog_lawful.nix gi k6)
  (try replace fT := fGTable_lawful.nix fT k6)
  (try replace gU := rGTable_lawful.nix gU k6)
  (try replace fX := fGIndex_lawful.nix fX k6)
  (try replace gY := rGIndex_lawful.nix gY k6)
  replace kk := kk.trans k6
  clear k6
  obtain ⟨hst, rowU, kV⟩ := boxed (P := Try.prog) (zs := [.int .i64 0, .string { data := #[] }, .slice none 0 0, .slice none 0 0]) S_Table w6 rfl (rGTable_lawful.len gU) (rGTable_ones gU)
  (try replace row0 := row0.keep kV id)
  (try replace rowI := rowI.keep kV id)
  (try replace rowT := rowT.keep kV id)
  (try replace rowU := rowU.keep kV id)
  (try replace rowX := rowX.keep kV id)
  (try replace rowY := rowY.keep kV id)
  (try replace gc := rGCatalog_lawful.nix gc kV)
  (try replace gi := rGCatalog_lawful.nix gi kV)
  (try replace fT := fGTable_lawful.nix fT kV)
  (try replace gU := rGTable_lawful.nix gU kV)
  (try replace fX := fGIndex_lawful.nix fX kV)
  (try replace gY := rGIndex_lawful.nix gY kV)
  replace kk := kk.trans kV
  clear kV
  have ldI := Whole.run (P := Try.prog) S_Catalog hli rowI
  go_wp2_with fail
  clear ldI hst
  obtain ⟨y, HX⟩ : ∃ y, Hid (firstB (fun x => decide (x.fName = nm)) c.fIndexes zIdx = y) := ⟨_, rfl⟩
  have HC := sIndex_c c csi nm _ gi HS.out.2.1
  rw [HX.out] at HC
  go_fit HC
  clear HC
  obtain ⟨xt, xb⟩ := y
  rintro e w7 ⟨csx, rfl, fX, k7⟩
  replace fX : fGIndex w7 (NewIn _ w7) csx xt := fX
  (try replace row0 := row0.keep k7 id)
  (try replace rowI := rowI.keep k7 id)
  (try replace rowT := rowT.keep k7 id)
  (try replace rowU := rowU.keep k7 id)
  (try replace rowX := rowX.keep k7 id)
  (try replace rowY := rowY.keep k7 id)
  (try replace gc := rGCatalog_lawful.nix gc k7)
  (try replace gi := rGCatalog_lawful.nix gi k7)
  (try replace fT := fGTable_lawful.nix fT k7)
  (try replace gU := rGTable_lawful.nix gU k7)
  (try replace fX := fGIndex_lawful.nix fX k7)
  (try replace gY := rGIndex_lawful.nix gY k7)
  replace kk := kk.trans k7
  clear k7
  obtain ⟨hst, rowX, kV⟩ := boxed (P := Try.prog) (zs := [.int .i64 0, .int .i64 0, .string { data := #[] }, .slice none 0 0, .bool false, .int .i64 0, .bool false]) S_Index w7 rfl (fGIndex_lawful.len fX) (fGIndex_ones fX)
  (try replace row0 := row0.keep kV id)
  (try replace rowI := rowI.keep kV id)
  (try replace rowT := rowT.keep kV id)
  (try replace rowU := rowU.keep kV id)
  (try replace rowX := rowX.keep kV id)
  (try replace rowY := rowY.keep kV id)
  (try replace gc := rGCatalog_lawful.nix gc kV)
  (try replace gi := rGCatalog_lawful.nix gi kV)
  (try replace fT := fGTable_lawful.nix fT kV)
  (try replace gU := rGTable_lawful.nix gU kV)
  (try replace fX := fGIndex_lawful.nix fX kV)
  (try replace gY := rGIndex_lawful.nix gY kV)
  replace kk := kk.trans kV
  clear kV
  have ld0 := Whole.run (P := Try.prog) S_Catalog hlc row0
  go_wp2_with fail
  clear ld0 hst
  have HC := rIndex_c c csc nm _ gc (fun b hb => Nat.lt_of_lt_of_le hb kk.size)
  rw [HX.out] at HC
  go_fit HC
  clear HC
  rintro e w8 ⟨csy, rfl, gY, k8⟩
  replace gY : rGIndex w8 (· < W.heap.size) csy xt := gY
  (try replace row0 := row0.keep k8 id)
  (try replace rowI := rowI.keep k8 id)
  (try replace rowT := rowT.keep k8 id)
  (try replace rowU := rowU.keep k8 id)
  (try replace rowX := rowX.keep k8 id)
  (try replace rowY := rowY.keep k8 id)
  (try replace gc := rGCatalog_lawful.nix gc k8)
  (try replace gi := rGCatalog_lawful.nix gi k8)
  (try replace fT := fGTable_lawful.nix fT k8)
  (try replace gU := rGTable_lawful.nix gU k8)
  (try replace fX := fGIndex_lawful.nix fX k8)
  (try replace gY := rGIndex_lawful.nix gY k8)
  replace kk := kk.trans k8
  clear k8
  obtain ⟨hst, rowY, kV⟩ := boxed (P := Try.prog) (zs := [.int .i64 0, .int .i64 0, .string { data := #[] }, .slice none 0 0, .bool false, .int .i64 0, .bool false]) S_Index w8 rfl (rGIndex_lawful.len gY) (rGIndex_ones gY)
  (try replace row0 := row0.keep kV id)
  (try replace rowI := rowI.keep kV id)
  (try replace rowT := rowT.keep kV id)
  (try replace rowU := rowU.keep kV id)
  (try replace rowX := rowX.keep kV id)
  (try replace rowY := rowY.keep kV id)
  (try replace gc := rGCatalog_lawful.nix gc kV)
  (try replace gi := rGCatalog_lawful.nix gi kV)
  (try replace fT := fGTable_lawful.nix fT kV)
  (try replace gU := rGTable_lawful.nix gU kV)
  (try replace fX := fGIndex_lawful.nix fX kV)
  (try replace gY := rGIndex_lawful.nix gY kV)
  replace kk := kk.trans kV
  clear kV
  have ldI := Whole.run (P := Try.prog) S_Catalog hli rowI
  go_wp2_with fail
  clear ldI hst
  generalize (w8.alloc (.cells #[.int .i64 0, .int .i64 0, .string { data := #[] }, .slice none 0 0, .bool false, .int .i64 0, .bool false] 37)).setRow w8.heap.size csy.toArray = wo at *
  have hz5 : w5.heap.size < wo.heap.size := rowT.lt
  have hzI : w2.heap.size < wo.heap.size := rowI.lt
  have hz0 : W.heap.size < wo.heap.size := row0.lt
  go_fit (sOf_c c csi d _ gi HS.out.2.1 HS.out.2.2.2)
  obtain ⟨l, HL⟩ : ∃ l, Hid (pickI d c.fIndexes = l) := ⟨_, rfl⟩
  rw [HL.out]
  rintro e w9 ⟨aL, cL, css, rfl, own, els, k9⟩
  (try replace row0 := row0.keep k9 id)
  (try replace rowI := rowI.keep k9 id)
  (try replace rowT := rowT.keep k9 id)
  (try replace rowU := rowU.keep k9 id)
  (try replace rowX := rowX.keep k9 id)
  (try replace rowY := rowY.keep k9 id)
  (try replace gc := rGCatalog_lawful.nix gc k9)
  (try replace gi := rGCatalog_lawful.nix gi k9)
  (try replace fT := fGTable_lawful.nix fT k9)
  (try replace gU := rGTable_lawful.nix gU k9)
  (try replace fX := fGIndex_lawful.nix fX k9)
  (try replace gY := rGIndex_lawful.nix gY k9)
  replace kk := kk.trans k9
  clear k9
  have hlT := fGTable_lawful.len fT
  have hlU := rGTable_lawful.len gU
  have hlX := fGIndex_lawful.len fX
  have hlY := rGIndex_lawful.len gY
  have ldT := Whole.run (P := Try.prog) S_Table hlT rowT
  have ldU := Whole.run (P := Try.prog) S_Table hlU rowU
  go_wp2_with fail
  clear ldT ldU
  go_fit (cmp_sTable_c _ yt cst csu (fGTable_to fT) gU)
  rintro e wa ⟨rfl, ka⟩
  (try replace row0 := row0.keep ka id)
  (try replace rowI := rowI.keep ka id)
  (try replace rowT := rowT.keep ka id)
  (try replace rowU := rowU.keep ka id)
  (try replace rowX := rowX.keep ka id)
  (try replace rowY := rowY.keep ka id)
  (try replace gc := rGCatalog_lawful.nix gc ka)
  (try replace gi := rGCatalog_lawful.nix gi ka)
  (try replace fT := fGTable_lawful.nix fT ka)
  (try replace gU := rGTable_lawful.nix gU ka)
  (try replace fX := fGIndex_lawful.nix fX ka)
  (try replace gY := rGIndex_lawful.nix gY ka)
  replace kk := kk.trans ka
  replace own := owned_keep own ka (fun _ _ h => h)
  replace els := els.keep fGIndex_lawful ka (fun _ _ h => h)
  have za := ka.size
  clear ka
  have ldX := Whole.run (P := Try.prog) S_Index hlX rowX
  have ldY := Whole.run (P := Try.prog) S_Index hlY rowY
  go_wp2_with fail
  clear ldX ldY
  go_fit (cmp_sIndex_c _ xt csx csy (fGIndex_to fX) gY)
  rintro e wb ⟨rfl, kb⟩
  (try replace row0 := row0.keep kb id)
  (try replace rowI := rowI.keep kb id)
  (try replace rowT := rowT.keep kb id)
  (try replace rowU := rowU.keep kb id)
  (try replace rowX := rowX.keep kb id)
  (try replace rowY := rowY.keep kb id)
  (try replace gc := rGCatalog_lawful.nix gc kb)
  (try replace gi := rGCatalog_lawful.nix gi kb)
  (try replace fT := fGTable_lawful.nix fT kb)
  (try replace gU := rGTable_lawful.nix gU kb)
  (try replace fX := fGIndex_lawful.nix fX kb)
  (try replace gY := rGIndex_lawful.nix gY kb)
  replace kk := kk.trans kb
  replace own := owned_keep own kb (fun _ _ h => h)
  replace els := els.keep fGIndex_lawful kb (fun _ _ h => h)
  have zb := kb.size
  clear kb
  have ld0 := Whole.run (P := Try.prog) S_Catalog hlc row0
  go_wp2_with fail
  clear ld0
  have HC := rOf_c c csc d _ gc (fun b hb => Nat.lt_of_lt_of_le hb kk.size) HS.out.2.2.2
  rw [HL.out] at HC
  go_fit HC
  clear HC
  rintro e wc ⟨aR, cR, csr, rfl, ownR, elsR, kc⟩
  (try replace row0 := row0.keep kc id)
  (try replace rowI := rowI.keep kc id)
  (try replace rowT := rowT.keep kc id)
  (try replace rowU := rowU.keep kc id)
  (try replace rowX := rowX.keep kc id)
  (try replace rowY := rowY.keep kc id)
  (try replace gc := rGCatalog_lawful.nix gc kc)
  (try replace gi := rGCatalog_lawful.nix gi kc)
  (try replace fT := fGTable_lawful.nix fT kc)
  (try replace gU := rGTable_lawful.nix gU kc)
  (try replace fX := fGIndex_lawful.nix fX kc)
  (try replace gY := rGIndex_lawful.nix gY kc)
  replace kk := kk.trans kc
  replace own := owned_keep own kc (fun _ _ h => h)
  replace els := els.keep fGIndex_lawful kc (fun _ _ h => h)
  have zc := kc.size
  clear kc
  have hlen : l.length ≤ 1000 := by rw [← HL.out]; exact Nat.le_trans (List.length_filter_le _ _) HS.out.2.2.2
  have hfar : l.length ≤ far := by unfold far; omega
  have hl1 : rList rGIndex wc (fun b => wo.heap.size ≤ b ∧ b < wc.heap.size) [.slice aL l.length cL] l := list_owned (R := fGIndex) own els hfar (fun cc x h => rGIndex_lawful.mono (fGIndex_to h) (fun b hb => ⟨hb.1.1, Nat.lt_of_lt_of_le hb.1.2 (by omega)⟩)) (fun b h1 h2 => ⟨h1, (own.lt b h2).2⟩)
  have hl2 : rList rGIndex wc (fun b => True) [.slice aR l.length cR] l := list_owned (R := rGIndex) ownR elsR hfar (fun cc x h => rGIndex_lawful.mono h (fun b hb => trivial)) (fun b h1 h2 => trivial)
  go_wp2_with fail
  go_fit (sm_Index _ l aL aR l.length cL l.length cR hl1 hl2)
  rintro e we ⟨rfl, ke⟩
  (try replace row0 := row0.keep ke id)
  (try replace rowI := rowI.keep ke id)
  (try replace rowT := rowT.keep ke id)
  (try replace rowU := rowU.keep ke id)
  (try replace rowX := rowX.keep ke id)
  (try replace rowY := rowY.keep ke id)
  (try replace gc := rGCatalog_lawful.nix gc ke)
  (try replace gi := rGCatalog_lawful.nix gi ke)
  (try replace fT := fGTable_lawful.nix fT ke)
  (try replace gU := rGTable_lawful.nix gU ke)
  (try replace fX := fGIndex_lawful.nix fX ke)
  (try replace gY := rGIndex_lawful.nix gY ke)
  replace kk := kk.trans ke
  replace own := owned_keep own ke (fun _ _ h => h)
  replace els := els.keep fGIndex_lawful ke (fun _ _ h => h)
  clear ke hl1 hl2 ownR elsR
  have cols := ColsAt.of own els
  obtain ⟨S, hS⟩ : ∃ S : Nat → Prop, S = fun b => NewIn wo w9 b ∧ ¬ OwnB (.slice aL l.length cL) b := ⟨_, rfl⟩
  rw [← hS] at cols
  have hSz : ∀ b, S b → wo.heap.size ≤ b := fun b hb => by rw [hS] at hb; exact hb.1.1
  clear hS own els za zb zc gU fX gY rowU rowX rowY HY HX HL
  go_wp2_with fail
  go_loopw [97] (fun i wr => ∃ k : Nat, k ≤ l.length ∧ i = .int .i64 k ∧ ColsAt wr S aL l.length ∧ Keep S we wr) (fun i _ => l.length - (intOf i).toNat)
  case atStart => exact ⟨0, by omega, rfl, cols, Keep.refl _ _⟩
  case round =>
    clear cols
    obtain ⟨k, hk, rfl, cols, kS⟩ := hrel
    by_cases hlt : k < l.length
    · have hi0 : (0 : Int) ≤ (k : Int) := by omega
      have hi1 : (k : Int) < (l.length : Int) := by omega
      obtain ⟨bL, oL, rfl, hL, hr⟩ := cols (by omega)
      obtain ⟨aj, nj, cj, h1, h2, h3⟩ := hr k hlt
      have h2' : nj ≤ 140737488351232 := by have := far_len; omega
      clear hr h2
      rcases Nat.eq_zero_or_pos nj with h0 | h0
      · subst h0
        clear h3
        go_wp2_with fail
        go_roundw
        case rel => exact ⟨k + 1, by omega, by go_num, cols, kS⟩
        case measure => simp [intOf]; omega
      · obtain ⟨bj, oj, u, rfl, h4, h5, h6⟩ := h3 h0
        have h0' : (0 : Int) < (nj : Int) := by omega
        clear h3
        go_wp2_with fail
        go_roundw
        case rel => exact ⟨k + 1, by omega, by go_num, cols.set h4 _, kS.setCell (p := ⟨bj, oj, none⟩) (fun _ => h4) _⟩
        case measure => simp [intOf]; omega
    · obtain rfl : k = l.length := by omega
      replace row0 := row0.keep kS (fun h => by have := hSz _ h; omega)
      replace rowI := rowI.keep kS (fun h => by have := hSz _ h; omega)
      replace rowT := rowT.keep kS (fun h => by have := hSz _ h; omega)
      replace gc := rGCatalog_lawful.keep gc kS (fun b hb h => by have := hSz _ h; omega)
      replace gi := rGCatalog_lawful.keep gi kS (fun b hb h => by have := hSz _ h; have := hb.2; omega)
      replace fT := fGTable_lawful.keep fT kS (fun b hb h => by have := hSz _ h; have := hb.2; omega)
      replace kk := kk.then kS (fun i hi h => by have := hSz _ h; omega)
      clear kS cols hSz hlt hk
      obtain ⟨c0, c1, c2, c3, hcs, ⟨rfl, -⟩, ⟨rfl, -⟩, q2, q3⟩ := fT
      obtain ⟨aC, cC, rfl, -⟩ := rListW_open q2
      obtain ⟨aK, cK, rfl, q3⟩ := rListW_open q3
      simp only [List.flatten_cons, List.flatten_nil, List.append_nil, List.cons_append, List.nil_append] at hcs
      subst hcs
      have x3 := rowT.cell 3
      (try simp only [List.getElem?_cons_succ] at x3); (try simp only [List.getElem?_cons_zero] at x3)
      have hKf : yt.fKey.length ≤ 140737488351232 := by
        obtain ⟨_, _, _, e, -, -, -, hf, -⟩ := q3
        have := far_len; omega
      rcases Nat.eq_zero_or_pos yt.fKey.length with h0 | h0
      · have h0' : ((yt.fKey.length : Nat) : Int) ≤ 0 := by omega
        have ld0 := Whole.run (P := Try.prog) S_Catalog hlc row0
        have ldI := Whole.run (P := Try.prog) S_Catalog hli rowI
        clear h0
        go_wp2_with fail
        clear ld0 ldI
        go_fit (cmp_sCatalog_c _ c csi csc gi gc)
        rintro e wf ⟨rfl, kf⟩
        go_wp2_with fail
        go_ret
        exact ⟨rfl, kk.trans kf⟩
      · obtain ⟨bj, oj, u, rfl, h4, h5, h6⟩ := firstCell q3 h0
        have h0' : (0 : Int) < ((yt.fKey.length : Nat) : Int) := by omega
        have kS : Keep (· = bj) wr (wr.setCell ⟨bj, oj, none⟩ (.int .i64 77)) := (Keep.refl (· = bj) wr).setCell (p := ⟨bj, oj, none⟩) (fun _ => rfl) _
        have hb4 := h4.1
        replace row0 := row0.keep kS (fun h => by omega)
        replace rowI := rowI.keep kS (fun h => by omega)
        replace gc := rGCatalog_lawful.keep gc kS (fun b hb h => by omega)
        replace gi := rGCatalog_lawful.keep gi kS (fun b hb h => by have := hb.2; omega)
        replace kk := kk.then kS (fun i hi h => by omega)
        have ld0 := Whole.run (P := Try.prog) S_Catalog hlc row0
        have ldI := Whole.run (P := Try.prog) S_Catalog hli rowI
        clear h0 kS q2 q3 rowT hy4 hy0 hz0 hzI hz5 h4 hb4
        go_wp2_with fail
        clear ld0 ldI
        go_fit (cmp_sCatalog_c _ c csi csc gi gc)
        rintro e wf ⟨rfl, kf⟩
        go_wp2_with fail
        go_ret
        exact ⟨rfl, kk.trans kf⟩
end
theorem walk {m0 m1 m2 : Nat} (W : World) (v0 v1 v2 : Value) (h0 : Arg Try.prog W m0 25 v0) (h1 : Arg Try.prog W m1 9 v1) (h2 : Arg Try.prog W m2 3 v2) :
    Calls Try.prog 3 #[v0, v1, v2] W fun e w' => e = .returned (.bool true) ∧ Keep Nix W w' := by
  obtain ⟨cs, rfl, r⟩ := h0.struct Try.underlying25
  obtain ⟨s, rfl, -⟩ := h1.string Try.underlying9
  obtain ⟨d, rfl, -⟩ := h2.int Try.underlying3
  obtain ⟨x, g, -⟩ := redGCatalog r
  obtain ⟨l, rfl⟩ : ∃ l, s = strB l := ⟨s.data.toList, by cases s; simp [strB]⟩
  exact walk' W x cs l d g
end schemaTells
end Go.Proofs.Ytfogbbnfedcldaa
