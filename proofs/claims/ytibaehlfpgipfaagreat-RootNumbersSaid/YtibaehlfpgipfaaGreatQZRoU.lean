/- ROOT: the help's Plain over numbers without sign (XHelpI's, turned by program); Order, Decided, small, a look. -/
import Derived.Test.YtibaehlfpgipfaaGreatQZRoE
import Derived.Test.YtibaehlfpgipfaaGreatQZRoF
namespace Go.Proofs.YtibaehlfpgipfaaGreat
open Go.RowKit
def smallCmd (c : GCommand) : Bool := decide (c.fTable.fColumns.length < 30) && (decide (c.fTable.fKey.length < 30) && (decide (c.fIndex.fColumns.length < 30) && decide (c.fPairs.length + c.fSeens.length + c.fWrites.length < 30)))
set_option maxRecDepth 100000 in
theorem smallCmd_c {p : Nat → Prop} (c : GCommand) (ccs : List Value) (w : World) (hc : rGCommand w p ccs c) :
  Calls Tryz.prog 8 #[.agg ccs.toArray] w fun e w' => e = .returned (.bool (smallCmd c)) ∧ Keep Nix w w' := by
 obtain ⟨aKey, cKey, aSF, cSF, aST, cST, aP, cP, aSe, cSe, aWr, cWr, aTC, cTC, aTK, cTK, aIC, cIC, rfl, -, -, -, -, -, -, -, -, hP, hS, hW, hT, hI, -⟩ := rGCommand_open hc
 have b1 : c.fPairs.length ≤ far := (by obtain ⟨_, _, _, _, _, _, _, h, _⟩ := hP; exact h)
 have b2 : c.fSeens.length ≤ far := (by obtain ⟨_, _, _, _, _, _, _, h, _⟩ := hS; exact h)
 have b3 : c.fWrites.length ≤ far := (by obtain ⟨_, _, _, _, _, _, _, h, _⟩ := hW; exact h)
 unfold far at b1 b2 b3
 have kk : Keep Nix w (w.alloc (.cells #[.int .i64 c.fKind, .int .i64 c.fEpoch, .int .u64 c.fTxn, .int .i64 c.fN, .int .i64 c.fFrom, .int .i64 c.fTo, .bool c.fFlag, .slice aKey c.fKey.length cKey, .slice aSF c.fSpan.fFrom.length cSF, .slice aST c.fSpan.fTo.length cST, .slice aP c.fPairs.length cP, .slice aSe c.fSeens.length cSe, .slice aWr c.fWrites.length cWr, .int .i64 c.fTable.fID, .string (strB c.fTable.fName), .slice aTC c.fTable.fColumns.length cTC, .slice aTK c.fTable.fKey.length cTK, .int .i64 c.fIndex.fID, .int .i64 c.fIndex.fTable, .string (strB c.fIndex.fName), .slice aIC c.fIndex.fColumns.length cIC, .bool c.fIndex.fUnique, .int .i64 c.fIndex.fState, .bool c.fIndex.fBad, .string (strB c.fName)] 43)) := (Keep.refl Nix w).alloc _
 have hB : Hid (∀ b1 b2 b3 b4 : Bool, decide ((c.fTable.fColumns.length : Int) < 30) = b1 → decide ((c.fTable.fKey.length : Int) < 30) = b2 → decide ((c.fIndex.fColumns.length : Int) < 30) = b3 → decide ((c.fPairs.length : Int) + c.fSeens.length + c.fWrites.length < 30) = b4 → smallCmd c = (b1 && (b2 && (b3 && b4)))) := fun b1 b2 b3 b4 h1 h2 h3 h4 => by
  unfold smallCmd
  rw [← h1, ← h2, ← h3, ← h4]
  rw [show (decide (c.fTable.fColumns.length < 30)) = decide ((c.fTable.fColumns.length : Int) < 30) from by simp; omega, show (decide (c.fTable.fKey.length < 30)) = decide ((c.fTable.fKey.length : Int) < 30) from by simp; omega, show (decide (c.fIndex.fColumns.length < 30)) = decide ((c.fIndex.fColumns.length : Int) < 30) from by simp; omega, show decide (c.fPairs.length + c.fSeens.length + c.fWrites.length < 30) = decide ((c.fPairs.length : Int) + c.fSeens.length + c.fWrites.length < 30) from by simp; omega]
 have KK := Lib.hid kk
 have hw1 : IntKind.i64.wrap ((c.fPairs.length : Int) + c.fSeens.length) = (c.fPairs.length : Int) + c.fSeens.length := by rw [IntKind.wrap_i64]; omega
 have hw2 : IntKind.i64.wrap ((c.fPairs.length : Int) + c.fSeens.length + c.fWrites.length) = (c.fPairs.length : Int) + c.fSeens.length + c.fWrites.length := by rw [IntKind.wrap_i64]; omega
 have HH := hB.out
 by_cases h1 : (c.fTable.fColumns.length : Int) < 30
 ·by_cases h2 : (c.fTable.fKey.length : Int) < 30
  ·by_cases h3 : (c.fIndex.fColumns.length : Int) < 30
   ·by_cases h4 : (c.fPairs.length : Int) + c.fSeens.length + c.fWrites.length < 30
    ·have e := Lib.hid (HH true true true true (decide_eq_true h1) (decide_eq_true h2) (decide_eq_true h3) (decide_eq_true h4))
     clear HH hB b1 b2 b3 kk hc hP hS hW hT hI
     go_enter Tryz.func8, Tryz.ntmps8
     go_wp2_with fail
     go_ret
     exact ⟨ret_bool (by rw [e.out]; rfl), KK.out⟩
    ·have e := Lib.hid (HH true true true false (decide_eq_true h1) (decide_eq_true h2) (decide_eq_true h3) (decide_eq_false h4))
     clear HH hB b1 b2 b3 kk hc hP hS hW hT hI
     go_enter Tryz.func8, Tryz.ntmps8
     go_wp2_with fail
     go_ret
     exact ⟨ret_bool (by rw [e.out]; rfl), KK.out⟩
   ·have e := Lib.hid (HH true true false _ (decide_eq_true h1) (decide_eq_true h2) (decide_eq_false h3) rfl)
    clear HH hB b1 b2 b3 kk hc hP hS hW hT hI
    go_enter Tryz.func8, Tryz.ntmps8
    go_wp2_with fail
    go_ret
    exact ⟨ret_bool (by rw [e.out]; rfl), KK.out⟩
  ·have e := Lib.hid (HH true false _ _ (decide_eq_true h1) (decide_eq_false h2) rfl rfl)
   clear HH hB b1 b2 b3 kk hc hP hS hW hT hI
   go_enter Tryz.func8, Tryz.ntmps8
   go_wp2_with fail
   go_ret
   exact ⟨ret_bool (by rw [e.out]; rfl), KK.out⟩
 ·have e := Lib.hid (HH false _ _ _ (decide_eq_false h1) rfl rfl rfl)
  clear HH hB b1 b2 b3 kk hc hP hS hW hT hI
  go_enter Tryz.func8, Tryz.ntmps8
  go_wp2_with fail
  go_ret
  exact ⟨ret_bool (by rw [e.out]; rfl), KK.out⟩
end Go.Proofs.YtibaehlfpgipfaaGreat
namespace Go.Proofs.YtibaehlfpgipfaaGreat
open Go.RowKit
set_option linter.unusedSimpArgs false
section
attribute [local go_sem ↓] stz_Reply
set_option maxRecDepth 100000 in
set_option maxHeartbeats 4000000 in
theorem run_look (O : Nat → Prop) (g n : Nat) (R : RootS) (ccs : List Value) (w : World) (H : IsRoot w O g n R) (hk : ccs[0]? = some (.int .i64 20)) (hbg : R.begun ≤ 1000000) :
  Calls Tryz.prog 9 #[.pointer (some ⟨g, 0, none⟩), .agg ccs.toArray] w (RunPost w O g n (repL 0 R.begun (lastC R) R.routes, R)) := by
 have hinfo : (Tryz.prog.info? 55).map (·.size) = some 15 := by kernel_rfl
 have H0 := Lib.hid H.lt
 have kB : Keep Nix w (((w.alloc (.cells ccs.toArray 43))).alloc (.cells #[.int .i64 0, .int .u64 0, .int .i64 0, .bool false, .slice none 0 0, .slice none 0 0, .int .i64 0, .int .i64 0, .slice none 0 0, .slice none 0 0, .int .i64 0, .int .i64 0, .slice none 0 0, .int .i64 0, .slice none 0 0] 55)) := ((Keep.refl Nix w).alloc _).alloc _
 have row0 : RowIs (((w.alloc (.cells ccs.toArray 43))).alloc (.cells #[.int .i64 0, .int .u64 0, .int .i64 0, .bool false, .slice none 0 0, .slice none 0 0, .int .i64 0, .int .i64 0, .slice none 0 0, .slice none 0 0, .int .i64 0, .int .i64 0, .slice none 0 0, .int .i64 0, .slice none 0 0] 55)) w.heap.size 43 ccs := by have := (RowIs.alloc w ccs.toArray 43).keep ((Keep.refl Nix _).alloc (.cells #[.int .i64 0, .int .u64 0, .int .i64 0, .bool false, .slice none 0 0, .slice none 0 0, .int .i64 0, .int .i64 0, .slice none 0 0, .slice none 0 0, .int .i64 0, .int .i64 0, .slice none 0 0, .int .i64 0, .slice none 0 0] 55)) id; simpa using this
 have rowZ : RowIs (((w.alloc (.cells ccs.toArray 43))).alloc (.cells #[.int .i64 0, .int .u64 0, .int .i64 0, .bool false, .slice none 0 0, .slice none 0 0, .int .i64 0, .int .i64 0, .slice none 0 0, .slice none 0 0, .int .i64 0, .int .i64 0, .slice none 0 0, .int .i64 0, .slice none 0 0] 55)) (w.heap.size + 1) 55 [.int .i64 0, .int .u64 0, .int .i64 0, .bool false, .slice none 0 0, .slice none 0 0, .int .i64 0, .int .i64 0, .slice none 0 0, .slice none 0 0, .int .i64 0, .int .i64 0, .slice none 0 0, .int .i64 0, .slice none 0 0] := RowIs.alloc_at (w.alloc (.cells ccs.toArray 43)) _ (by simp) _ _
 have x0 : ((((w.alloc (.cells ccs.toArray 43))).alloc (.cells #[.int .i64 0, .int .u64 0, .int .i64 0, .bool false, .slice none 0 0, .slice none 0 0, .int .i64 0, .int .i64 0, .slice none 0 0, .slice none 0 0, .int .i64 0, .int .i64 0, .slice none 0 0, .int .i64 0, .slice none 0 0] 55))).cell? ⟨w.heap.size, 0, none⟩ = some (.int .i64 20) := (row0.cell 0).trans hk
 obtain ⟨lt, og, ok, bM, aC, cC, aO, cO, aS, cS, aU, cU, cssC, D, B⟩ := H.nix kB
 have hg := H0.out g og
 have x7 : ((((w.alloc (.cells ccs.toArray 43))).alloc (.cells #[.int .i64 0, .int .u64 0, .int .i64 0, .bool false, .slice none 0 0, .slice none 0 0, .int .i64 0, .int .i64 0, .slice none 0 0, .slice none 0 0, .int .i64 0, .int .i64 0, .slice none 0 0, .int .i64 0, .slice none 0 0] 55))).cell? ⟨g, 7, none⟩ = some (.int .u64 R.begun) := by simpa using B.row.cell 7
 have hb0 := ok.u64.1
 have hw : IntKind.i64.wrap R.begun = R.begun := by rw [IntKind.wrap_i64]; omega
 have hsz : Hid (((((w.alloc (.cells ccs.toArray 43))).alloc (.cells #[.int .i64 0, .int .u64 0, .int .i64 0, .bool false, .slice none 0 0, .slice none 0 0, .int .i64 0, .int .i64 0, .slice none 0 0, .slice none 0 0, .int .i64 0, .int .i64 0, .slice none 0 0, .int .i64 0, .slice none 0 0] 55))).heap.size = w.heap.size + 1 + 1) := by show _ = _; simp
 have HZ := Lib.hid rowZ
 have K3 : Hid (Keep (· = g) w (((w.alloc (.cells ccs.toArray 43))).alloc (.cells #[.int .i64 0, .int .u64 0, .int .i64 0, .bool false, .slice none 0 0, .slice none 0 0, .int .i64 0, .int .i64 0, .slice none 0 0, .slice none 0 0, .int .i64 0, .int .i64 0, .slice none 0 0, .int .i64 0, .slice none 0 0] 55))) := kB.nix (S := (· = g))
 have hs3 : Hid (w.heap.size + 1 + 1 ≤ ((((w.alloc (.cells ccs.toArray 43))).alloc (.cells #[.int .i64 0, .int .u64 0, .int .i64 0, .bool false, .slice none 0 0, .slice none 0 0, .int .i64 0, .int .i64 0, .slice none 0 0, .slice none 0 0, .int .i64 0, .int .i64 0, .slice none 0 0, .int .i64 0, .slice none 0 0] 55))).heap.size) := by show _ ≤ _; rw [hsz.out]; exact Nat.le_refl _
 have HX := Lib.hid B.row
 have HH := Lib.hid (H.nix kB)
 have K0 := Lib.hid hk
 have hbu := ok.u64
 clear B rowZ row0 kB hk
 go_enter Tryz.func9, Tryz.ntmps9
 go_upto_region 21 with fail
 clear x0 x7
 generalize (((w.alloc (.cells ccs.toArray 43))).alloc (.cells #[.int .i64 0, .int .u64 0, .int .i64 0, .bool false, .slice none 0 0, .slice none 0 0, .int .i64 0, .int .i64 0, .slice none 0 0, .slice none 0 0, .int .i64 0, .int .i64 0, .slice none 0 0, .int .i64 0, .slice none 0 0] 55)) = w3 at *
 have kd : Keep Nix w3 w3.drew := (Keep.refl Nix _).drew
 have HSS : Hid (∀ w', Keep Nix w3 w' → w'.cell? ⟨g, 7, none⟩ = some (.int .u64 R.begun)) := fun w' k => by
  have r1 := HX.out.keep k id
  simpa using r1.cell 7
 refine wp_region_held_drew (S := (fun w' => w'.cell? ⟨g, 7, none⟩ = some (.int .u64 R.begun))) (by kernel_rfl) (HSS.out _ kd) (fun hHeld => ?_)
 have HSS := Lib.hid (fun w' (k : Keep Nix (w3).drew w') => HSS.out w' (kd.trans k))
 have HZ := Lib.hid (HZ.out.keep kd id)
 have HH := Lib.hid (HH.out.nix kd)
 have K3 := Lib.hid (K3.out.then kd (fun _ _ h => h.elim))
 have hs3 : Hid (w.heap.size + 1 + 1 ≤ w3.drew.heap.size) := Nat.le_trans hs3.out kd.size
 clear kd HX
 generalize w3.drew = w4 at *
 refine tk 0 (v := ?_) rfl ?_ hHeld ?_
 rotate_left
 ·intro w' hSw
  (try dsimp only at hSw)
  try simp only [zz1, zz2, zz3]
  go_simp
  try with_reducible rfl
 try simp only [Act.put, zz1, zz2, zz3, zz4, zz5, zz6]
 refine tk 1 (v := ?_) rfl ?_ hHeld ?_
 rotate_left
 ·intro w' hSw
  (try dsimp only at hSw)
  try simp only [zz1, zz2, zz3]
  go_simp
  try with_reducible rfl
 try simp only [Act.put, zz1, zz2, zz3, zz4, zz5, zz6]
 refine tk 2 (v := ?_) rfl ?_ hHeld ?_
 rotate_left
 ·intro w' hSw
  (try dsimp only at hSw)
  try simp only [zz1, zz2, zz3]
  go_simp
  try with_reducible rfl
 try simp only [Act.put, zz1, zz2, zz3, zz4, zz5, zz6]
 refine tk 3 (v := ?_) rfl ?_ hHeld ?_
 rotate_left
 ·intro w' hSw
  (try dsimp only at hSw)
  try simp only [zz1, zz2, zz3]
  go_simp
  try with_reducible rfl
 try simp only [Act.put, zz1, zz2, zz3, zz4, zz5, zz6]
 refine tk 4 (v := ?_) rfl ?_ hHeld ?_
 rotate_left
 ·intro w' hSw
  (try dsimp only at hSw)
  try simp only [zz1, zz2, zz3]
  go_simp
  try with_reducible rfl
 try simp only [Act.put, zz1, zz2, zz3, zz4, zz5, zz6]
 refine tk 5 (v := ?_) rfl ?_ hHeld ?_
 rotate_left
 ·intro w' hSw
  (try dsimp only at hSw)
  try simp only [zz1, zz2, zz3]
  go_simp
  try with_reducible rfl
 try simp only [Act.put, zz1, zz2, zz3, zz4, zz5, zz6]
 refine tk 7 (v := ?_) rfl ?_ hHeld ?_
 rotate_left
 ·intro w' hSw
  (try dsimp only at hSw)
  try simp only [zz1, zz2, zz3]
  go_simp
  try with_reducible rfl
 try simp only [Act.put, zz1, zz2, zz3, zz4, zz5, zz6]
 have HC := Lib.hid (catalog_c O g n R w4 HH.out)
 refine wpAnyH_ready (rs := [6]) (by kernel_rfl) (by simp) ?_
 refine AllReadyH.cons rfl (fun K hK => ?_) AllReadyH.nil
 try simp only [zz1, zz2, zz3]
 go_simp
 go_fit HC.out
 rintro e w5 ⟨cn, rfl, rn, k5⟩
 clear HC
 go_wp2_with fail
 refine hK.out _ _ ((HSS.out _ k5)) (fun hHeld => ?_)
 clear hK K
 try simp only [Act.put, zz1, zz2, zz3, zz4, zz5, zz6]
 skip
 have HN := Lib.hid rn
 obtain ⟨aT, cT, aI, cI, rfl, -⟩ := rGCatalog_open rn
 have HC := Lib.hid (routes_c O g n R w5 (HH.out.nix k5))
 clear rn
 refine wpAnyH_ready (rs := [8]) (by kernel_rfl) (by simp) ?_
 refine AllReadyH.cons rfl (fun K hK => ?_) AllReadyH.nil
 try simp only [zz1, zz2, zz3]
 go_simp
 go_fit HC.out
 rintro e w6 ⟨cr, rfl, rr, k6⟩
 clear HC
 go_wp2_with fail
 refine hK.out _ _ ((HSS.out _ (k5.trans k6))) (fun hHeld => ?_)
 clear hK K
 try simp only [Act.put, zz1, zz2, zz3, zz4, zz5, zz6]
 skip
 have HR := Lib.hid rr
 obtain ⟨aP, cP, aV, cV, rfl, -⟩ := rGRoutes_open rr
 clear rr
 refine tk 9 (v := ?_) rfl ?_ hHeld ?_
 rotate_left
 ·intro w' hSw
  (try dsimp only at hSw)
  try simp only [zz1, zz2, zz3]
  go_simp
  try with_reducible rfl
 try simp only [Act.put, zz1, zz2, zz3, zz4, zz5, zz6]
 have rowZ := (HZ.out.keep k5 id).keep k6 id
 have hst := store_run (P := Tryz.prog) (cs := [.int .i64 0, .int .u64 0, .int .i64 R.begun, .bool false, .slice none 0 0, .slice none 0 0, .int .i64 (lastC R).fVersion, .int .i64 (lastC R).fNext, .slice aT (lastC R).fTables.length cT, .slice aI (lastC R).fIndexes.length cI, .int .i64 R.routes.fEpoch, .int .i64 R.routes.fBase, .slice aP R.routes.fSpans.length cP, .int .i64 R.routes.fMoving, .slice aV R.routes.fCut.length cV]) S_Reply rowZ rfl rfl rfl
 have kS : Keep (· = w.heap.size + 1) w6 (w6.setRow (w.heap.size + 1) #[.int .i64 0, .int .u64 0, .int .i64 R.begun, .bool false, .slice none 0 0, .slice none 0 0, .int .i64 (lastC R).fVersion, .int .i64 (lastC R).fNext, .slice aT (lastC R).fTables.length cT, .slice aI (lastC R).fIndexes.length cI, .int .i64 R.routes.fEpoch, .int .i64 R.routes.fBase, .slice aP R.routes.fSpans.length cP, .int .i64 R.routes.fMoving, .slice aV R.routes.fCut.length cV]) := (Keep.refl (· = w.heap.size + 1) w6).setRow (fun _ => rfl) _
 have HZR := Lib.hid (rowZ.setRow [.int .i64 0, .int .u64 0, .int .i64 R.begun, .bool false, .slice none 0 0, .slice none 0 0, .int .i64 (lastC R).fVersion, .int .i64 (lastC R).fNext, .slice aT (lastC R).fTables.length cT, .slice aI (lastC R).fIndexes.length cI, .int .i64 R.routes.fEpoch, .int .i64 R.routes.fBase, .slice aP R.routes.fSpans.length cP, .int .i64 R.routes.fMoving, .slice aV R.routes.fCut.length cV])
 have HKS := Lib.hid kS
 clear kS rowZ
 refine wpAnyH_ready (rs := [10]) (by kernel_rfl) (by simp) ?_
 refine AllReadyH.cons rfl (fun K hK => ?_) AllReadyH.nil
 try simp only [zz1, zz2, zz3]
 go_simp
 have h1 := hs3.out
 have h2 := k5.size
 have h3 := k6.size
 refine hK.out _ _ (((HKS.out.cell (by show g < _; omega) (by show ¬ g = _; omega)).trans (HSS.out _ (k5.trans k6)))) (fun hHeld => ?_)
 clear hK K
 try simp only [Act.put, zz1, zz2, zz3, zz4, zz5, zz6]
 refine wpAnyH_done (by kernel_rfl) ?_ _
 clear hHeld hst
 go_wp2_with fail
 refine bodyPost_ret (results_cell_row (by rfl) _ _ _ _ _ _ _ (by rfl) HZR.out Tryz.underlying55 (by rfl) hinfo) rfl ?_
 have h1 := hs3.out
 have h2 := k5.size
 have h3 := k6.size
 have h4 := HKS.out.size
 have rn := rGCatalog_lawful.keep (rGCatalog_lawful.nix HN.out k6) HKS.out (fun b hb e => by have := hb.1; omega)
 have rr := rGRoutes_lawful.keep HR.out HKS.out (fun b hb e => by have := hb.1; omega)
 have hu : isU64 0 := ⟨by decide, by decide⟩
 have ib : isI64 R.begun := ⟨by omega, by omega⟩
 have i0 : isI64 0 := ⟨by decide, by decide⟩
 refine ⟨[.int .i64 0, .int .u64 0, .int .i64 R.begun, .bool false, .slice none 0 0, .slice none 0 0, .int .i64 (lastC R).fVersion, .int .i64 (lastC R).fNext, .slice aT (lastC R).fTables.length cT, .slice aI (lastC R).fIndexes.length cI, .int .i64 R.routes.fEpoch, .int .i64 R.routes.fBase, .slice aP R.routes.fSpans.length cP, .int .i64 R.routes.fMoving, .slice aV R.routes.fCut.length cV], O, fun b => w4.heap.size ≤ b ∧ b < (w6.setRow (w.heap.size + 1) #[.int .i64 0, .int .u64 0, .int .i64 R.begun, .bool false, .slice none 0 0, .slice none 0 0, .int .i64 (lastC R).fVersion, .int .i64 (lastC R).fNext, .slice aT (lastC R).fTables.length cT, .slice aI (lastC R).fIndexes.length cI, .int .i64 R.routes.fEpoch, .int .i64 R.routes.fBase, .slice aP R.routes.fSpans.length cP, .int .i64 R.routes.fMoving, .slice aV R.routes.fCut.length cV]).heap.size, rfl, rGReply_mk _ _ (x := repL 0 R.begun (lastC R) R.routes) i0 hu ib (nil_R _ _) (nil_R _ _) (rGCatalog_lawful.mono rn (fun b hb => ⟨hb.1, by have := hb.2; omega⟩)) (rGRoutes_lawful.mono rr (fun b hb => ⟨by have := hb.1; omega, by have := hb.2; omega⟩)), fun b hb => ⟨by have := hb.1; omega, hb.2, fun ho => by have := H0.out b ho; have := hb.1; omega⟩, ((HH.out.nix (k5.trans k6)).keep HKS.out (fun b hb e => by have := H0.out b hb; omega)).more (Nat.le_succ n), fun b h => .inl h, fun b h => h, ?_⟩
 exact ((K3.out.mono (fun b hb => by rw [hb]; exact og)).then (k5.trans k6) (fun _ _ h => h.elim)).then HKS.out (fun i hi e => by omega)
end
end Go.Proofs.YtibaehlfpgipfaaGreat
