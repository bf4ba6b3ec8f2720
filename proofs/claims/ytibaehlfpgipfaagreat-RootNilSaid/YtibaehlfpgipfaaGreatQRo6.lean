/- ROOT: Run: a transaction begins; a look. Printed by mac.py. -/
import Derived.Test.YtibaehlfpgipfaaGreatQRo5
namespace Go.Proofs.YtibaehlfpgipfaaGreat
open Go.RowKit

def bump (R : RootS) : RootS := ⟨R.spare, R.cats, R.routes, R.begun + 1, R.dec, R.order⟩
def repL (t n : Int) (c : GCatalog) (r : GRoutes) : GReply := ⟨0, t, n, false, [], [], c, r⟩
section
attribute [local go_sem ↓] stz_Reply
set_option maxRecDepth 100000 in
set_option maxHeartbeats 4000000 in
theorem run_begin (O : Nat → Prop) (g n : Nat) (R : RootS) (ccs : List Value) (w : World) (H : IsRoot w O g n R) (hk : ccs[0]? = some (.int .i64 11)) (hbg : R.begun ≤ 1000000) :
    Calls Tryz.prog 9 #[.pointer (some ⟨g, 0, none⟩), .agg ccs.toArray] w (RunPost w O g n (repL (R.begun + 1) 0 (lastC R) R.routes, bump R)) := by
  have hinfo : (Tryz.prog.info? 55).map (·.size) = some 15 := by kernel_rfl
  have H0 := Lib.hid H.lt
  have kB : Keep Nix w (((w.alloc (.cells ccs.toArray 43))).alloc (.cells #[.int .i64 0, .int .u64 0, .int .i64 0, .bool false, .slice none 0 0, .slice none 0 0, .int .i64 0, .int .i64 0, .slice none 0 0, .slice none 0 0, .int .i64 0, .int .i64 0, .slice none 0 0, .int .i64 0, .slice none 0 0] 55)) := ((Keep.refl Nix w).alloc _).alloc _
  have row0 : RowIs (((w.alloc (.cells ccs.toArray 43))).alloc (.cells #[.int .i64 0, .int .u64 0, .int .i64 0, .bool false, .slice none 0 0, .slice none 0 0, .int .i64 0, .int .i64 0, .slice none 0 0, .slice none 0 0, .int .i64 0, .int .i64 0, .slice none 0 0, .int .i64 0, .slice none 0 0] 55)) w.heap.size 43 ccs := by have := (RowIs.alloc w ccs.toArray 43).keep ((Keep.refl Nix _).alloc (.cells #[.int .i64 0, .int .u64 0, .int .i64 0, .bool false, .slice none 0 0, .slice none 0 0, .int .i64 0, .int .i64 0, .slice none 0 0, .slice none 0 0, .int .i64 0, .int .i64 0, .slice none 0 0, .int .i64 0, .slice none 0 0] 55)) id; simpa using this
  have rowZ : RowIs (((w.alloc (.cells ccs.toArray 43))).alloc (.cells #[.int .i64 0, .int .u64 0, .int .i64 0, .bool false, .slice none 0 0, .slice none 0 0, .int .i64 0, .int .i64 0, .slice none 0 0, .slice none 0 0, .int .i64 0, .int .i64 0, .slice none 0 0, .int .i64 0, .slice none 0 0] 55)) (w.heap.size + 1) 55 [.int .i64 0, .int .u64 0, .int .i64 0, .bool false, .slice none 0 0, .slice none 0 0, .int .i64 0, .int .i64 0, .slice none 0 0, .slice none 0 0, .int .i64 0, .int .i64 0, .slice none 0 0, .int .i64 0, .slice none 0 0] := RowIs.alloc_at (w.alloc (.cells ccs.toArray 43)) _ (by simp) _ _
  have x0 : ((((w.alloc (.cells ccs.toArray 43))).alloc (.cells #[.int .i64 0, .int .u64 0, .int .i64 0, .bool false, .slice none 0 0, .slice none 0 0, .int .i64 0, .int .i64 0, .slice none 0 0, .slice none 0 0, .int .i64 0, .int .i64 0, .slice none 0 0, .int .i64 0, .slice none 0 0] 55))).cell? ⟨w.heap.size, 0, none⟩ = some (.int .i64 11) := (row0.cell 0).trans hk
  obtain ⟨lt, og, ok, bM, aC, cC, aO, cO, aS, cS, aU, cU, cssC, D, B⟩ := H.nix kB
  have hg := H0.out g og
  have x7 : ((((w.alloc (.cells ccs.toArray 43))).alloc (.cells #[.int .i64 0, .int .u64 0, .int .i64 0, .bool false, .slice none 0 0, .slice none 0 0, .int .i64 0, .int .i64 0, .slice none 0 0, .slice none 0 0, .int .i64 0, .int .i64 0, .slice none 0 0, .int .i64 0, .slice none 0 0] 55))).cell? ⟨g, 7, none⟩ = some (.int .u64 R.begun) := by simpa using B.row.cell 7
  have f7 := B.row.frozen 7
  have hb0 := ok.u64.1
  have hw : IntKind.u64.wrap (R.begun + 1) = R.begun + 1 := by rw [IntKind.wrap_u64]; omega
  have kG : Keep (· = g) (((w.alloc (.cells ccs.toArray 43))).alloc (.cells #[.int .i64 0, .int .u64 0, .int .i64 0, .bool false, .slice none 0 0, .slice none 0 0, .int .i64 0, .int .i64 0, .slice none 0 0, .slice none 0 0, .int .i64 0, .int .i64 0, .slice none 0 0, .int .i64 0, .slice none 0 0] 55)) (((((w.alloc (.cells ccs.toArray 43))).alloc (.cells #[.int .i64 0, .int .u64 0, .int .i64 0, .bool false, .slice none 0 0, .slice none 0 0, .int .i64 0, .int .i64 0, .slice none 0 0, .slice none 0 0, .int .i64 0, .int .i64 0, .slice none 0 0, .int .i64 0, .slice none 0 0] 55))).setCell ⟨g, 7, none⟩ (.int .u64 (R.begun + 1))) := (Keep.refl (· = g) _).setCell (p := ⟨g, 7, none⟩) (fun _ => rfl) _
  have hsz : Hid (((((w.alloc (.cells ccs.toArray 43))).alloc (.cells #[.int .i64 0, .int .u64 0, .int .i64 0, .bool false, .slice none 0 0, .slice none 0 0, .int .i64 0, .int .i64 0, .slice none 0 0, .slice none 0 0, .int .i64 0, .int .i64 0, .slice none 0 0, .int .i64 0, .slice none 0 0] 55))).heap.size = w.heap.size + 1 + 1) := by show _ = _; simp
  have rowG := B.row.set 7 (.int .u64 (R.begun + 1))
  (try simp only [List.set_cons_succ] at rowG); (try simp only [List.set_cons_zero] at rowG)
  have B3 := RootAt.turn (O' := O) (order' := R.order) B og (fun _ h => h) (kG.mono (fun b hb => .inl hb)) rowG (owned_keep B.rowO kG (fun b hb e => (B.oO b hb).2.1 e)) (fun b hb => .inl hb) (B.dec.keep kG B.ne)
  have H3 : IsRoot (((((w.alloc (.cells ccs.toArray 43))).alloc (.cells #[.int .i64 0, .int .u64 0, .int .i64 0, .bool false, .slice none 0 0, .slice none 0 0, .int .i64 0, .int .i64 0, .slice none 0 0, .slice none 0 0, .int .i64 0, .int .i64 0, .slice none 0 0, .int .i64 0, .slice none 0 0] 55))).setCell ⟨g, 7, none⟩ (.int .u64 (R.begun + 1))) O g n (bump R) := ⟨fun b hb => Nat.lt_of_lt_of_le (Nat.lt_of_lt_of_le (H0.out b hb) kB.size) kG.size, og, ⟨ok.ex, ok.len, ok.small, ok.ver, ok.spans, ⟨by show (0 : Int) ≤ R.begun + 1; omega, by show R.begun + 1 ≤ _; omega⟩, ok.place⟩, bM, aC, cC, aO, cO, aS, cS, aU, cU, cssC, D, B3⟩
  have HZ := Lib.hid (rowZ.keep kG (fun e => by omega))
  have k3 : Keep (· = g) w (((((w.alloc (.cells ccs.toArray 43))).alloc (.cells #[.int .i64 0, .int .u64 0, .int .i64 0, .bool false, .slice none 0 0, .slice none 0 0, .int .i64 0, .int .i64 0, .slice none 0 0, .slice none 0 0, .int .i64 0, .int .i64 0, .slice none 0 0, .int .i64 0, .slice none 0 0] 55))).setCell ⟨g, 7, none⟩ (.int .u64 (R.begun + 1))) := (kB.nix (S := (· = g))).trans kG
  have hs3 : Hid (w.heap.size + 1 + 1 ≤ (((((w.alloc (.cells ccs.toArray 43))).alloc (.cells #[.int .i64 0, .int .u64 0, .int .i64 0, .bool false, .slice none 0 0, .slice none 0 0, .int .i64 0, .int .i64 0, .slice none 0 0, .slice none 0 0, .int .i64 0, .int .i64 0, .slice none 0 0, .int .i64 0, .slice none 0 0] 55))).setCell ⟨g, 7, none⟩ (.int .u64 (R.begun + 1))).heap.size) := by show _ ≤ _; have := kG.size; rw [hsz.out] at this; exact this
  have hpast : Hid ((((((w.alloc (.cells ccs.toArray 43))).alloc (.cells #[.int .i64 0, .int .u64 0, .int .i64 0, .bool false, .slice none 0 0, .slice none 0 0, .int .i64 0, .int .i64 0, .slice none 0 0, .slice none 0 0, .int .i64 0, .int .i64 0, .slice none 0 0, .int .i64 0, .slice none 0 0] 55))).setCell ⟨g, 7, none⟩ (.int .u64 (R.begun + 1))) = (((w.setCell ⟨g, 7, none⟩ (.int .u64 (R.begun + 1))).alloc (.cells ccs.toArray 43)).alloc (.cells #[.int .i64 0, .int .u64 0, .int .i64 0, .bool false, .slice none 0 0, .slice none 0 0, .int .i64 0, .int .i64 0, .slice none 0 0, .slice none 0 0, .int .i64 0, .int .i64 0, .slice none 0 0, .int .i64 0, .slice none 0 0] 55))) := by
    show _ = _
    rw [World.setCell_alloc_past _ _ _ _ (by simp; omega), World.setCell_alloc_past _ _ _ _ (by omega)]
  have HX := Lib.hid rowG
  have HH := Lib.hid H3
  have K3 := Lib.hid k3
  have K0 := Lib.hid hk
  clear B rowG B3 H3 rowZ row0 kG k3 kB hk
  go_enter Tryz.func9, Tryz.ntmps9
  go_upto_region 6 with fail
  clear x0 x7 f7 hw
  rw [← hpast.out]
  generalize (((((w.alloc (.cells ccs.toArray 43))).alloc (.cells #[.int .i64 0, .int .u64 0, .int .i64 0, .bool false, .slice none 0 0, .slice none 0 0, .int .i64 0, .int .i64 0, .slice none 0 0, .slice none 0 0, .int .i64 0, .int .i64 0, .slice none 0 0, .int .i64 0, .slice none 0 0] 55))).setCell ⟨g, 7, none⟩ (.int .u64 (R.begun + 1))) = w3 at *
  have kd : Keep Nix w3 w3.drew := (Keep.refl Nix _).drew
  have HSS : Hid (∀ w', Keep Nix w3 w' → w'.cell? ⟨g, 7, none⟩ = some (.int .u64 (R.begun + 1))) := fun w' k => by
    have r1 := HX.out.keep k id
    simpa using r1.cell 7
  refine wp_region_held_drew (S := (fun w' => w'.cell? ⟨g, 7, none⟩ = some (.int .u64 (R.begun + 1)))) (by kernel_rfl) (HSS.out _ kd) (fun hHeld => ?_)
  have HSS := Lib.hid (fun w' (k : Keep Nix (w3).drew w') => HSS.out w' (kd.trans k))
  have HZ := Lib.hid (HZ.out.keep kd id)
  have HH := Lib.hid (HH.out.nix kd)
  have K3 := Lib.hid (K3.out.then kd (fun _ _ h => h.elim))
  have hs3 : Hid (w.heap.size + 1 + 1 ≤ w3.drew.heap.size) := Nat.le_trans hs3.out kd.size
  clear kd HX
  generalize w3.drew = w4 at *
  refine wpAnyH_take (i := 0) (v := ?_) rfl (by kernel_rfl) (by kernel_rfl) (by kernel_rfl) (fun _ _ _ h => h) (Or.inl ⟨by kernel_rfl, ?_⟩) hHeld ?_
  rotate_left
  · intro w' hSw
    (try dsimp only at hSw)
    (try simp only [List.getElem_toArray]); (try simp only [List.getElem_cons_succ]); (try simp only [List.getElem_cons_zero])
    go_simp
    try with_reducible rfl
  (try simp only [Act.put]); (try simp only [List.getElem_toArray]); (try simp only [List.getElem_cons_succ]); (try simp only [List.getElem_cons_zero]); (try simp only [List.setIfInBounds_toArray]); (try simp only [List.set_cons_succ]); (try simp only [List.set_cons_zero])
  refine wpAnyH_take (i := 1) (v := ?_) rfl (by kernel_rfl) (by kernel_rfl) (by kernel_rfl) (fun _ _ _ h => h) (Or.inl ⟨by kernel_rfl, ?_⟩) hHeld ?_
  rotate_left
  · intro w' hSw
    (try dsimp only at hSw)
    (try simp only [List.getElem_toArray]); (try simp only [List.getElem_cons_succ]); (try simp only [List.getElem_cons_zero])
    go_simp
    try with_reducible rfl
  (try simp only [Act.put]); (try simp only [List.getElem_toArray]); (try simp only [List.getElem_cons_succ]); (try simp only [List.getElem_cons_zero]); (try simp only [List.setIfInBounds_toArray]); (try simp only [List.set_cons_succ]); (try simp only [List.set_cons_zero])
  refine wpAnyH_take (i := 2) (v := ?_) rfl (by kernel_rfl) (by kernel_rfl) (by kernel_rfl) (fun _ _ _ h => h) (Or.inl ⟨by kernel_rfl, ?_⟩) hHeld ?_
  rotate_left
  · intro w' hSw
    (try dsimp only at hSw)
    (try simp only [List.getElem_toArray]); (try simp only [List.getElem_cons_succ]); (try simp only [List.getElem_cons_zero])
    go_simp
    try with_reducible rfl
  (try simp only [Act.put]); (try simp only [List.getElem_toArray]); (try simp only [List.getElem_cons_succ]); (try simp only [List.getElem_cons_zero]); (try simp only [List.setIfInBounds_toArray]); (try simp only [List.set_cons_succ]); (try simp only [List.set_cons_zero])
  refine wpAnyH_take (i := 3) (v := ?_) rfl (by kernel_rfl) (by kernel_rfl) (by kernel_rfl) (fun _ _ _ h => h) (Or.inl ⟨by kernel_rfl, ?_⟩) hHeld ?_
  rotate_left
  · intro w' hSw
    (try dsimp only at hSw)
    (try simp only [List.getElem_toArray]); (try simp only [List.getElem_cons_succ]); (try simp only [List.getElem_cons_zero])
    go_simp
    try with_reducible rfl
  (try simp only [Act.put]); (try simp only [List.getElem_toArray]); (try simp only [List.getElem_cons_succ]); (try simp only [List.getElem_cons_zero]); (try simp only [List.setIfInBounds_toArray]); (try simp only [List.set_cons_succ]); (try simp only [List.set_cons_zero])
  refine wpAnyH_take (i := 4) (v := ?_) rfl (by kernel_rfl) (by kernel_rfl) (by kernel_rfl) (fun _ _ _ h => h) (Or.inl ⟨by kernel_rfl, ?_⟩) hHeld ?_
  rotate_left
  · intro w' hSw
    (try dsimp only at hSw)
    (try simp only [List.getElem_toArray]); (try simp only [List.getElem_cons_succ]); (try simp only [List.getElem_cons_zero])
    go_simp
    try with_reducible rfl
  (try simp only [Act.put]); (try simp only [List.getElem_toArray]); (try simp only [List.getElem_cons_succ]); (try simp only [List.getElem_cons_zero]); (try simp only [List.setIfInBounds_toArray]); (try simp only [List.set_cons_succ]); (try simp only [List.set_cons_zero])
  refine wpAnyH_take (i := 6) (v := ?_) rfl (by kernel_rfl) (by kernel_rfl) (by kernel_rfl) (fun _ _ _ h => h) (Or.inl ⟨by kernel_rfl, ?_⟩) hHeld ?_
  rotate_left
  · intro w' hSw
    (try dsimp only at hSw)
    (try simp only [List.getElem_toArray]); (try simp only [List.getElem_cons_succ]); (try simp only [List.getElem_cons_zero])
    go_simp
    try with_reducible rfl
  (try simp only [Act.put]); (try simp only [List.getElem_toArray]); (try simp only [List.getElem_cons_succ]); (try simp only [List.getElem_cons_zero]); (try simp only [List.setIfInBounds_toArray]); (try simp only [List.set_cons_succ]); (try simp only [List.set_cons_zero])
  have HC := Lib.hid (catalog_c O g n (bump R) w4 HH.out)
  refine wpAnyH_ready (rs := [5]) (by kernel_rfl) (by simp) ?_
  refine AllReadyH.cons rfl (fun K hK => ?_) AllReadyH.nil
  (try simp only [List.getElem_toArray]); (try simp only [List.getElem_cons_succ]); (try simp only [List.getElem_cons_zero])
  go_simp
  go_fit HC.out
  rintro e w5 ⟨cn, rfl, rn, k5⟩
  clear HC
  go_wp2_with fail
  refine hK.out _ _ ((HSS.out _ k5)) (fun hHeld => ?_)
  clear hK K
  (try simp only [Act.put]); (try simp only [List.getElem_toArray]); (try simp only [List.getElem_cons_succ]); (try simp only [List.getElem_cons_zero]); (try simp only [List.setIfInBounds_toArray]); (try simp only [List.set_cons_succ]); (try simp only [List.set_cons_zero])
  replace rn : rGCatalog w5 _ cn (lastC R) := rn
  have HN := Lib.hid rn
  obtain ⟨aT, cT, aI, cI, rfl, -⟩ := rGCatalog_open rn
  have HC := Lib.hid (routes_c O g n (bump R) w5 (HH.out.nix k5))
  clear rn
  refine wpAnyH_ready (rs := [7]) (by kernel_rfl) (by simp) ?_
  refine AllReadyH.cons rfl (fun K hK => ?_) AllReadyH.nil
  (try simp only [List.getElem_toArray]); (try simp only [List.getElem_cons_succ]); (try simp only [List.getElem_cons_zero])
  go_simp
  go_fit HC.out
  rintro e w6 ⟨cr, rfl, rr, k6⟩
  clear HC
  go_wp2_with fail
  refine hK.out _ _ ((HSS.out _ (k5.trans k6))) (fun hHeld => ?_)
  clear hK K
  (try simp only [Act.put]); (try simp only [List.getElem_toArray]); (try simp only [List.getElem_cons_succ]); (try simp only [List.getElem_cons_zero]); (try simp only [List.setIfInBounds_toArray]); (try simp only [List.set_cons_succ]); (try simp only [List.set_cons_zero])
  replace rr : rGRoutes w6 _ cr R.routes := rr
  have HR := Lib.hid rr
  obtain ⟨aP, cP, aV, cV, rfl, -⟩ := rGRoutes_open rr
  clear rr
  refine wpAnyH_take (i := 8) (v := ?_) rfl (by kernel_rfl) (by kernel_rfl) (by kernel_rfl) (fun _ _ _ h => h) (Or.inl ⟨by kernel_rfl, ?_⟩) hHeld ?_
  rotate_left
  · intro w' hSw
    (try dsimp only at hSw)
    (try simp only [List.getElem_toArray]); (try simp only [List.getElem_cons_succ]); (try simp only [List.getElem_cons_zero])
    go_simp
    try with_reducible rfl
  (try simp only [Act.put]); (try simp only [List.getElem_toArray]); (try simp only [List.getElem_cons_succ]); (try simp only [List.getElem_cons_zero]); (try simp only [List.setIfInBounds_toArray]); (try simp only [List.set_cons_succ]); (try simp only [List.set_cons_zero])
  have rowZ := (HZ.out.keep k5 id).keep k6 id
  have hst := store_run (P := Tryz.prog) (cs := [.int .i64 0, .int .u64 (R.begun + 1), .int .i64 0, .bool false, .slice none 0 0, .slice none 0 0, .int .i64 (lastC R).fVersion, .int .i64 (lastC R).fNext, .slice aT (lastC R).fTables.length cT, .slice aI (lastC R).fIndexes.length cI, .int .i64 R.routes.fEpoch, .int .i64 R.routes.fBase, .slice aP R.routes.fSpans.length cP, .int .i64 R.routes.fMoving, .slice aV R.routes.fCut.length cV]) S_Reply rowZ rfl rfl rfl
  have kS : Keep (· = w.heap.size + 1) w6 (w6.setRow (w.heap.size + 1) #[.int .i64 0, .int .u64 (R.begun + 1), .int .i64 0, .bool false, .slice none 0 0, .slice none 0 0, .int .i64 (lastC R).fVersion, .int .i64 (lastC R).fNext, .slice aT (lastC R).fTables.length cT, .slice aI (lastC R).fIndexes.length cI, .int .i64 R.routes.fEpoch, .int .i64 R.routes.fBase, .slice aP R.routes.fSpans.length cP, .int .i64 R.routes.fMoving, .slice aV R.routes.fCut.length cV]) := (Keep.refl (· = w.heap.size + 1) w6).setRow (fun _ => rfl) _
  have HZR := Lib.hid (rowZ.setRow [.int .i64 0, .int .u64 (R.begun + 1), .int .i64 0, .bool false, .slice none 0 0, .slice none 0 0, .int .i64 (lastC R).fVersion, .int .i64 (lastC R).fNext, .slice aT (lastC R).fTables.length cT, .slice aI (lastC R).fIndexes.length cI, .int .i64 R.routes.fEpoch, .int .i64 R.routes.fBase, .slice aP R.routes.fSpans.length cP, .int .i64 R.routes.fMoving, .slice aV R.routes.fCut.length cV])
  have HKS := Lib.hid kS
  clear kS rowZ
  refine wpAnyH_ready (rs := [9]) (by kernel_rfl) (by simp) ?_
  refine AllReadyH.cons rfl (fun K hK => ?_) AllReadyH.nil
  (try simp only [List.getElem_toArray]); (try simp only [List.getElem_cons_succ]); (try simp only [List.getElem_cons_zero])
  go_simp
  have h1 := hs3.out
  have h2 := k5.size
  have h3 := k6.size
  refine hK.out _ _ (((HKS.out.cell (by show g < _; omega) (by show ¬ g = _; omega)).trans (HSS.out _ (k5.trans k6)))) (fun hHeld => ?_)
  clear hK K
  (try simp only [Act.put]); (try simp only [List.getElem_toArray]); (try simp only [List.getElem_cons_succ]); (try simp only [List.getElem_cons_zero]); (try simp only [List.setIfInBounds_toArray]); (try simp only [List.set_cons_succ]); (try simp only [List.set_cons_zero])
  refine wpAnyH_done (by kernel_rfl) ?_ _
  clear hHeld hst
  go_wp2_with fail
  refine bodyPost_ret (results_cell_row (by rfl) _ _ _ _ _ _ _ (by rfl) HZR.out Tryz.underlying55 (by rfl) hinfo) rfl ?_
  have h1 := hs3.out
  have h2 := k5.size
  have h3 := k6.size
  have h4 := HKS.out.size
  have rn := rGCatalog_lawful.keep (rGCatalog_lawful.nix HN.out k6) HKS.out (fun b hb e => by have := hb.1; omega)
  have rr := rGRoutes_lawful.keep HR.out HKS.out (fun b hb e => by have := hb.1; omega)
  have hu : isU64 (R.begun + 1) := HH.out.ok.u64
  have i0 : isI64 0 := ⟨by decide, by decide⟩
  refine ⟨[.int .i64 0, .int .u64 (R.begun + 1), .int .i64 0, .bool false, .slice none 0 0, .slice none 0 0, .int .i64 (lastC R).fVersion, .int .i64 (lastC R).fNext, .slice aT (lastC R).fTables.length cT, .slice aI (lastC R).fIndexes.length cI, .int .i64 R.routes.fEpoch, .int .i64 R.routes.fBase, .slice aP R.routes.fSpans.length cP, .int .i64 R.routes.fMoving, .slice aV R.routes.fCut.length cV], O, fun b => w4.heap.size ≤ b ∧ b < (w6.setRow (w.heap.size + 1) #[.int .i64 0, .int .u64 (R.begun + 1), .int .i64 0, .bool false, .slice none 0 0, .slice none 0 0, .int .i64 (lastC R).fVersion, .int .i64 (lastC R).fNext, .slice aT (lastC R).fTables.length cT, .slice aI (lastC R).fIndexes.length cI, .int .i64 R.routes.fEpoch, .int .i64 R.routes.fBase, .slice aP R.routes.fSpans.length cP, .int .i64 R.routes.fMoving, .slice aV R.routes.fCut.length cV]).heap.size, rfl, rGReply_mk _ _ (x := repL (R.begun + 1) 0 (lastC R) R.routes) i0 hu i0 (nil_R _ _) (nil_R _ _) (rGCatalog_lawful.mono rn (fun b hb => ⟨hb.1, by have := hb.2; omega⟩)) (rGRoutes_lawful.mono rr (fun b hb => ⟨by have := hb.1; omega, by have := hb.2; omega⟩)), fun b hb => ⟨by have := hb.1; omega, hb.2, fun ho => by have := H0.out b ho; have := hb.1; omega⟩, ((HH.out.nix (k5.trans k6)).keep HKS.out (fun b hb e => by have := H0.out b hb; omega)).more (Nat.le_succ n), fun b h => .inl h, fun b h => h, ?_⟩
  exact ((K3.out.mono (fun b hb => by rw [hb]; exact og)).then (k5.trans k6) (fun _ _ h => h.elim)).then HKS.out (fun i hi e => by omega)
end
end Go.Proofs.YtibaehlfpgipfaaGreat
