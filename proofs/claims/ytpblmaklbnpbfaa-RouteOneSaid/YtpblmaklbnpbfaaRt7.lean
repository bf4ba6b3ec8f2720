/- ROUTE: New; a group's part of a span; awake. Printed by mac.py. -/
import Derived.Test.YtpblmaklbnpbfaaRt6
namespace Go.Proofs.Ytpblmaklbnpbfaa
open Go.RowKit

section
attribute [local go_sem ↓] ldz_Routes
set_option maxRecDepth 100000 in
set_option maxHeartbeats 4000000 in
theorem Part_c {p q : Nat → Prop} (r : GRoutes) (csr : List Value) (g : Int) (s : GSpan) (css : List Value) (w : World) (hr : rGRoutes w p csr r) (hs : rGSpan w q css s) :
    Calls Try.prog 12 #[.agg csr.toArray, .int .i64 g, .agg css.toArray] w (RetSB w (PartF r g s)) := by
  have HR := Lib.hid hr
  have HS := Lib.hid hs
  obtain ⟨aS, cS, aC, cC, rfl, -⟩ := rGRoutes_open hr
  obtain ⟨sF, dF, sT, dT, rfl, -⟩ := rGSpan_open hs
  have k1 := fun (w : World) (o : Obj) => (Keep.refl Nix w).alloc o
  have kk : Keep Nix w ((((w.alloc (.cells #[.int .i64 r.fEpoch, .int .i64 r.fBase, .slice aS r.fSpans.length cS, .int .i64 r.fMoving, .slice aC r.fCut.length cC] 25))).alloc (.cells #[.slice sF s.fFrom.length dF, .slice sT s.fTo.length dT] 29)).alloc (.cells #[.slice none 0 0, .slice none 0 0] 29)) := ((k1 _ _).trans (k1 _ _)).trans (k1 _ _)
  have row0 : RowIs ((((w.alloc (.cells #[.int .i64 r.fEpoch, .int .i64 r.fBase, .slice aS r.fSpans.length cS, .int .i64 r.fMoving, .slice aC r.fCut.length cC] 25))).alloc (.cells #[.slice sF s.fFrom.length dF, .slice sT s.fTo.length dT] 29)).alloc (.cells #[.slice none 0 0, .slice none 0 0] 29)) w.heap.size 25 [.int .i64 r.fEpoch, .int .i64 r.fBase, .slice aS r.fSpans.length cS, .int .i64 r.fMoving, .slice aC r.fCut.length cC] := ((RowIs.alloc w _ _).keep (k1 _ _) id).keep (k1 _ _) id
  have rowS : RowIs ((((w.alloc (.cells #[.int .i64 r.fEpoch, .int .i64 r.fBase, .slice aS r.fSpans.length cS, .int .i64 r.fMoving, .slice aC r.fCut.length cC] 25))).alloc (.cells #[.slice sF s.fFrom.length dF, .slice sT s.fTo.length dT] 29)).alloc (.cells #[.slice none 0 0, .slice none 0 0] 29)) (w.heap.size + 1) 29 [.slice sF s.fFrom.length dF, .slice sT s.fTo.length dT] := by
    have h := (RowIs.alloc (w.alloc (.cells #[.int .i64 r.fEpoch, .int .i64 r.fBase, .slice aS r.fSpans.length cS, .int .i64 r.fMoving, .slice aC r.fCut.length cC] 25)) #[.slice sF s.fFrom.length dF, .slice sT s.fTo.length dT] 29).keep (k1 _ (.cells #[.slice none 0 0, .slice none 0 0] 29)) id
    simpa using h
  have rowR : RowIs ((((w.alloc (.cells #[.int .i64 r.fEpoch, .int .i64 r.fBase, .slice aS r.fSpans.length cS, .int .i64 r.fMoving, .slice aC r.fCut.length cC] 25))).alloc (.cells #[.slice sF s.fFrom.length dF, .slice sT s.fTo.length dT] 29)).alloc (.cells #[.slice none 0 0, .slice none 0 0] 29)) (w.heap.size + 1 + 1) 29 [.slice none 0 0, .slice none 0 0] := by
    have h := RowIs.alloc (((w.alloc (.cells #[.int .i64 r.fEpoch, .int .i64 r.fBase, .slice aS r.fSpans.length cS, .int .i64 r.fMoving, .slice aC r.fCut.length cC] 25))).alloc (.cells #[.slice sF s.fFrom.length dF, .slice sT s.fTo.length dT] 29)) #[.slice none 0 0, .slice none 0 0] 29
    simpa using h
  have hinfo : (Try.prog.info? 29).map (·.size) = some 2 := by kernel_rfl
  obtain ⟨v, HV⟩ : ∃ v, Hid (decide (1 ≤ g ∧ g ≤ r.fBase) = v) := ⟨_, rfl⟩
  obtain ⟨Y, HY⟩ : ∃ Y, Hid (PartF r g s = Y) := ⟨_, rfl⟩
  rw [HY.out]
  clear hr hs k1
  go_enter Try.func12, Try.ntmps12
  go_upto_region 1 with fail
  generalize ((((w.alloc (.cells #[.int .i64 r.fEpoch, .int .i64 r.fBase, .slice aS r.fSpans.length cS, .int .i64 r.fMoving, .slice aC r.fCut.length cC] 25))).alloc (.cells #[.slice sF s.fFrom.length dF, .slice sT s.fTo.length dT] 29)).alloc (.cells #[.slice none 0 0, .slice none 0 0] 29)) = w1 at *
  generalize hbs : w.heap.size = bs at *
  have y1 := row0.cell 1
  (try simp only [List.getElem?_cons_succ] at y1); (try simp only [List.getElem?_cons_zero] at y1)
  go_cut [16] from 8 to 34 (fun s16 wx => s16 = .bool v ∧ w1 = wx)
  case first =>
    rcases Int.lt_or_le g 1 with h | h
    · have e : v = false := by rw [← HV.out]; first | (simp; done) | (simp; omega)
      subst e
      clear HY HR HS row0 rowS rowR HV
      go_wp2_with fail
      go_meet
      exact ⟨rfl, rfl⟩
    · rcases Int.lt_or_le r.fBase g with h2 | h2
      · have e : v = false := by rw [← HV.out]; first | (simp; done) | (simp; omega)
        subst e
        clear HY HR HS row0 rowS rowR HV
        go_wp2_with fail
        go_meet
        exact ⟨by first | (simp; done) | (simp; omega), rfl⟩
      · have e : v = true := by rw [← HV.out]; first | (simp; done) | (simp; omega)
        subst e
        clear HY HR HS row0 rowS rowR HV
        go_wp2_with fail
        go_meet
        exact ⟨by first | (simp; done) | (simp; omega), rfl⟩
  case rest =>
  obtain ⟨rfl, rfl⟩ := hcut
  have hi := HV.out
  clear y1 HV
  cases v with
  | true =>
    have HP : Hid (Y = partF s (allF 114)) := by show _ = _; rw [← HY.out, PartF, if_pos (by simpa using hi)]
    clear hi HY HR row0
    go_upto_region 2 with fail
    have kD : Keep Nix w1 w1.drew := (Keep.refl Nix w1).drew
    replace rowR := rowR.keep kD id
    replace rowS := rowS.keep kD id
    replace kk := kk.trans kD
    clear kD
    have z0 := rowS.cell 0
    (try simp only [List.getElem?_cons_zero] at z0)
    have z1 := rowS.cell 1
    (try simp only [List.getElem?_cons_succ] at z1); (try simp only [List.getElem?_cons_zero] at z1)
    refine wp_region_held_drew (S := (fun w' => w'.cell? ⟨bs + 1, 0, none⟩ = some (.slice sF s.fFrom.length dF) ∧ w'.cell? ⟨bs + 1, 1, none⟩ = some (.slice sT s.fTo.length dT))) (by kernel_rfl) (⟨z0, z1⟩) (fun hHeld => ?_)
    generalize w1.drew = wd at *
    refine wpAnyH_take (i := 0) (v := ?_) rfl (by kernel_rfl) (by kernel_rfl) (by kernel_rfl) (fun _ _ _ h => h) (Or.inl ⟨by kernel_rfl, ?_⟩) hHeld ?_
    rotate_left
    · intro w' hSw
      (try dsimp only at hSw)
      (try simp only [List.getElem_toArray]); (try simp only [List.getElem_cons_succ]); (try simp only [List.getElem_cons_zero])
      go_simp
      try with_reducible rfl
    (try simp only [Act.put]); (try simp only [List.getElem_toArray]); (try simp only [List.getElem_cons_succ]); (try simp only [List.getElem_cons_zero]); (try simp only [List.setIfInBounds_toArray]); (try simp only [List.set_cons_succ]); (try simp only [List.set_cons_zero])
    refine wpAnyH_ready (rs := [1]) (by kernel_rfl) (by simp) ?_
    refine AllReadyH.cons rfl (fun K hK => ?_) AllReadyH.nil
    go_simp
    go_fit (all_c wd)
    rintro e w2 ⟨csa, rfl, ra, k2⟩
    replace rowR := rowR.keep k2 id
    replace rowS := rowS.keep k2 id
    have hs1 := kk.size
    have hs2 := k2.size
    have hr0 := rowR.lt
    replace kk := kk.trans k2
    clear z0 z1 k2
    go_wp2_with fail
    have z0 := rowS.cell 0
    (try simp only [List.getElem?_cons_zero] at z0)
    have z1 := rowS.cell 1
    (try simp only [List.getElem?_cons_succ] at z1); (try simp only [List.getElem?_cons_zero] at z1)
    refine hK.out _ _ (⟨z0, z1⟩) (fun hHeld => ?_)
    clear hK K
    (try simp only [Act.put]); (try simp only [List.getElem_toArray]); (try simp only [List.getElem_cons_succ]); (try simp only [List.getElem_cons_zero]); (try simp only [List.setIfInBounds_toArray]); (try simp only [List.set_cons_succ]); (try simp only [List.set_cons_zero])
    refine wpAnyH_ready (rs := [2]) (by kernel_rfl) (by simp) ?_
    refine AllReadyH.cons rfl (fun K hK => ?_) AllReadyH.nil
    go_simp
    go_fit (part_c s (allF 114) [.slice sF s.fFrom.length dF, .slice sT s.fTo.length dT] csa w2 (rGSpan_lawful.nix HS.out kk) ra)
    rw [← HP.out]
    rintro e w3 ⟨csx, rfl, rx, k3⟩
    have hvv := rowR.lt
    have hv1 : w.heap.size ≤ w2.heap.size := kk.size
    replace rowS := rowS.keep k3 id
    clear HP HS z0 z1
    obtain ⟨x, b⟩ := Y
    (try dsimp only at rx)
    have hs3 := k3.size
    replace rowR := rowR.keep k3 id
    replace kk := kk.trans k3
    have hlt := rowR.lt
    obtain ⟨a1, c1, a2, c2, rfl, L1, L2, -⟩ := rGSpan_open rx
    have L1 : LB w3 (NewIn w2 w3) a1 c1 x.fFrom := L1
    have L2 : LB w3 (NewIn w2 w3) a2 c2 x.fTo := L2
    have hsv : bs + 1 + 1 < w2.heap.size := hvv
    have hv0 := hv1
    have rowF : RowIs ((w3.setCell ⟨bs + 1 + 1, 0, none⟩ (.slice a1 x.fFrom.length c1)).setCell ⟨bs + 1 + 1, 1, none⟩ (.slice a2 x.fTo.length c2)) (bs + 1 + 1) 29 [.slice a1 x.fFrom.length c1, .slice a2 x.fTo.length c2] := (rowR.set 0 _).set 1 _
    have kS : Keep (· = bs + 1 + 1) w3 ((w3.setCell ⟨bs + 1 + 1, 0, none⟩ (.slice a1 x.fFrom.length c1)).setCell ⟨bs + 1 + 1, 1, none⟩ (.slice a2 x.fTo.length c2)) := ((Keep.refl (· = bs + 1 + 1) w3).setCell (p := ⟨bs + 1 + 1, 0, none⟩) (fun _ => rfl) _).setCell (p := ⟨bs + 1 + 1, 1, none⟩) (fun _ => rfl) _
    have k5 := kk.then kS (fun i hi e => by omega)
    have hs5 := kS.size
    replace L1 : LB ((w3.setCell ⟨bs + 1 + 1, 0, none⟩ (.slice a1 x.fFrom.length c1)).setCell ⟨bs + 1 + 1, 1, none⟩ (.slice a2 x.fTo.length c2)) (NewIn w ((w3.setCell ⟨bs + 1 + 1, 0, none⟩ (.slice a1 x.fFrom.length c1)).setCell ⟨bs + 1 + 1, 1, none⟩ (.slice a2 x.fTo.length c2))) a1 c1 x.fFrom := L1.to kS (fun i hi e => by have := hi.1; omega) (fun i hi => ⟨by have := hi.1; omega, by have := hi.2; omega⟩)
    replace L2 : LB ((w3.setCell ⟨bs + 1 + 1, 0, none⟩ (.slice a1 x.fFrom.length c1)).setCell ⟨bs + 1 + 1, 1, none⟩ (.slice a2 x.fTo.length c2)) (NewIn w ((w3.setCell ⟨bs + 1 + 1, 0, none⟩ (.slice a1 x.fFrom.length c1)).setCell ⟨bs + 1 + 1, 1, none⟩ (.slice a2 x.fTo.length c2))) a2 c2 x.fTo := L2.to kS (fun i hi e => by have := hi.1; omega) (fun i hi => ⟨by have := hi.1; omega, by have := hi.2; omega⟩)
    have q0 := rowR.cell 0
    (try simp only [List.getElem?_cons_zero] at q0)
    have q1 := rowR.cell 1
    (try simp only [List.getElem?_cons_succ] at q1); (try simp only [List.getElem?_cons_zero] at q1)
    have h0 := rowR.frozen 0
    have h1 := rowR.frozen 1
    go_wp2_with fail
    have z0 := rowS.cell 0
    (try simp only [List.getElem?_cons_zero] at z0)
    have z1 := rowS.cell 1
    (try simp only [List.getElem?_cons_succ] at z1); (try simp only [List.getElem?_cons_zero] at z1)
    refine hK.out _ _ (⟨z0, z1⟩) (fun hHeld => ?_)
    clear hK K
    (try simp only [Act.put]); (try simp only [List.getElem_toArray]); (try simp only [List.getElem_cons_succ]); (try simp only [List.getElem_cons_zero]); (try simp only [List.setIfInBounds_toArray]); (try simp only [List.set_cons_succ]); (try simp only [List.set_cons_zero])
    refine wpAnyH_take (i := 3) (v := ?_) rfl (by kernel_rfl) (by kernel_rfl) (by kernel_rfl) (fun _ _ _ h => h) (Or.inl ⟨by kernel_rfl, ?_⟩) hHeld ?_
    rotate_left
    · intro w' hSw
      (try dsimp only at hSw)
      (try simp only [List.getElem_toArray]); (try simp only [List.getElem_cons_succ]); (try simp only [List.getElem_cons_zero])
      go_simp
      try with_reducible rfl
    (try simp only [Act.put]); (try simp only [List.getElem_toArray]); (try simp only [List.getElem_cons_succ]); (try simp only [List.getElem_cons_zero]); (try simp only [List.setIfInBounds_toArray]); (try simp only [List.set_cons_succ]); (try simp only [List.set_cons_zero])
    refine wpAnyH_take (i := 4) (v := ?_) rfl (by kernel_rfl) (by kernel_rfl) (by kernel_rfl) (fun _ _ _ h => h) (Or.inl ⟨by kernel_rfl, ?_⟩) hHeld ?_
    rotate_left
    · intro w' hSw
      (try dsimp only at hSw)
      (try simp only [List.getElem_toArray]); (try simp only [List.getElem_cons_succ]); (try simp only [List.getElem_cons_zero])
      go_simp
      try with_reducible rfl
    (try simp only [Act.put]); (try simp only [List.getElem_toArray]); (try simp only [List.getElem_cons_succ]); (try simp only [List.getElem_cons_zero]); (try simp only [List.setIfInBounds_toArray]); (try simp only [List.set_cons_succ]); (try simp only [List.set_cons_zero])
    have rowS' := rowS.keep kS (by omega)
    refine wpAnyH_ready (rs := [5]) (by kernel_rfl) (by simp) ?_
    refine AllReadyH.cons rfl (fun K hK => ?_) AllReadyH.nil
    go_simp
    clear z0 z1 q0 q1 h0 h1 rowR rowS kk kS hs5 k3
    generalize ((w3.setCell ⟨bs + 1 + 1, 0, none⟩ (.slice a1 x.fFrom.length c1)).setCell ⟨bs + 1 + 1, 1, none⟩ (.slice a2 x.fTo.length c2)) = wz at *
    have z0 := rowS'.cell 0
    (try simp only [List.getElem?_cons_zero] at z0)
    have z1 := rowS'.cell 1
    (try simp only [List.getElem?_cons_succ] at z1); (try simp only [List.getElem?_cons_zero] at z1)
    refine hK.out _ _ (⟨z0, z1⟩) (fun hHeld => ?_)
    clear hK K
    (try simp only [Act.put]); (try simp only [List.getElem_toArray]); (try simp only [List.getElem_cons_succ]); (try simp only [List.getElem_cons_zero]); (try simp only [List.setIfInBounds_toArray]); (try simp only [List.set_cons_succ]); (try simp only [List.set_cons_zero])
    refine wpAnyH_take (i := 6) (v := ?_) rfl (by kernel_rfl) (by kernel_rfl) (by kernel_rfl) (fun _ _ _ h => h) (Or.inl ⟨by kernel_rfl, ?_⟩) hHeld ?_
    rotate_left
    · intro w' hSw
      (try dsimp only at hSw)
      (try simp only [List.getElem_toArray]); (try simp only [List.getElem_cons_succ]); (try simp only [List.getElem_cons_zero])
      go_simp
      try with_reducible rfl
    (try simp only [Act.put]); (try simp only [List.getElem_toArray]); (try simp only [List.getElem_cons_succ]); (try simp only [List.getElem_cons_zero]); (try simp only [List.setIfInBounds_toArray]); (try simp only [List.set_cons_succ]); (try simp only [List.set_cons_zero])
    refine wpAnyH_done (by kernel_rfl) ?_ _
    clear z0 z1 hHeld
    go_wp2_with fail
    refine bodyPost_ret (results_cell_row2 (by rfl) _ _ _ _ _ _ _ (by rfl) rowF Try.underlying29 (by rfl) hinfo) rfl ?_
    exact ⟨_, rfl, mkS L1 L2, k5⟩
  | false =>
    have hPF : PartF r g s = if (ownedF r.fSpans g).fTo = [] then (⟨[], []⟩, false) else partF s (ownedF r.fSpans g) := by rw [PartF, if_neg (by simpa using hi)]
    have ldR := Whole.run (P := Try.prog) S_Routes rfl row0
    clear hi
    go_wp2_with fail
    go_fit (Owned_c r [.int .i64 r.fEpoch, .int .i64 r.fBase, .slice aS r.fSpans.length cS, .int .i64 r.fMoving, .slice aC r.fCut.length cC] g w1 (rGRoutes_lawful.nix HR.out kk))
    generalize hO : ownedF r.fSpans g = o at *
    rintro e w2 ⟨cso, rfl, ro, k2⟩
    have RO := Lib.hid ro
    obtain ⟨oF, eF, oT, eT, rfl, -⟩ := rGSpan_open ro
    have k3 : Keep Nix w2 (w2.alloc (.cells #[.slice oF o.fFrom.length eF, .slice oT o.fTo.length eT] 29)) := (Keep.refl Nix w2).alloc _
    have rowO := RowIs.alloc w2 #[.slice oF o.fFrom.length eF, .slice oT o.fTo.length eT] 29
    have hs1 := kk.size
    have hs2 := k2.size
    have hs4 := k3.size
    have hr0 := rowR.lt
    replace rowR := (rowR.keep k2 id).keep k3 id
    replace rowS := (rowS.keep k2 id).keep k3 id
    replace kk := (kk.trans k2).trans k3
    clear ldR k2 row0 HR ro hO
    go_upto_if 28 with fail
    have hOs := rGSpan_lawful.nix RO.out k3
    clear k3 RO
    generalize w2.alloc (.cells #[.slice oF o.fFrom.length eF, .slice oT o.fTo.length eT] 29) = w3 at *
    generalize hbo : w2.heap.size = bo at *
    by_cases ht : o.fTo = []
    · have hn := len0 ht
      have HP : Hid (Y = (⟨[], []⟩, false)) := by show _ = _; rw [← HY.out, hPF, if_pos ht]
      have rowF := (rowR.set 0 (.slice none 0 0)).set 1 (.slice none 0 0)
      have kS : Keep (· = bs + 1 + 1) w3 ((w3.setCell ⟨bs + 1 + 1, 0, none⟩ (.slice none 0 0)).setCell ⟨bs + 1 + 1, 1, none⟩ (.slice none 0 0)) := ((Keep.refl (· = bs + 1 + 1) w3).setCell (fun _ => rfl) _).setCell (fun _ => rfl) _
      have k5 := kk.then kS (fun i hi e => by omega)
      have q0 := rowR.cell 0
      (try simp only [List.getElem?_cons_zero] at q0)
      have q1 := rowR.cell 1
      (try simp only [List.getElem?_cons_succ] at q1); (try simp only [List.getElem?_cons_zero] at q1)
      have h0 := rowR.frozen 0
      have h1 := rowR.frozen 1
      clear ht hPF HY rowO rowS rowR kS kk hOs
      go_wp2_with fail
      refine bodyPost_ret (results_cell_row2 (by rfl) _ _ _ _ _ _ _ (by rfl) rowF Try.underlying29 (by rfl) hinfo) rfl ?_
      rw [HP.out]
      exact ⟨_, rfl, mkS0 _ _, k5⟩
    · have hn := len1 ht
      have HP : Hid (Y = partF s o) := by show _ = _; rw [← HY.out, hPF, if_neg ht]
      have hcall := part_c s o [.slice sF s.fFrom.length dF, .slice sT s.fTo.length dT] [.slice oF o.fFrom.length eF, .slice oT o.fTo.length eT] w3 (rGSpan_lawful.nix HS.out kk) hOs
      rw [← HP.out] at hcall
      have z0 := rowS.cell 0
      (try simp only [List.getElem?_cons_zero] at z0)
      have z1 := rowS.cell 1
      (try simp only [List.getElem?_cons_succ] at z1); (try simp only [List.getElem?_cons_zero] at z1)
      have y0 := rowO.cell 0
      (try simp only [List.getElem?_cons_zero] at y0)
      have y1 := rowO.cell 1
      (try simp only [List.getElem?_cons_succ] at y1); (try simp only [List.getElem?_cons_zero] at y1)
      clear ht hPF HY rowO hOs HP HS
      go_wp2_with fail
      go_fit hcall
      rintro e w4 ⟨csx, rfl, rx, k3⟩
      have hvv := rowR.lt
      have hv1 : w.heap.size ≤ w3.heap.size := kk.size
      clear z0 z1 y0 y1 rowS hcall
      obtain ⟨x, b⟩ := Y
      (try dsimp only at rx)
      have hs3 := k3.size
      replace rowR := rowR.keep k3 id
      replace kk := kk.trans k3
      have hlt := rowR.lt
      obtain ⟨a1, c1, a2, c2, rfl, L1, L2, -⟩ := rGSpan_open rx
      have L1 : LB w4 (NewIn w3 w4) a1 c1 x.fFrom := L1
      have L2 : LB w4 (NewIn w3 w4) a2 c2 x.fTo := L2
      have hsv : bs + 1 + 1 < w3.heap.size := hvv
      have hv0 := hv1
      have rowF : RowIs ((w4.setCell ⟨bs + 1 + 1, 0, none⟩ (.slice a1 x.fFrom.length c1)).setCell ⟨bs + 1 + 1, 1, none⟩ (.slice a2 x.fTo.length c2)) (bs + 1 + 1) 29 [.slice a1 x.fFrom.length c1, .slice a2 x.fTo.length c2] := (rowR.set 0 _).set 1 _
      have kS : Keep (· = bs + 1 + 1) w4 ((w4.setCell ⟨bs + 1 + 1, 0, none⟩ (.slice a1 x.fFrom.length c1)).setCell ⟨bs + 1 + 1, 1, none⟩ (.slice a2 x.fTo.length c2)) := ((Keep.refl (· = bs + 1 + 1) w4).setCell (p := ⟨bs + 1 + 1, 0, none⟩) (fun _ => rfl) _).setCell (p := ⟨bs + 1 + 1, 1, none⟩) (fun _ => rfl) _
      have k5 := kk.then kS (fun i hi e => by omega)
      have hs5 := kS.size
      replace L1 : LB ((w4.setCell ⟨bs + 1 + 1, 0, none⟩ (.slice a1 x.fFrom.length c1)).setCell ⟨bs + 1 + 1, 1, none⟩ (.slice a2 x.fTo.length c2)) (NewIn w ((w4.setCell ⟨bs + 1 + 1, 0, none⟩ (.slice a1 x.fFrom.length c1)).setCell ⟨bs + 1 + 1, 1, none⟩ (.slice a2 x.fTo.length c2))) a1 c1 x.fFrom := L1.to kS (fun i hi e => by have := hi.1; omega) (fun i hi => ⟨by have := hi.1; omega, by have := hi.2; omega⟩)
      replace L2 : LB ((w4.setCell ⟨bs + 1 + 1, 0, none⟩ (.slice a1 x.fFrom.length c1)).setCell ⟨bs + 1 + 1, 1, none⟩ (.slice a2 x.fTo.length c2)) (NewIn w ((w4.setCell ⟨bs + 1 + 1, 0, none⟩ (.slice a1 x.fFrom.length c1)).setCell ⟨bs + 1 + 1, 1, none⟩ (.slice a2 x.fTo.length c2))) a2 c2 x.fTo := L2.to kS (fun i hi e => by have := hi.1; omega) (fun i hi => ⟨by have := hi.1; omega, by have := hi.2; omega⟩)
      have q0 := rowR.cell 0
      (try simp only [List.getElem?_cons_zero] at q0)
      have q1 := rowR.cell 1
      (try simp only [List.getElem?_cons_succ] at q1); (try simp only [List.getElem?_cons_zero] at q1)
      have h0 := rowR.frozen 0
      have h1 := rowR.frozen 1
      clear rowR kk kS hs5 k3
      go_wp2_with fail
      refine bodyPost_ret (results_cell_row2 (by rfl) _ _ _ _ _ _ _ (by rfl) rowF Try.underlying29 (by rfl) hinfo) rfl ?_
      exact ⟨_, rfl, mkS L1 L2, k5⟩
def newF (b s : Int) : GRoutes × Int := if 1 ≤ b ∧ b ≤ 4 ∧ 1 ≤ s ∧ s ≤ 4 then (⟨0, b, [⟨b + 1, [120]⟩], 0, []⟩, 0) else (⟨0, 0, [], 0, []⟩, 1)
def RetRE (w : World) (y : GRoutes × Int) (e : Ending) (w' : World) : Prop := ∃ cs : List Value, e = .returned (.tuple #[.agg cs.toArray, .int .i64 y.2]) ∧ rGRoutes w' (NewIn w w') cs y.1 ∧ Keep Nix w w'
theorem rList_nil {α : Type} (R : RD α) (w : World) (p : Nat → Prop) : rList R w p [.slice none 0 0] [] := ⟨none, 0, [], rfl, rfl, fun h => absurd rfl h, Nat.le_refl _, Nat.zero_le _, fun i c x h => by simp at h⟩
theorem i64_0 : isI64 0 := by unfold isI64; omega
theorem rZero (w : World) (p : Nat → Prop) : rGRoutes w p [.int .i64 0, .int .i64 0, .slice none 0 0, .int .i64 0, .slice none 0 0] ⟨0, 0, [], 0, []⟩ :=
  rGRoutes_mk (x := ⟨0, 0, [], 0, []⟩) w p i64_0 i64_0 (rList_nil _ w p) i64_0 (LB.nil0 w p)
set_option maxRecDepth 100000 in
set_option maxHeartbeats 1000000 in
theorem New_c (b s : Int) (w : World) : Calls Try.prog 16 #[.int .i64 b, .int .i64 s] w (RetRE w (newF b s)) := by
  have hinfo : (Try.prog.info? 25).map (·.size) = some 5 := by kernel_rfl
  by_cases h : 1 ≤ b ∧ b ≤ 4 ∧ 1 ≤ s ∧ s ≤ 4
  · have HP : Hid (newF b s = (⟨0, b, [⟨b + 1, [120]⟩], 0, []⟩, 0)) := by show _ = _; unfold newF; rw [if_pos h]
    rw [HP.out]
    obtain ⟨h1, h2, h3, h4⟩ := h
    have k1 := fun (w : World) (o : Obj) => (Keep.refl Nix w).alloc o
    have kk : Keep Nix w (((w.alloc (.cells #[.int .i64 0, .int .i64 b, .slice (some ⟨w.heap.size + 1 + 1, 0, none⟩) 1 1, .int .i64 0, .slice none 0 0] 25)).alloc (.cells #[.int .u8 120] 5)).alloc (.cells #[.int .i64 (b + 1), .slice (some ⟨w.heap.size + 1, 0, none⟩) 1 1] 32)) := ((k1 _ _).trans (k1 _ _)).trans (k1 _ _)
    have rowF : RowIs (((w.alloc (.cells #[.int .i64 0, .int .i64 b, .slice (some ⟨w.heap.size + 1 + 1, 0, none⟩) 1 1, .int .i64 0, .slice none 0 0] 25)).alloc (.cells #[.int .u8 120] 5)).alloc (.cells #[.int .i64 (b + 1), .slice (some ⟨w.heap.size + 1, 0, none⟩) 1 1] 32)) w.heap.size 25 [.int .i64 0, .int .i64 b, .slice (some ⟨w.heap.size + 1 + 1, 0, none⟩) 1 1, .int .i64 0, .slice none 0 0] := ((RowIs.alloc w _ _).keep (k1 _ _) id).keep (k1 _ _) id
    have rowB : RowIs (((w.alloc (.cells #[.int .i64 0, .int .i64 b, .slice (some ⟨w.heap.size + 1 + 1, 0, none⟩) 1 1, .int .i64 0, .slice none 0 0] 25)).alloc (.cells #[.int .u8 120] 5)).alloc (.cells #[.int .i64 (b + 1), .slice (some ⟨w.heap.size + 1, 0, none⟩) 1 1] 32)) (w.heap.size + 1) 5 [.int .u8 120] := by
      have h := (RowIs.alloc (w.alloc (.cells #[.int .i64 0, .int .i64 b, .slice (some ⟨w.heap.size + 1 + 1, 0, none⟩) 1 1, .int .i64 0, .slice none 0 0] 25)) #[.int .u8 120] 5).keep (k1 _ (.cells #[.int .i64 (b + 1), .slice (some ⟨w.heap.size + 1, 0, none⟩) 1 1] 32)) id
      simpa using h
    have rowO : RowIs (((w.alloc (.cells #[.int .i64 0, .int .i64 b, .slice (some ⟨w.heap.size + 1 + 1, 0, none⟩) 1 1, .int .i64 0, .slice none 0 0] 25)).alloc (.cells #[.int .u8 120] 5)).alloc (.cells #[.int .i64 (b + 1), .slice (some ⟨w.heap.size + 1, 0, none⟩) 1 1] 32)) (w.heap.size + 1 + 1) 32 [.int .i64 (b + 1), .slice (some ⟨w.heap.size + 1, 0, none⟩) 1 1] := by
      have h := RowIs.alloc ((w.alloc (.cells #[.int .i64 0, .int .i64 b, .slice (some ⟨w.heap.size + 1 + 1, 0, none⟩) 1 1, .int .i64 0, .slice none 0 0] 25)).alloc (.cells #[.int .u8 120] 5)) #[.int .i64 (b + 1), .slice (some ⟨w.heap.size + 1, 0, none⟩) 1 1] 32
      simpa using h
    have LB1 := LB.row (c := 120) rowB (NewIn w (((w.alloc (.cells #[.int .i64 0, .int .i64 b, .slice (some ⟨w.heap.size + 1 + 1, 0, none⟩) 1 1, .int .i64 0, .slice none 0 0] 25)).alloc (.cells #[.int .u8 120] 5)).alloc (.cells #[.int .i64 (b + 1), .slice (some ⟨w.heap.size + 1, 0, none⟩) 1 1] 32))) ⟨by omega, rowB.lt⟩
    have LL : rList rGOwner (((w.alloc (.cells #[.int .i64 0, .int .i64 b, .slice (some ⟨w.heap.size + 1 + 1, 0, none⟩) 1 1, .int .i64 0, .slice none 0 0] 25)).alloc (.cells #[.int .u8 120] 5)).alloc (.cells #[.int .i64 (b + 1), .slice (some ⟨w.heap.size + 1, 0, none⟩) 1 1] 32)) (NewIn w (((w.alloc (.cells #[.int .i64 0, .int .i64 b, .slice (some ⟨w.heap.size + 1 + 1, 0, none⟩) 1 1, .int .i64 0, .slice none 0 0] 25)).alloc (.cells #[.int .u8 120] 5)).alloc (.cells #[.int .i64 (b + 1), .slice (some ⟨w.heap.size + 1, 0, none⟩) 1 1] 32))) [.slice (some ⟨w.heap.size + 1 + 1, 0, none⟩) 1 1] [⟨b + 1, [120]⟩] :=
      ⟨_, 1, [[.int .i64 (b + 1), .slice (some ⟨w.heap.size + 1, 0, none⟩) 1 1]], rfl, rfl, fun _ => ⟨_, 0, rfl, ⟨by omega, rowO.lt⟩, rowO.lt, fun j u hu => by rw [Nat.zero_add, rowO.cell]; exact hu⟩, Nat.le_refl _, by show 1 ≤ far; decide, fun i c x hc hx => by
        match i, hc, hx with
        | 0, hc, hx =>
          cases hc; cases hx
          exact rGOwner_mk (x := ⟨b + 1, [120]⟩) _ _ (by unfold isI64; show _ ≤ b + 1 ∧ b + 1 ≤ _; omega) LB1⟩
    have hR := rGRoutes_mk (x := ⟨0, b, [⟨b + 1, [120]⟩], 0, []⟩) (((w.alloc (.cells #[.int .i64 0, .int .i64 b, .slice (some ⟨w.heap.size + 1 + 1, 0, none⟩) 1 1, .int .i64 0, .slice none 0 0] 25)).alloc (.cells #[.int .u8 120] 5)).alloc (.cells #[.int .i64 (b + 1), .slice (some ⟨w.heap.size + 1, 0, none⟩) 1 1] 32)) (NewIn w (((w.alloc (.cells #[.int .i64 0, .int .i64 b, .slice (some ⟨w.heap.size + 1 + 1, 0, none⟩) 1 1, .int .i64 0, .slice none 0 0] 25)).alloc (.cells #[.int .u8 120] 5)).alloc (.cells #[.int .i64 (b + 1), .slice (some ⟨w.heap.size + 1, 0, none⟩) 1 1] 32))) i64_0 (by unfold isI64; show _ ≤ b ∧ b ≤ _; omega) LL i64_0 (LB.nil0 _ _)
    clear k1 rowB rowO LB1 LL
    go_enter Try.func16, Try.ntmps16
    go_wp2_with fail
    refine bodyPost_ret (results_cell_row2 (by rfl) _ _ _ _ _ _ _ (by rfl) rowF Try.underlying25 (by rfl) hinfo) rfl ?_
    exact ⟨_, rfl, hR, kk⟩
  · have HP : Hid (newF b s = (⟨0, 0, [], 0, []⟩, 1)) := by show _ = _; unfold newF; rw [if_neg h]
    rw [HP.out]
    have k1 : Keep Nix w (w.alloc (.cells #[.int .i64 0, .int .i64 0, .slice none 0 0, .int .i64 0, .slice none 0 0] 25)) := (Keep.refl Nix w).alloc _
    have rowF : RowIs (w.alloc (.cells #[.int .i64 0, .int .i64 0, .slice none 0 0, .int .i64 0, .slice none 0 0] 25)) w.heap.size 25 [.int .i64 0, .int .i64 0, .slice none 0 0, .int .i64 0, .slice none 0 0] := RowIs.alloc w _ _
    rcases Int.lt_or_le b 1 with h1 | h1
    · clear h
      go_enter Try.func16, Try.ntmps16
      go_wp2_with fail
      refine bodyPost_ret (results_cell_row2 (by rfl) _ _ _ _ _ _ _ (by rfl) rowF Try.underlying25 (by rfl) hinfo) rfl ?_
      exact ⟨_, rfl, rZero _ _, k1⟩
    rcases Int.lt_or_le 4 b with h2 | h2
    · clear h
      go_enter Try.func16, Try.ntmps16
      go_wp2_with fail
      refine bodyPost_ret (results_cell_row2 (by rfl) _ _ _ _ _ _ _ (by rfl) rowF Try.underlying25 (by rfl) hinfo) rfl ?_
      exact ⟨_, rfl, rZero _ _, k1⟩
    rcases Int.lt_or_le s 1 with h3 | h3
    · clear h
      go_enter Try.func16, Try.ntmps16
      go_wp2_with fail
      refine bodyPost_ret (results_cell_row2 (by rfl) _ _ _ _ _ _ _ (by rfl) rowF Try.underlying25 (by rfl) hinfo) rfl ?_
      exact ⟨_, rfl, rZero _ _, k1⟩
    have h4 : 4 < s := by omega
    clear h
    go_enter Try.func16, Try.ntmps16
    go_wp2_with fail
    refine bodyPost_ret (results_cell_row2 (by rfl) _ _ _ _ _ _ _ (by rfl) rowF Try.underlying25 (by rfl) hinfo) rfl ?_
    exact ⟨_, rfl, rZero _ _, k1⟩
end
section
attribute [local go_sem ↓] ldz_Routes
set_option maxRecDepth 100000 in
set_option maxHeartbeats 1000000 in
theorem awake_c (w : World) : Calls Try.prog 7 #[] w fun e w' => e = .returned (.bool true) ∧ Keep Nix w w' := by
  go_enter Try.func7, Try.ntmps7
  go_wp2_with fail
  go_fit (New_c 2 2 w)
  rintro e w1 ⟨cs, rfl, rr, kk⟩
  have hN : newF 2 2 = (⟨0, 2, [⟨3, [120]⟩], 0, []⟩, 0) := by decide
  rw [hN] at rr ⊢
  have rr : rGRoutes w1 (NewIn w w1) cs ⟨0, 2, [⟨3, [120]⟩], 0, []⟩ := rr
  have RR := Lib.hid rr
  obtain ⟨aS, cS, aC, cC, rfl, -, -, hS, -⟩ := rGRoutes_open rr
  obtain ⟨b1, o1, _, _, e1, -, hb1, xr, xc⟩ := rList_at rGOwner_lawful (by decide) hS 0 (by decide)
  simp only [List.cons.injEq, Value.slice.injEq, and_true] at e1
  obtain ⟨rfl, -, -⟩ := e1
  obtain ⟨aF, cF, rfl, -⟩ := rGOwner_open xr
  have x0 := xc 0 _ rfl
  (try simp only [Nat.add_zero, Nat.zero_mul] at x0)
  have k1 : Keep Nix w1 (w1.alloc (.cells #[.int .i64 0, .int .i64 2, .slice (some ⟨b1, o1, none⟩) 1 cS, .int .i64 0, .slice aC 0 cC] 25)) := (Keep.refl Nix w1).alloc _
  have k2 : Keep Nix (w1.alloc (.cells #[.int .i64 0, .int .i64 2, .slice (some ⟨b1, o1, none⟩) 1 cS, .int .i64 0, .slice aC 0 cC] 25)) ((w1.alloc (.cells #[.int .i64 0, .int .i64 2, .slice (some ⟨b1, o1, none⟩) 1 cS, .int .i64 0, .slice aC 0 cC] 25)).alloc (.cells #[.int .u8 120] 5)) := (Keep.refl Nix _).alloc _
  have x0' := (k1.cell (p := ⟨b1, o1, none⟩) hb1 id).trans x0
  have row0 : RowIs (w1.alloc (.cells #[.int .i64 0, .int .i64 2, .slice (some ⟨b1, o1, none⟩) 1 cS, .int .i64 0, .slice aC 0 cC] 25)) w1.heap.size 25 [.int .i64 0, .int .i64 2, .slice (some ⟨b1, o1, none⟩) 1 cS, .int .i64 0, .slice aC 0 cC] := RowIs.alloc w1 _ _
  have rowB := RowIs.alloc (w1.alloc (.cells #[.int .i64 0, .int .i64 2, .slice (some ⟨b1, o1, none⟩) 1 cS, .int .i64 0, .slice aC 0 cC] 25)) #[.int .u8 120] 5
  have hsz : (w1.alloc (.cells #[.int .i64 0, .int .i64 2, .slice (some ⟨b1, o1, none⟩) 1 cS, .int .i64 0, .slice aC 0 cC] 25)).heap.size = w1.heap.size + 1 := by simp
  rw [hsz] at rowB
  have ldR := Whole.run (P := Try.prog) S_Routes rfl row0
  have hcall := Group_c ⟨0, 2, [⟨3, [120]⟩], 0, []⟩ [.int .i64 0, .int .i64 2, .slice (some ⟨b1, o1, none⟩) 1 cS, .int .i64 0, .slice aC 0 cC] (some ⟨w1.heap.size + 1, 0, none⟩) 1 [120] ((w1.alloc (.cells #[.int .i64 0, .int .i64 2, .slice (some ⟨b1, o1, none⟩) 1 cS, .int .i64 0, .slice aC 0 cC] 25)).alloc (.cells #[.int .u8 120] 5)) (rGRoutes_lawful.nix RR.out (k1.trans k2)) (by decide) (LB.row (c := 120) rowB (fun _ => True) trivial)
  have hg : groupF ⟨0, 2, [⟨3, [120]⟩], 0, []⟩ [120] = 3 := by decide
  rw [hg] at hcall
  have k3 := (kk.trans k1).trans k2
  clear rr RR hS xr xc x0 kk k1 k2 row0 rowB hsz hN hg
  go_wp2_with fail
  go_fit hcall
  rintro e w2 ⟨rfl, k4⟩
  clear hcall
  go_wp2_with fail
  go_ret
  exact ⟨rfl, k3.trans k4⟩
end
end Go.Proofs.Ytpblmaklbnpbfaa
