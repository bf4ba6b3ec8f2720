/- THE LAW RouteAll, walked. Printed by mac.py. -/
import Derived.Test.YtpblmaklbnpbfaaRtB
namespace Go.Proofs.Ytpblmaklbnpbfaa
open Go.RowKit

set_option maxRecDepth 100000 in
theorem sameS_c {p q : Nat → Prop} (a b : GSpan) (csa csb : List Value) (w : World) (ha : rGSpan w p csa a) (hb : rGSpan w q csb b) :
    Calls Try.prog 13 #[.agg csa.toArray, .agg csb.toArray] w fun e w' => e = .returned (.bool (decide (a.fFrom = b.fFrom) && decide (a.fTo = b.fTo))) ∧ Keep Nix w w' := by
  obtain ⟨aF, cF, aT, cT, rfl, f1, f2, -⟩ := rGSpan_open ha
  obtain ⟨bF, dF, bT, dT, rfl, f3, f4, -⟩ := rGSpan_open hb
  have k1 := fun (w : World) (o : Obj) => (Keep.refl Nix w).alloc o
  have kk : Keep Nix w ((w.alloc (.cells #[.slice aF a.fFrom.length cF, .slice aT a.fTo.length cT] 29)).alloc (.cells #[.slice bF b.fFrom.length dF, .slice bT b.fTo.length dT] 29)) := (k1 _ _).trans (k1 _ _)
  have rowA : RowIs ((w.alloc (.cells #[.slice aF a.fFrom.length cF, .slice aT a.fTo.length cT] 29)).alloc (.cells #[.slice bF b.fFrom.length dF, .slice bT b.fTo.length dT] 29)) w.heap.size 29 [.slice aF a.fFrom.length cF, .slice aT a.fTo.length cT] := (RowIs.alloc w _ _).keep (k1 _ _) id
  have rowB : RowIs ((w.alloc (.cells #[.slice aF a.fFrom.length cF, .slice aT a.fTo.length cT] 29)).alloc (.cells #[.slice bF b.fFrom.length dF, .slice bT b.fTo.length dT] 29)) (w.heap.size + 1) 29 [.slice bF b.fFrom.length dF, .slice bT b.fTo.length dT] := by
    have h := RowIs.alloc (w.alloc (.cells #[.slice aF a.fFrom.length cF, .slice aT a.fTo.length cT] 29)) #[.slice bF b.fFrom.length dF, .slice bT b.fTo.length dT] 29
    simpa using h
  have c1 := bytes_c aF bF a.fFrom.length cF b.fFrom.length dF a.fFrom b.fFrom ((w.alloc (.cells #[.slice aF a.fFrom.length cF, .slice aT a.fTo.length cT] 29)).alloc (.cells #[.slice bF b.fFrom.length dF, .slice bT b.fTo.length dT] 29)) rfl rfl (LB.keep f1 kk).1 (LB.keep f3 kk).1
  have c2 := bytes_c aT bT a.fTo.length cT b.fTo.length dT a.fTo b.fTo ((w.alloc (.cells #[.slice aF a.fFrom.length cF, .slice aT a.fTo.length cT] 29)).alloc (.cells #[.slice bF b.fFrom.length dF, .slice bT b.fTo.length dT] 29)) rfl rfl (LB.keep f2 kk).1 (LB.keep f4 kk).1
  have x0 := rowA.cell 0
  (try simp only [List.getElem?_cons_zero] at x0)
  have x1 := rowA.cell 1
  (try simp only [List.getElem?_cons_succ] at x1); (try simp only [List.getElem?_cons_zero] at x1)
  have y0 := rowB.cell 0
  (try simp only [List.getElem?_cons_zero] at y0)
  have y1 := rowB.cell 1
  (try simp only [List.getElem?_cons_succ] at y1); (try simp only [List.getElem?_cons_zero] at y1)
  obtain ⟨v1, h1⟩ : ∃ v, decide (a.fFrom = b.fFrom) = v := ⟨_, rfl⟩
  obtain ⟨v2, h2⟩ : ∃ v, decide (a.fTo = b.fTo) = v := ⟨_, rfl⟩
  rw [h1] at c1
  rw [h2] at c2
  rw [h1, h2]
  clear ha hb k1 rowA rowB f1 f2 f3 f4 h1 h2
  cases v1 with
  | false =>
    go_enter Try.func13, Try.ntmps13
    go_wp2_with fail
    go_fit c1
    rintro e w' ⟨rfl, rfl⟩
    go_wp2_with fail
    go_ret
    exact ⟨rfl, kk⟩
  | true =>
    go_enter Try.func13, Try.ntmps13
    go_wp2_with fail
    go_fit c1
    rintro e w' ⟨rfl, rfl⟩
    go_wp2_with fail
    go_fit c2
    rintro e w' ⟨rfl, rfl⟩
    go_wp2_with fail
    go_ret
    exact ⟨rfl, kk⟩
def TwoAt (w wx : World) (l : List GOwner) (k : Nat) (s : Value) : Prop := ∃ bt a1 c1 a2 c2, s = .pointer (some ⟨bt, 0, none⟩) ∧ RowIs wx bt 29 [.slice a1 (fromAt l k).length c1, .slice a2 (fromAt l (k + 1)).length c2] ∧ LB wx ANY a1 c1 (fromAt l k) ∧ LB wx ANY a2 c2 (fromAt l (k + 1)) ∧ Keep Nix w wx
section
attribute [local go_sem ↓] ldz_Routes
set_option maxRecDepth 100000 in
set_option maxHeartbeats 8000000 in
theorem all_walk (W : World) (r : GRoutes) (csr : List Value) (a : Option Addr) (cap : Nat) (l : List UInt8) (hr : rGRoutes W (· < W.heap.size) csr r) (hl : LB W (· < W.heap.size) a cap l) :
    Calls Try.prog 3 #[.agg csr.toArray, .slice a l.length cap] W fun e w' => e = .returned (.bool true) ∧ Keep Nix W w' := by
  have HR := Lib.hid hr
  have HLB := Lib.hid hl
  have hlr := rGRoutes_lawful.len hr
  obtain ⟨aS, cS, aC, cC, hcsr, -, -, hS, -⟩ := rGRoutes_open hr
  have HL := Lib.hid hS
  have mS : r.fSpans.length ≤ 140737488351232 := by have := (rList_len hS).2.2; have := far_len; omega
  have kk : Keep Nix W (W.alloc (.cells csr.toArray 25)) := (Keep.refl Nix W).alloc _
  have row0 : RowIs (W.alloc (.cells csr.toArray 25)) W.heap.size 25 csr := RowIs.alloc W _ _
  have HCS := Lib.hid hcsr
  clear hr hS hcsr hl
  go_enter Try.func3, Try.ntmps3
  go_wp2_with fail
  go_fit (awake_c _)
  rintro e w1 ⟨rfl, k1⟩
  replace row0 := row0.keep k1 id
  replace kk := kk.trans k1
  clear k1
  have ldR := Whole.run (P := Try.prog) S_Routes hlr row0
  go_wp2_with fail
  go_fit (small_c r csr w1 (rGRoutes_lawful.nix HR.out kk))
  rintro e w2 ⟨rfl, k1⟩
  replace row0 := row0.keep k1 id
  replace kk := kk.trans k1
  clear k1 ldR
  cases hv : decide ((r.fSpans.length : Int) < 30) with
  | false =>
    go_wp2_with fail
    go_fit (awake_c _)
    rintro e w3 ⟨rfl, k1⟩
    go_wp2_with fail
    go_ret
    exact ⟨rfl, kk.trans k1⟩
  | true =>
  have HSM := Lib.hid hv
  clear hv
  have ldR := Whole.run (P := Try.prog) S_Routes hlr row0
  go_wp2_with fail
  go_fit (Right_c r csr w2 (rGRoutes_lawful.nix HR.out kk))
  rintro e w3 ⟨rfl, k1⟩
  replace row0 := row0.keep k1 id
  replace kk := kk.trans k1
  clear k1 ldR
  cases hv : rightB r with
  | false =>
    go_wp2_with fail
    go_fit (awake_c _)
    rintro e w3 ⟨rfl, k1⟩
    go_wp2_with fail
    go_ret
    exact ⟨rfl, kk.trans k1⟩
  | true =>
  have RP := Lib.hid (rightP hv)
  have hn4 := (rightP hv).len
  have hb4 := (rightP hv).base
  clear hv HSM
  have kB : Keep Nix w3 (w3.alloc (.cells #[.int .u8 120] 5)) := (Keep.refl Nix w3).alloc _
  have rowB := RowIs.alloc w3 #[.int .u8 120] 5
  have LA : LB (w3.alloc (.cells #[.int .u8 120] 5)) ANY (some ⟨w3.heap.size, 0, none⟩) 1 (fromAt r.fSpans 0) := by rw [RP.out.first]; exact LB.row (c := 120) rowB ANY trivial
  have hf1 : Hid ((fromAt r.fSpans 0).length = 1) := by show _ = _; rw [RP.out.first]; rfl
  replace row0 := row0.keep kB id
  replace kk := kk.trans kB
  clear kB rowB
  go_wp2_with fail
  generalize hbs : W.heap.size = bs at *
  go_loopw [5, 6] (fun at' i wr => ∃ (k : Nat) (aT : Option Addr) (cT : Nat), k ≤ r.fSpans.length ∧ i = .int .i64 k ∧ at' = .slice aT (fromAt r.fSpans k).length cT ∧ LB wr ANY aT cT (fromAt r.fSpans k) ∧ RowIs wr bs 25 csr ∧ Keep Nix W wr) (fun _ i _ => r.fSpans.length - (intOf i).toNat)
  case atStart => exact ⟨0, _, _, by omega, rfl, by rw [hf1.out], LA, row0, kk⟩
  case round =>
    clear LA row0 kk
    obtain ⟨k, aT, cT, hk, rfl, rfl, LT, row0, kk⟩ := hrel
    have y2 : wr.cell? ⟨bs, 2, none⟩ = some (.slice aS r.fSpans.length cS) := by rw [row0.cell, HCS.out]; rfl
    by_cases hlt : k < r.fSpans.length
    · have hi1 : (k : Int) < (r.fSpans.length : Int) := by omega
      have hi0 : (0 : Int) ≤ (k : Int) := by omega
      have hS1 := (rList_lawful rGOwner_lawful).nix HL.out kk
      obtain ⟨b1, o1, _, _, e1, -, hbx, xr, xc⟩ := rList_at rGOwner_lawful (by decide) hS1 k hlt
      simp only [List.cons.injEq, Value.slice.injEq, and_true] at e1
      obtain ⟨rfl, -, -⟩ := e1
      have xf := fromAt_lt hlt
      obtain ⟨aF, cF, rfl, -⟩ := rGOwner_open xr
      have x0 := xc 0 _ rfl
      (try simp only [Nat.add_zero] at x0)
      have HOw := Lib.hid (RP.out.owned k hlt)
      have HLT := Lib.hid (RP.out.lt k hlt)
      go_upto_region 7 with fail
      go_cut [7] from 27 to 57 (fun s7 wx => TwoAt wr wx r.fSpans k s7)
      case first =>
        as_aux_lemma =>
        have hRc : ∀ w', Keep Nix wr w' → rGRoutes w' (· < bs) csr r := fun w' k' => rGRoutes_lawful.nix HR.out (kk.trans k')
        have HRc := Lib.hid hRc
        have hO : ∀ w', Keep Nix wr w' → (fun w' => (wholeSem 25 (.pointer (some ⟨bs, 0, none⟩))).run Try.prog w' = .ok (.value (.agg csr.toArray)) w' ∧ w'.cell? ⟨bs, 2, none⟩ = some (.slice (some ⟨b1, o1, none⟩) r.fSpans.length cS) ∧ w'.cell? ⟨b1, o1 + k * 2, none⟩ = some (.int .i64 r.fSpans[k].fGroup)) w' := fun w' k' => ⟨Whole.run S_Routes hlr (row0.keep k' id), (k'.cell (p := ⟨bs, 2, none⟩) row0.lt id).trans y2, (k'.cell (p := ⟨b1, o1 + k * 2, none⟩) hbx id).trans x0⟩
        have HO := Lib.hid hO
        have kd : Keep Nix wr wr.drew := (Keep.refl Nix wr).drew
        clear hRc hO hS1 xr xc x0 y2 LT row0 xf kk
        refine wp_region_held_drew (S := (fun w' => (wholeSem 25 (.pointer (some ⟨bs, 0, none⟩))).run Try.prog w' = .ok (.value (.agg csr.toArray)) w' ∧ w'.cell? ⟨bs, 2, none⟩ = some (.slice (some ⟨b1, o1, none⟩) r.fSpans.length cS) ∧ w'.cell? ⟨b1, o1 + k * 2, none⟩ = some (.int .i64 r.fSpans[k].fGroup))) (by kernel_rfl) ((HO.out _ kd)) (fun hHeld => ?_)
        generalize wr.drew = wd at *
        refine wpAnyH_take (i := 0) (v := ?_) rfl (by kernel_rfl) (by kernel_rfl) (by kernel_rfl) (fun _ _ _ h => h) (Or.inl ⟨by kernel_rfl, ?_⟩) hHeld ?_
        rotate_left
        · intro w' hSw
          (try dsimp only at hSw)
          (try simp only [List.getElem_toArray]); (try simp only [List.getElem_cons_succ]); (try simp only [List.getElem_cons_zero])
          go_simp
          try with_reducible rfl
        (try simp only [Act.put]); (try simp only [List.getElem_toArray]); (try simp only [List.getElem_cons_succ]); (try simp only [List.getElem_cons_zero]); (try simp only [List.setIfInBounds_toArray]); (try simp only [List.set_cons_succ]); (try simp only [List.set_cons_zero])
        refine wpAnyH_take (i := 1) (v := ?_) rfl (by kernel_rfl) (by kernel_rfl) (by kernel_rfl) (fun _ _ _ h => h) (Or.inl ⟨by kernel_rfl, ?_⟩) hHeld ?_
        rotate_left
        · intro w' hSw
          (try dsimp only at hSw)
          (try simp only [List.getElem_toArray]); (try simp only [List.getElem_cons_succ]); (try simp only [List.getElem_cons_zero])
          go_simp
          try with_reducible rfl
        (try simp only [Act.put]); (try simp only [List.getElem_toArray]); (try simp only [List.getElem_cons_succ]); (try simp only [List.getElem_cons_zero]); (try simp only [List.setIfInBounds_toArray]); (try simp only [List.set_cons_succ]); (try simp only [List.set_cons_zero])
        refine wpAnyH_take (i := 2) (v := ?_) rfl (by kernel_rfl) (by kernel_rfl) (by kernel_rfl) (fun _ _ _ h => h) (Or.inl ⟨by kernel_rfl, ?_⟩) hHeld ?_
        rotate_left
        · intro w' hSw
          (try dsimp only at hSw)
          (try simp only [List.getElem_toArray]); (try simp only [List.getElem_cons_succ]); (try simp only [List.getElem_cons_zero])
          go_simp
          try with_reducible rfl
        (try simp only [Act.put]); (try simp only [List.getElem_toArray]); (try simp only [List.getElem_cons_succ]); (try simp only [List.getElem_cons_zero]); (try simp only [List.setIfInBounds_toArray]); (try simp only [List.set_cons_succ]); (try simp only [List.set_cons_zero])
        refine wpAnyH_take (i := 3) (v := ?_) rfl (by kernel_rfl) (by kernel_rfl) (by kernel_rfl) (fun _ _ _ h => h) (Or.inl ⟨by kernel_rfl, ?_⟩) hHeld ?_
        rotate_left
        · intro w' hSw
          (try dsimp only at hSw)
          (try simp only [List.getElem_toArray]); (try simp only [List.getElem_cons_succ]); (try simp only [List.getElem_cons_zero])
          go_simp
          try with_reducible rfl
        (try simp only [Act.put]); (try simp only [List.getElem_toArray]); (try simp only [List.getElem_cons_succ]); (try simp only [List.getElem_cons_zero]); (try simp only [List.setIfInBounds_toArray]); (try simp only [List.set_cons_succ]); (try simp only [List.set_cons_zero])
        refine wpAnyH_take (i := 4) (v := ?_) rfl (by kernel_rfl) (by kernel_rfl) (by kernel_rfl) (fun _ _ _ h => h) (Or.inl ⟨by kernel_rfl, ?_⟩) hHeld ?_
        rotate_left
        · intro w' hSw
          (try dsimp only at hSw)
          (try simp only [List.getElem_toArray]); (try simp only [List.getElem_cons_succ]); (try simp only [List.getElem_cons_zero])
          go_simp
          try with_reducible rfl
        (try simp only [Act.put]); (try simp only [List.getElem_toArray]); (try simp only [List.getElem_cons_succ]); (try simp only [List.getElem_cons_zero]); (try simp only [List.setIfInBounds_toArray]); (try simp only [List.set_cons_succ]); (try simp only [List.set_cons_zero])
        refine wpAnyH_take (i := 5) (v := ?_) rfl (by kernel_rfl) (by kernel_rfl) (by kernel_rfl) (fun _ _ _ h => h) (Or.inl ⟨by kernel_rfl, ?_⟩) hHeld ?_
        rotate_left
        · intro w' hSw
          (try dsimp only at hSw)
          (try simp only [List.getElem_toArray]); (try simp only [List.getElem_cons_succ]); (try simp only [List.getElem_cons_zero])
          go_simp
          try with_reducible rfl
        (try simp only [Act.put]); (try simp only [List.getElem_toArray]); (try simp only [List.getElem_cons_succ]); (try simp only [List.getElem_cons_zero]); (try simp only [List.setIfInBounds_toArray]); (try simp only [List.set_cons_succ]); (try simp only [List.set_cons_zero])
        refine wpAnyH_take (i := 6) (v := ?_) rfl (by kernel_rfl) (by kernel_rfl) (by kernel_rfl) (fun _ _ _ h => h) (Or.inl ⟨by kernel_rfl, ?_⟩) hHeld ?_
        rotate_left
        · intro w' hSw
          (try dsimp only at hSw)
          (try simp only [List.getElem_toArray]); (try simp only [List.getElem_cons_succ]); (try simp only [List.getElem_cons_zero])
          go_simp
          try with_reducible rfl
        (try simp only [Act.put]); (try simp only [List.getElem_toArray]); (try simp only [List.getElem_cons_succ]); (try simp only [List.getElem_cons_zero]); (try simp only [List.setIfInBounds_toArray]); (try simp only [List.set_cons_succ]); (try simp only [List.set_cons_zero])
        refine wpAnyH_ready (rs := [7, 8]) (by kernel_rfl) (by simp) ?_
        refine AllReadyH.cons rfl (fun K hK => ?_) (AllReadyH.cons rfl (fun K hK => ?_) AllReadyH.nil)
        · (try have hgl := rowM.lt)
          go_simp
          go_fit (Owned_c r csr r.fSpans[k].fGroup _ (HRc.out _ kd))
          rw [HOw.out]
          rintro e w2 ⟨csx, rfl, rx, k2⟩
          obtain ⟨a1, c1, a2, c2, rfl, L1, L2, -⟩ := rGSpan_open rx
          have L1 : LB w2 (NewIn _ w2) a1 c1 (fromAt r.fSpans k) := L1
          have L2 : LB w2 (NewIn _ w2) a2 c2 (fromAt r.fSpans (k + 1)) := L2
          (try replace rowM := rowM.keep k2 id)
          replace kd := kd.trans k2
          clear k2 rx
          go_wp2_with fail
          refine hK.out _ _ ((HO.out _ kd)) (fun hHeld => ?_)
          clear hK K
          (try simp only [Act.put]); (try simp only [List.getElem_toArray]); (try simp only [List.getElem_cons_succ]); (try simp only [List.getElem_cons_zero]); (try simp only [List.setIfInBounds_toArray]); (try simp only [List.set_cons_succ]); (try simp only [List.set_cons_zero])
          refine wpAnyH_ready (rs := [8]) (by kernel_rfl) (by simp) ?_
          refine AllReadyH.cons rfl (fun K hK => ?_) AllReadyH.nil
          go_simp
          obtain ⟨rowM, kA, hgm, -⟩ := kk_alloc kd #[.slice none 0 0, .slice none 0 0] 29
          have HGM := Lib.hid hgm
          (try replace L1 := LB.keep L1 ((Keep.refl Nix _).alloc (.cells #[.slice none 0 0, .slice none 0 0] 29)))
          (try replace L2 := LB.keep L2 ((Keep.refl Nix _).alloc (.cells #[.slice none 0 0, .slice none 0 0] 29)))
          replace kd := kA
          clear kA hgm
          refine hK.out _ _ ((HO.out _ kd)) (fun hHeld => ?_)
          clear hK K
          (try simp only [Act.put]); (try simp only [List.getElem_toArray]); (try simp only [List.getElem_cons_succ]); (try simp only [List.getElem_cons_zero]); (try simp only [List.setIfInBounds_toArray]); (try simp only [List.set_cons_succ]); (try simp only [List.set_cons_zero])
          first
            | generalize w2.alloc (.cells #[.slice none 0 0, .slice none 0 0] 29) = wA at *
            | generalize wd.alloc (.cells #[.slice none 0 0, .slice none 0 0] 29) = wA at *
          refine wpAnyH_ready (rs := [9]) (by kernel_rfl) (by simp) ?_
          refine AllReadyH.cons rfl (fun K hK => ?_) AllReadyH.nil
          have q0 := rowM.cell 0
          (try simp only [List.getElem?_cons_zero] at q0)
          have q1 := rowM.cell 1
          (try simp only [List.getElem?_cons_succ] at q1); (try simp only [List.getElem?_cons_zero] at q1)
          have h0 := rowM.frozen 0
          have h1 := rowM.frozen 1
          (try simp only [List.getElem_toArray]); (try simp only [List.getElem_cons_succ]); (try simp only [List.getElem_cons_zero])
          go_simp
          clear q0 q1 h0 h1
          refine hK.out _ _ ((HO.out _ (kk_cell2 kd HGM.out _ _))) (fun hHeld => ?_)
          clear hK K
          (try simp only [Act.put]); (try simp only [List.getElem_toArray]); (try simp only [List.getElem_cons_succ]); (try simp only [List.getElem_cons_zero]); (try simp only [List.setIfInBounds_toArray]); (try simp only [List.set_cons_succ]); (try simp only [List.set_cons_zero])
          refine wpAnyH_done (by kernel_rfl) ?_ _
          clear hHeld
          go_wp2_with fail
          go_meet
          refine ⟨_, a1, c1, a2, c2, rfl, (rowM.set 0 _).set 1 _, ?_, ?_, kk_cell2 kd HGM.out _ _⟩
          · exact L1.to (keep2 _ _ _ _) (fun b hb e => by have h1 := hb.1; have h2 := hb.2; subst e; omega) (fun _ _ => trivial)
          · exact L2.to (keep2 _ _ _ _) (fun b hb e => by have h1 := hb.1; have h2 := hb.2; subst e; omega) (fun _ _ => trivial)
        · go_simp
          obtain ⟨rowM, kA, hgm, -⟩ := kk_alloc kd #[.slice none 0 0, .slice none 0 0] 29
          have HGM := Lib.hid hgm
          (try replace L1 := LB.keep L1 ((Keep.refl Nix _).alloc (.cells #[.slice none 0 0, .slice none 0 0] 29)))
          (try replace L2 := LB.keep L2 ((Keep.refl Nix _).alloc (.cells #[.slice none 0 0, .slice none 0 0] 29)))
          replace kd := kA
          clear kA hgm
          refine hK.out _ _ ((HO.out _ kd)) (fun hHeld => ?_)
          clear hK K
          (try simp only [Act.put]); (try simp only [List.getElem_toArray]); (try simp only [List.getElem_cons_succ]); (try simp only [List.getElem_cons_zero]); (try simp only [List.setIfInBounds_toArray]); (try simp only [List.set_cons_succ]); (try simp only [List.set_cons_zero])
          first
            | generalize w2.alloc (.cells #[.slice none 0 0, .slice none 0 0] 29) = wA at *
            | generalize wd.alloc (.cells #[.slice none 0 0, .slice none 0 0] 29) = wA at *
          refine wpAnyH_ready (rs := [7]) (by kernel_rfl) (by simp) ?_
          refine AllReadyH.cons rfl (fun K hK => ?_) AllReadyH.nil
          (try have hgl := rowM.lt)
          go_simp
          go_fit (Owned_c r csr r.fSpans[k].fGroup _ (HRc.out _ kd))
          rw [HOw.out]
          rintro e w2 ⟨csx, rfl, rx, k2⟩
          obtain ⟨a1, c1, a2, c2, rfl, L1, L2, -⟩ := rGSpan_open rx
          have L1 : LB w2 (NewIn _ w2) a1 c1 (fromAt r.fSpans k) := L1
          have L2 : LB w2 (NewIn _ w2) a2 c2 (fromAt r.fSpans (k + 1)) := L2
          (try replace rowM := rowM.keep k2 id)
          replace kd := kd.trans k2
          clear k2 rx
          go_wp2_with fail
          refine hK.out _ _ ((HO.out _ kd)) (fun hHeld => ?_)
          clear hK K
          (try simp only [Act.put]); (try simp only [List.getElem_toArray]); (try simp only [List.getElem_cons_succ]); (try simp only [List.getElem_cons_zero]); (try simp only [List.setIfInBounds_toArray]); (try simp only [List.set_cons_succ]); (try simp only [List.set_cons_zero])
          refine wpAnyH_ready (rs := [9]) (by kernel_rfl) (by simp) ?_
          refine AllReadyH.cons rfl (fun K hK => ?_) AllReadyH.nil
          have q0 := rowM.cell 0
          (try simp only [List.getElem?_cons_zero] at q0)
          have q1 := rowM.cell 1
          (try simp only [List.getElem?_cons_succ] at q1); (try simp only [List.getElem?_cons_zero] at q1)
          have h0 := rowM.frozen 0
          have h1 := rowM.frozen 1
          (try simp only [List.getElem_toArray]); (try simp only [List.getElem_cons_succ]); (try simp only [List.getElem_cons_zero])
          go_simp
          clear q0 q1 h0 h1
          refine hK.out _ _ ((HO.out _ (kk_cell2 kd HGM.out _ _))) (fun hHeld => ?_)
          clear hK K
          (try simp only [Act.put]); (try simp only [List.getElem_toArray]); (try simp only [List.getElem_cons_succ]); (try simp only [List.getElem_cons_zero]); (try simp only [List.setIfInBounds_toArray]); (try simp only [List.set_cons_succ]); (try simp only [List.set_cons_zero])
          refine wpAnyH_done (by kernel_rfl) ?_ _
          clear hHeld
          go_wp2_with fail
          go_meet
          refine ⟨_, a1, c1, a2, c2, rfl, (rowM.set 0 _).set 1 _, ?_, ?_, kk_cell2 kd HGM.out _ _⟩
          · exact L1.to (keep2 _ _ _ _) (fun b hb e => by have h1 := hb.1; have h2 := hb.2; subst e; omega) (fun _ _ => trivial)
          · exact L2.to (keep2 _ _ _ _) (fun b hb e => by have h1 := hb.1; have h2 := hb.2; subst e; omega) (fun _ _ => trivial)
      case rest =>
      obtain ⟨bt, a1, c1, a2, c2, rfl, rowT, L1, L2, kd⟩ := hcut
      replace row0 := row0.keep kd id
      replace kk := kk.trans kd
      replace LT := LT.keep kd
      clear kd y2 x0 xc xr hS1 xf HOw
      have z0 := rowT.cell 0
      (try simp only [List.getElem?_cons_zero] at z0)
      have z1 := rowT.cell 1
      (try simp only [List.getElem?_cons_succ] at z1); (try simp only [List.getElem?_cons_zero] at z1)
      have hcall := bytes_c a1 aT (fromAt r.fSpans k).length c1 (fromAt r.fSpans k).length cT (fromAt r.fSpans k) (fromAt r.fSpans k) wc rfl rfl L1.1 LT.1
      rw [decide_eq_true rfl] at hcall
      have v1 := conv_bytes (P := Try.prog) Try.underlying23 Try.underlying5 Try.underlying9 (cap := c1) rfl L1.1
      have v2 := conv_bytes (P := Try.prog) Try.underlying23 Try.underlying5 Try.underlying9 (cap := c2) rfl L2.1
      have t1 : Op.bytesLess (strB (fromAt r.fSpans (k + 1))).toList (strB (fromAt r.fSpans k)).toList = false := by rw [strB_toList, strB_toList]; exact ltB_asymm HLT.out
      have t2 : ((strB (fromAt r.fSpans (k + 1))).toList == (strB (fromAt r.fSpans k)).toList) = false := by
        rw [strB_eq]
        exact decide_eq_false (fun e => by have := HLT.out; rw [e, ltB_irrefl] at this; cases this)
      clear L1 LT rowT
      go_wp2_with fail
      go_fit hcall
      rintro e w' ⟨rfl, rfl⟩
      clear hcall
      go_wp2_with fail
      go_roundw
      case rel => exact ⟨k + 1, a2, c2, by omega, by go_num, rfl, L2, row0, kk⟩
      case measure => simp [intOf]; omega
    · obtain rfl : k = r.fSpans.length := by omega
      have hz : fromAt r.fSpans r.fSpans.length = [121] := fromAt_ge (Nat.le_refl _)
      rw [hz] at LT
      have hl1 : Hid ((fromAt r.fSpans r.fSpans.length).length = 1) := by show _ = _; rw [hz]; rfl
      rw [hl1.out]
      clear hz
      obtain ⟨bx, cx, hbx⟩ : ∃ bx cx, Hid (LB wr ANY aT cT [121]) ∧ bx = wr.heap.size ∧ cx = wr := ⟨_, _, LT, rfl, rfl⟩
      obtain ⟨HLT, rfl, rfl⟩ := hbx
      clear LT
      have k1 := fun (w : World) (o : Obj) => (Keep.refl Nix w).alloc o
      have kC : Keep Nix cx (((cx.alloc (.cells #[.int .u8 114] 5)).alloc (.cells #[.int .u8 115] 5)).alloc (.cells #[.slice (some ⟨cx.heap.size, 0, none⟩) 1 1, .slice (some ⟨cx.heap.size + 1, 0, none⟩) 1 1] 29)) := ((k1 _ _).trans (k1 _ _)).trans (k1 _ _)
      have rA := LB.row (c := 114) (((RowIs.alloc cx #[.int .u8 114] 5).keep (k1 _ (.cells #[.int .u8 115] 5)) id).keep (k1 _ (.cells #[.slice (some ⟨cx.heap.size, 0, none⟩) 1 1, .slice (some ⟨cx.heap.size + 1, 0, none⟩) 1 1] 29)) id) ANY trivial
      have rB : RowIs (((cx.alloc (.cells #[.int .u8 114] 5)).alloc (.cells #[.int .u8 115] 5)).alloc (.cells #[.slice (some ⟨cx.heap.size, 0, none⟩) 1 1, .slice (some ⟨cx.heap.size + 1, 0, none⟩) 1 1] 29)) (cx.heap.size + 1) 5 [.int .u8 115] := by
        have h := (RowIs.alloc (cx.alloc (.cells #[.int .u8 114] 5)) #[.int .u8 115] 5).keep (k1 _ (.cells #[.slice (some ⟨cx.heap.size, 0, none⟩) 1 1, .slice (some ⟨cx.heap.size + 1, 0, none⟩) 1 1] 29)) id
        simpa using h
      have row8 : RowIs (((cx.alloc (.cells #[.int .u8 114] 5)).alloc (.cells #[.int .u8 115] 5)).alloc (.cells #[.slice (some ⟨cx.heap.size, 0, none⟩) 1 1, .slice (some ⟨cx.heap.size + 1, 0, none⟩) 1 1] 29)) (cx.heap.size + 1 + 1) 29 [.slice (some ⟨cx.heap.size, 0, none⟩) 1 1, .slice (some ⟨cx.heap.size + 1, 0, none⟩) 1 1] := by
        have h := RowIs.alloc ((cx.alloc (.cells #[.int .u8 114] 5)).alloc (.cells #[.int .u8 115] 5)) #[.slice (some ⟨cx.heap.size, 0, none⟩) 1 1, .slice (some ⟨cx.heap.size + 1, 0, none⟩) 1 1] 29
        simpa using h
      have G8 : rGSpan (((cx.alloc (.cells #[.int .u8 114] 5)).alloc (.cells #[.int .u8 115] 5)).alloc (.cells #[.slice (some ⟨cx.heap.size, 0, none⟩) 1 1, .slice (some ⟨cx.heap.size + 1, 0, none⟩) 1 1] 29)) ANY [.slice (some ⟨cx.heap.size, 0, none⟩) 1 1, .slice (some ⟨cx.heap.size + 1, 0, none⟩) 1 1] ⟨[114], [115]⟩ := mkS rA (LB.row (c := 115) rB ANY trivial)
      replace row0 := row0.keep kC id
      replace kk := kk.trans kC
      have HLT2 : Hid (LB (((cx.alloc (.cells #[.int .u8 114] 5)).alloc (.cells #[.int .u8 115] 5)).alloc (.cells #[.slice (some ⟨cx.heap.size, 0, none⟩) 1 1, .slice (some ⟨cx.heap.size + 1, 0, none⟩) 1 1] 29)) ANY aT cT [121]) := LB.keep HLT.out kC
      clear rA rB k1 kC HLT
      go_wp2_with fail
      generalize (((cx.alloc (.cells #[.int .u8 114] 5)).alloc (.cells #[.int .u8 115] 5)).alloc (.cells #[.slice (some ⟨cx.heap.size, 0, none⟩) 1 1, .slice (some ⟨cx.heap.size + 1, 0, none⟩) 1 1] 29)) = wc at *
      generalize hb0 : cx.heap.size = b0 at *
      obtain ⟨nb, hnb⟩ : ∃ nb : Nat, r.fBase = (nb : Int) := ⟨r.fBase.toNat, by omega⟩
      have HNB := Lib.hid hnb
      go_loopw [9] (fun g wr => ∃ j : Nat, 1 ≤ j ∧ j ≤ nb + 1 ∧ g = .int .i64 j ∧ LB wr ANY aT cT [121] ∧ RowIs wr bs 25 csr ∧ RowIs wr (b0 + 1 + 1) 29 [.slice (some ⟨b0, 0, none⟩) 1 1, .slice (some ⟨b0 + 1, 0, none⟩) 1 1] ∧ rGSpan wr ANY [.slice (some ⟨b0, 0, none⟩) 1 1, .slice (some ⟨b0 + 1, 0, none⟩) 1 1] ⟨[114], [115]⟩ ∧ Keep Nix W wr) (fun g _ => nb + 1 - (intOf g).toNat)
      case atStart => exact ⟨1, by omega, by omega, rfl, HLT2.out, row0, row8, G8, kk⟩
      case round =>
        clear HLT2 row0 row8 G8 kk
        obtain ⟨j, hj1, hj2, rfl, LT, row0, row8, G8, kk⟩ := hrel
        have y1 : wr.cell? ⟨bs, 1, none⟩ = some (.int .i64 r.fBase) := by rw [row0.cell, HCS.out]; rfl
        have q0 := row8.cell 0
        (try simp only [List.getElem?_cons_zero] at q0)
        have q1 := row8.cell 1
        (try simp only [List.getElem?_cons_succ] at q1); (try simp only [List.getElem?_cons_zero] at q1)
        have ldR := Whole.run (P := Try.prog) S_Routes hlr row0
        by_cases hlt : j ≤ nb
        · have hi1 : (j : Int) ≤ r.fBase := by omega
          have hi0 : (1 : Int) ≤ (j : Int) := by omega
          have HP := Lib.hid (part_base (r := r) (g := (j : Int)) ⟨hi0, hi1⟩)
          have hj4 : j ≤ 4 := by omega
          clear hnb
          go_wp2_with fail
          go_fit (Part_c r csr (j : Int) ⟨[], []⟩ [.slice none 0 0, .slice none 0 0] wr (rGRoutes_lawful.nix HR.out kk) (mkS0 wr ANY))
          rw [HP.out]
          rintro e w4 ⟨csx, rfl, rx, k1⟩
          obtain ⟨a1, c1, a2, c2, rfl, -⟩ := rGSpan_open rx
          have kF : Keep Nix w4 (w4.alloc (.cells #[.slice a1 1 c1, .slice a2 1 c2] 29)) := (Keep.refl Nix w4).alloc _
          have GX : rGSpan (w4.alloc (.cells #[.slice a1 1 c1, .slice a2 1 c2] 29)) _ [.slice a1 1 c1, .slice a2 1 c2] ⟨[114], [115]⟩ := rGSpan_lawful.nix rx kF
          have k2 := k1.trans kF
          replace LT := LT.keep k2
          replace row0 := row0.keep k2 id
          replace row8 := row8.keep k2 id
          replace G8 := rGSpan_lawful.nix G8 k2
          replace kk := kk.trans k2
          clear rx k1 k2 kF q0 q1 y1 ldR
          have q0 := row8.cell 0
          (try simp only [List.getElem?_cons_zero] at q0)
          have q1 := row8.cell 1
          (try simp only [List.getElem?_cons_succ] at q1); (try simp only [List.getElem?_cons_zero] at q1)
          have hcall := sameS_c ⟨[114], [115]⟩ ⟨[114], [115]⟩ _ _ _ GX G8
          go_wp2_with fail
          go_fit hcall
          rintro e w5 ⟨rfl, k3⟩
          replace LT := LT.keep k3
          replace row0 := row0.keep k3 id
          replace row8 := row8.keep k3 id
          replace G8 := rGSpan_lawful.nix G8 k3
          replace kk := kk.trans k3
          clear hcall GX q0 q1
          go_wp2_with fail
          go_roundw
          case rel => exact ⟨j + 1, by omega, by omega, by go_num, LT, row0, row8, G8, kk⟩
          case measure => simp [intOf]; omega
        · obtain rfl : j = nb + 1 := by omega
          have hi1 : r.fBase < ((nb + 1 : Nat) : Int) := by omega
          clear hnb
          go_wp2_with fail
          go_fit (Base_c r csr a cap l wr (rGRoutes_lawful.nix HR.out kk) hb4 (HLB.out.keep kk))
          have hy := baseF_in hb4 l
          generalize baseF r.fBase l = y at hy
          obtain ⟨hy1, hy2⟩ := hy
          rintro e w4 ⟨rfl, k1⟩
          replace LT := LT.keep k1
          replace row0 := row0.keep k1 id
          replace row8 := row8.keep k1 id
          replace G8 := rGSpan_lawful.nix G8 k1
          replace kk := kk.trans k1
          clear k1 ldR q0 q1 y1
          go_upto_region 19 with fail
          have hm := RP.out.over_all_len
          obtain ⟨M, hM⟩ : ∃ M, overF r (allF 114) = M := ⟨_, rfl⟩
          have HM := Lib.hid hM
          rw [hM] at hm
          have hme : ((M.length : Int) == r.fBase) = true := by simpa using hm
          have hO : ∀ w', Keep Nix w4 w' → (fun w' => (wholeSem 25 (.pointer (some ⟨bs, 0, none⟩))).run Try.prog w' = .ok (.value (.agg csr.toArray)) w' ∧ w'.cell? ⟨bs, 1, none⟩ = some (.int .i64 r.fBase) ∧ w'.cell? ⟨b0 + 1 + 1, 0, none⟩ = some (.slice (some ⟨b0, 0, none⟩) 1 1) ∧ w'.cell? ⟨b0 + 1 + 1, 1, none⟩ = some (.slice (some ⟨b0 + 1, 0, none⟩) 1 1)) w' := fun w' k' => ⟨Whole.run S_Routes hlr (row0.keep k' id), by rw [(row0.keep k' id).cell, HCS.out]; rfl, (row8.keep k' id).cell 0, (row8.keep k' id).cell 1⟩
          have HO := Lib.hid hO
          have kd : Keep Nix w4 w4.drew := (Keep.refl Nix w4).drew
          clear hO hm hM hi1 row0 row8
          refine wp_region_held_drew (S := (fun w' => (wholeSem 25 (.pointer (some ⟨bs, 0, none⟩))).run Try.prog w' = .ok (.value (.agg csr.toArray)) w' ∧ w'.cell? ⟨bs, 1, none⟩ = some (.int .i64 r.fBase) ∧ w'.cell? ⟨b0 + 1 + 1, 0, none⟩ = some (.slice (some ⟨b0, 0, none⟩) 1 1) ∧ w'.cell? ⟨b0 + 1 + 1, 1, none⟩ = some (.slice (some ⟨b0 + 1, 0, none⟩) 1 1))) (by kernel_rfl) ((HO.out _ kd)) (fun hHeld => ?_)
          generalize w4.drew = wd at *
          refine wpAnyH_take (i := 0) (v := ?_) rfl (by kernel_rfl) (by kernel_rfl) (by kernel_rfl) (fun _ _ _ h => h) (Or.inl ⟨by kernel_rfl, ?_⟩) hHeld ?_
          rotate_left
          · intro w' hSw
            (try dsimp only at hSw)
            (try simp only [List.getElem_toArray]); (try simp only [List.getElem_cons_succ]); (try simp only [List.getElem_cons_zero])
            go_simp
            try with_reducible rfl
          (try simp only [Act.put]); (try simp only [List.getElem_toArray]); (try simp only [List.getElem_cons_succ]); (try simp only [List.getElem_cons_zero]); (try simp only [List.setIfInBounds_toArray]); (try simp only [List.set_cons_succ]); (try simp only [List.set_cons_zero])
          refine wpAnyH_ready (rs := [1]) (by kernel_rfl) (by simp) ?_
          refine AllReadyH.cons rfl (fun K hK => ?_) AllReadyH.nil
          go_simp
          have rowL := RowIs.alloc wd #[.int .u8 121] 5
          have LX := LB.row (c := 121) rowL ANY trivial
          have kA : Keep Nix wd (wd.alloc (.cells #[.int .u8 121] 5)) := (Keep.refl Nix wd).alloc _
          replace kd := kd.trans kA
          refine hK.out _ _ ((HO.out _ kd)) (fun hHeld => ?_)
          clear hK K
          (try simp only [Act.put]); (try simp only [List.getElem_toArray]); (try simp only [List.getElem_cons_succ]); (try simp only [List.getElem_cons_zero]); (try simp only [List.setIfInBounds_toArray]); (try simp only [List.set_cons_succ]); (try simp only [List.set_cons_zero])
          refine wpAnyH_ready (rs := [2]) (by kernel_rfl) (by simp) ?_
          refine AllReadyH.cons rfl (fun K hK => ?_) AllReadyH.nil
          go_simp
          go_fit (bytes_c aT (some ⟨wd.heap.size, 0, none⟩) 1 cT 1 1 [121] [121] _ rfl rfl (LT.keep kd).1 LX.1)
          rw [decide_eq_true rfl]
          rintro e w5 ⟨rfl, hw5⟩
          rw [hw5] at kd
          clear hw5 LX rowL kA
          go_wp2_with fail
          refine hK.out _ _ ((HO.out _ kd)) (fun hHeld => ?_)
          clear hK K
          (try simp only [Act.put]); (try simp only [List.getElem_toArray]); (try simp only [List.getElem_cons_succ]); (try simp only [List.getElem_cons_zero]); (try simp only [List.setIfInBounds_toArray]); (try simp only [List.set_cons_succ]); (try simp only [List.set_cons_zero])
          refine wpAnyH_take (i := 3) (v := ?_) rfl (by kernel_rfl) (by kernel_rfl) (by kernel_rfl) (fun _ _ _ h => h) (Or.inl ⟨by kernel_rfl, ?_⟩) hHeld ?_
          rotate_left
          · intro w' hSw
            (try dsimp only at hSw)
            (try simp only [List.getElem_toArray]); (try simp only [List.getElem_cons_succ]); (try simp only [List.getElem_cons_zero])
            go_simp
            try with_reducible rfl
          (try simp only [Act.put]); (try simp only [List.getElem_toArray]); (try simp only [List.getElem_cons_succ]); (try simp only [List.getElem_cons_zero]); (try simp only [List.setIfInBounds_toArray]); (try simp only [List.set_cons_succ]); (try simp only [List.set_cons_zero])
          refine wpAnyH_take (i := 4) (v := ?_) rfl (by kernel_rfl) (by kernel_rfl) (by kernel_rfl) (fun _ _ _ h => h) (Or.inl ⟨by kernel_rfl, ?_⟩) hHeld ?_
          rotate_left
          · intro w' hSw
            (try dsimp only at hSw)
            (try simp only [List.getElem_toArray]); (try simp only [List.getElem_cons_succ]); (try simp only [List.getElem_cons_zero])
            go_simp
            try with_reducible rfl
          (try simp only [Act.put]); (try simp only [List.getElem_toArray]); (try simp only [List.getElem_cons_succ]); (try simp only [List.getElem_cons_zero]); (try simp only [List.setIfInBounds_toArray]); (try simp only [List.set_cons_succ]); (try simp only [List.set_cons_zero])
          refine wpAnyH_take (i := 5) (v := ?_) rfl (by kernel_rfl) (by kernel_rfl) (by kernel_rfl) (fun _ _ _ h => h) (Or.inl ⟨by kernel_rfl, ?_⟩) hHeld ?_
          rotate_left
          · intro w' hSw
            (try dsimp only at hSw)
            (try simp only [List.getElem_toArray]); (try simp only [List.getElem_cons_succ]); (try simp only [List.getElem_cons_zero])
            go_simp
            try with_reducible rfl
          (try simp only [Act.put]); (try simp only [List.getElem_toArray]); (try simp only [List.getElem_cons_succ]); (try simp only [List.getElem_cons_zero]); (try simp only [List.setIfInBounds_toArray]); (try simp only [List.set_cons_succ]); (try simp only [List.set_cons_zero])
          refine wpAnyH_take (i := 6) (v := ?_) rfl (by kernel_rfl) (by kernel_rfl) (by kernel_rfl) (fun _ _ _ h => h) (Or.inl ⟨by kernel_rfl, ?_⟩) hHeld ?_
          rotate_left
          · intro w' hSw
            (try dsimp only at hSw)
            (try simp only [List.getElem_toArray]); (try simp only [List.getElem_cons_succ]); (try simp only [List.getElem_cons_zero])
            go_simp
            try with_reducible rfl
          (try simp only [Act.put]); (try simp only [List.getElem_toArray]); (try simp only [List.getElem_cons_succ]); (try simp only [List.getElem_cons_zero]); (try simp only [List.setIfInBounds_toArray]); (try simp only [List.set_cons_succ]); (try simp only [List.set_cons_zero])
          refine wpAnyH_take (i := 7) (v := ?_) rfl (by kernel_rfl) (by kernel_rfl) (by kernel_rfl) (fun _ _ _ h => h) (Or.inl ⟨by kernel_rfl, ?_⟩) hHeld ?_
          rotate_left
          · intro w' hSw
            (try dsimp only at hSw)
            (try simp only [List.getElem_toArray]); (try simp only [List.getElem_cons_succ]); (try simp only [List.getElem_cons_zero])
            go_simp
            try with_reducible rfl
          (try simp only [Act.put]); (try simp only [List.getElem_toArray]); (try simp only [List.getElem_cons_succ]); (try simp only [List.getElem_cons_zero]); (try simp only [List.setIfInBounds_toArray]); (try simp only [List.set_cons_succ]); (try simp only [List.set_cons_zero])
          refine wpAnyH_take (i := 8) (v := ?_) rfl (by kernel_rfl) (by kernel_rfl) (by kernel_rfl) (fun _ _ _ h => h) (Or.inl ⟨by kernel_rfl, ?_⟩) hHeld ?_
          rotate_left
          · intro w' hSw
            (try dsimp only at hSw)
            (try simp only [List.getElem_toArray]); (try simp only [List.getElem_cons_succ]); (try simp only [List.getElem_cons_zero])
            go_simp
            try with_reducible rfl
          (try simp only [Act.put]); (try simp only [List.getElem_toArray]); (try simp only [List.getElem_cons_succ]); (try simp only [List.getElem_cons_zero]); (try simp only [List.setIfInBounds_toArray]); (try simp only [List.set_cons_succ]); (try simp only [List.set_cons_zero])
          refine wpAnyH_take (i := 9) (v := ?_) rfl (by kernel_rfl) (by kernel_rfl) (by kernel_rfl) (fun _ _ _ h => h) (Or.inl ⟨by kernel_rfl, ?_⟩) hHeld ?_
          rotate_left
          · intro w' hSw
            (try dsimp only at hSw)
            (try simp only [List.getElem_toArray]); (try simp only [List.getElem_cons_succ]); (try simp only [List.getElem_cons_zero])
            go_simp
            try with_reducible rfl
          (try simp only [Act.put]); (try simp only [List.getElem_toArray]); (try simp only [List.getElem_cons_succ]); (try simp only [List.getElem_cons_zero]); (try simp only [List.setIfInBounds_toArray]); (try simp only [List.set_cons_succ]); (try simp only [List.set_cons_zero])
          refine wpAnyH_take (i := 10) (v := ?_) rfl (by kernel_rfl) (by kernel_rfl) (by kernel_rfl) (fun _ _ _ h => h) (Or.inl ⟨by kernel_rfl, ?_⟩) hHeld ?_
          rotate_left
          · intro w' hSw
            (try dsimp only at hSw)
            (try simp only [List.getElem_toArray]); (try simp only [List.getElem_cons_succ]); (try simp only [List.getElem_cons_zero])
            go_simp
            try with_reducible rfl
          (try simp only [Act.put]); (try simp only [List.getElem_toArray]); (try simp only [List.getElem_cons_succ]); (try simp only [List.getElem_cons_zero]); (try simp only [List.setIfInBounds_toArray]); (try simp only [List.set_cons_succ]); (try simp only [List.set_cons_zero])
          refine wpAnyH_take (i := 11) (v := ?_) rfl (by kernel_rfl) (by kernel_rfl) (by kernel_rfl) (fun _ _ _ h => h) (Or.inl ⟨by kernel_rfl, ?_⟩) hHeld ?_
          rotate_left
          · intro w' hSw
            (try dsimp only at hSw)
            (try simp only [List.getElem_toArray]); (try simp only [List.getElem_cons_succ]); (try simp only [List.getElem_cons_zero])
            go_simp
            try with_reducible rfl
          (try simp only [Act.put]); (try simp only [List.getElem_toArray]); (try simp only [List.getElem_cons_succ]); (try simp only [List.getElem_cons_zero]); (try simp only [List.setIfInBounds_toArray]); (try simp only [List.set_cons_succ]); (try simp only [List.set_cons_zero])
          refine wpAnyH_take (i := 12) (v := ?_) rfl (by kernel_rfl) (by kernel_rfl) (by kernel_rfl) (fun _ _ _ h => h) (Or.inl ⟨by kernel_rfl, ?_⟩) hHeld ?_
          rotate_left
          · intro w' hSw
            (try dsimp only at hSw)
            (try simp only [List.getElem_toArray]); (try simp only [List.getElem_cons_succ]); (try simp only [List.getElem_cons_zero])
            go_simp
            try with_reducible rfl
          (try simp only [Act.put]); (try simp only [List.getElem_toArray]); (try simp only [List.getElem_cons_succ]); (try simp only [List.getElem_cons_zero]); (try simp only [List.setIfInBounds_toArray]); (try simp only [List.set_cons_succ]); (try simp only [List.set_cons_zero])
          refine wpAnyH_take (i := 13) (v := ?_) rfl (by kernel_rfl) (by kernel_rfl) (by kernel_rfl) (fun _ _ _ h => h) (Or.inl ⟨by kernel_rfl, ?_⟩) hHeld ?_
          rotate_left
          · intro w' hSw
            (try dsimp only at hSw)
            (try simp only [List.getElem_toArray]); (try simp only [List.getElem_cons_succ]); (try simp only [List.getElem_cons_zero])
            go_simp
            try with_reducible rfl
          (try simp only [Act.put]); (try simp only [List.getElem_toArray]); (try simp only [List.getElem_cons_succ]); (try simp only [List.getElem_cons_zero]); (try simp only [List.setIfInBounds_toArray]); (try simp only [List.set_cons_succ]); (try simp only [List.set_cons_zero])
          refine wpAnyH_take (i := 14) (v := ?_) rfl (by kernel_rfl) (by kernel_rfl) (by kernel_rfl) (fun _ _ _ h => h) (Or.inl ⟨by kernel_rfl, ?_⟩) hHeld ?_
          rotate_left
          · intro w' hSw
            (try dsimp only at hSw)
            (try simp only [List.getElem_toArray]); (try simp only [List.getElem_cons_succ]); (try simp only [List.getElem_cons_zero])
            go_simp
            try with_reducible rfl
          (try simp only [Act.put]); (try simp only [List.getElem_toArray]); (try simp only [List.getElem_cons_succ]); (try simp only [List.getElem_cons_zero]); (try simp only [List.setIfInBounds_toArray]); (try simp only [List.set_cons_succ]); (try simp only [List.set_cons_zero])
          refine wpAnyH_take (i := 15) (v := ?_) rfl (by kernel_rfl) (by kernel_rfl) (by kernel_rfl) (fun _ _ _ h => h) (Or.inl ⟨by kernel_rfl, ?_⟩) hHeld ?_
          rotate_left
          · intro w' hSw
            (try dsimp only at hSw)
            (try simp only [List.getElem_toArray]); (try simp only [List.getElem_cons_succ]); (try simp only [List.getElem_cons_zero])
            go_simp
            try with_reducible rfl
          (try simp only [Act.put]); (try simp only [List.getElem_toArray]); (try simp only [List.getElem_cons_succ]); (try simp only [List.getElem_cons_zero]); (try simp only [List.setIfInBounds_toArray]); (try simp only [List.set_cons_succ]); (try simp only [List.set_cons_zero])
          refine wpAnyH_take (i := 18) (v := ?_) rfl (by kernel_rfl) (by kernel_rfl) (by kernel_rfl) (fun _ _ _ h => h) (Or.inl ⟨by kernel_rfl, ?_⟩) hHeld ?_
          rotate_left
          · intro w' hSw
            (try dsimp only at hSw)
            (try simp only [List.getElem_toArray]); (try simp only [List.getElem_cons_succ]); (try simp only [List.getElem_cons_zero])
            go_simp
            try with_reducible rfl
          (try simp only [Act.put]); (try simp only [List.getElem_toArray]); (try simp only [List.getElem_cons_succ]); (try simp only [List.getElem_cons_zero]); (try simp only [List.setIfInBounds_toArray]); (try simp only [List.set_cons_succ]); (try simp only [List.set_cons_zero])
          refine wpAnyH_take (i := 19) (v := ?_) rfl (by kernel_rfl) (by kernel_rfl) (by kernel_rfl) (fun _ _ _ h => h) (Or.inl ⟨by kernel_rfl, ?_⟩) hHeld ?_
          rotate_left
          · intro w' hSw
            (try dsimp only at hSw)
            (try simp only [List.getElem_toArray]); (try simp only [List.getElem_cons_succ]); (try simp only [List.getElem_cons_zero])
            go_simp
            try with_reducible rfl
          (try simp only [Act.put]); (try simp only [List.getElem_toArray]); (try simp only [List.getElem_cons_succ]); (try simp only [List.getElem_cons_zero]); (try simp only [List.setIfInBounds_toArray]); (try simp only [List.set_cons_succ]); (try simp only [List.set_cons_zero])
          refine wpAnyH_ready (rs := [16]) (by kernel_rfl) (by simp) ?_
          refine AllReadyH.cons rfl (fun K hK => ?_) AllReadyH.nil
          rw [if_pos (by kernel_rfl)]
          go_simp
          go_fit (Over_c r csr (allF 114) [.slice (some ⟨b0, 0, none⟩) 1 1, .slice (some ⟨b0 + 1, 0, none⟩) 1 1] w5 (rGRoutes_lawful.nix HR.out (kk.trans kd)) (rGSpan_lawful.nix (show rGSpan w4 ANY [.slice (some ⟨b0, 0, none⟩) 1 1, .slice (some ⟨b0 + 1, 0, none⟩) 1 1] (allF 114) from G8) kd) hb4 hn4.2)
          rw [HM.out]
          rintro e w6 ⟨av, cv, rfl, -, k6⟩
          replace kd := kd.trans k6
          clear k6
          go_wp2_with fail
          refine hK.out _ _ ((HO.out _ kd)) (fun hHeld => ?_)
          clear hK K
          (try simp only [Act.put]); (try simp only [List.getElem_toArray]); (try simp only [List.getElem_cons_succ]); (try simp only [List.getElem_cons_zero]); (try simp only [List.setIfInBounds_toArray]); (try simp only [List.set_cons_succ]); (try simp only [List.set_cons_zero])
          refine wpAnyH_take (i := 17) (v := ?_) rfl (by kernel_rfl) (by kernel_rfl) (by kernel_rfl) (fun _ _ _ h => h) (Or.inl ⟨by kernel_rfl, ?_⟩) hHeld ?_
          rotate_left
          · intro w' hSw
            (try dsimp only at hSw)
            (try simp only [List.getElem_toArray]); (try simp only [List.getElem_cons_succ]); (try simp only [List.getElem_cons_zero])
            go_simp
            try with_reducible rfl
          (try simp only [Act.put]); (try simp only [List.getElem_toArray]); (try simp only [List.getElem_cons_succ]); (try simp only [List.getElem_cons_zero]); (try simp only [List.setIfInBounds_toArray]); (try simp only [List.set_cons_succ]); (try simp only [List.set_cons_zero])
          refine wpAnyH_take (i := 20) (v := ?_) rfl (by kernel_rfl) (by kernel_rfl) (by kernel_rfl) (fun _ _ _ h => h) (Or.inl ⟨by kernel_rfl, ?_⟩) hHeld ?_
          rotate_left
          · intro w' hSw
            (try dsimp only at hSw)
            (try simp only [List.getElem_toArray]); (try simp only [List.getElem_cons_succ]); (try simp only [List.getElem_cons_zero])
            go_simp
            try with_reducible rfl
          (try simp only [Act.put]); (try simp only [List.getElem_toArray]); (try simp only [List.getElem_cons_succ]); (try simp only [List.getElem_cons_zero]); (try simp only [List.setIfInBounds_toArray]); (try simp only [List.set_cons_succ]); (try simp only [List.set_cons_zero])
          refine wpAnyH_take (i := 21) (v := ?_) rfl (by kernel_rfl) (by kernel_rfl) (by kernel_rfl) (fun _ _ _ h => h) (Or.inl ⟨by kernel_rfl, ?_⟩) hHeld ?_
          rotate_left
          · intro w' hSw
            (try dsimp only at hSw)
            (try simp only [List.getElem_toArray]); (try simp only [List.getElem_cons_succ]); (try simp only [List.getElem_cons_zero])
            go_simp
            try with_reducible rfl
          (try simp only [Act.put]); (try simp only [List.getElem_toArray]); (try simp only [List.getElem_cons_succ]); (try simp only [List.getElem_cons_zero]); (try simp only [List.setIfInBounds_toArray]); (try simp only [List.set_cons_succ]); (try simp only [List.set_cons_zero])
          refine wpAnyH_take (i := 22) (v := ?_) rfl (by kernel_rfl) (by kernel_rfl) (by kernel_rfl) (fun _ _ _ h => h) (Or.inl ⟨by kernel_rfl, ?_⟩) hHeld ?_
          rotate_left
          · intro w' hSw
            (try dsimp only at hSw)
            (try simp only [List.getElem_toArray]); (try simp only [List.getElem_cons_succ]); (try simp only [List.getElem_cons_zero])
            go_simp
            try with_reducible rfl
          (try simp only [Act.put]); (try simp only [List.getElem_toArray]); (try simp only [List.getElem_cons_succ]); (try simp only [List.getElem_cons_zero]); (try simp only [List.setIfInBounds_toArray]); (try simp only [List.set_cons_succ]); (try simp only [List.set_cons_zero])
          refine wpAnyH_done (by kernel_rfl) ?_ _
          clear hHeld
          go_wp2_with fail
          go_ret
          exact ⟨rfl, kk.trans kd⟩
end
namespace routeAll
theorem walk {m0 m1 : Nat} (W : World) (v0 v1 : Value) (h0 : Arg Try.prog W m0 25 v0) (h1 : Arg Try.prog W m1 23 v1) :
    Calls Try.prog 3 #[v0, v1] W fun e w' => e = .returned (.bool true) ∧ Keep Nix W w' := by
  obtain ⟨csr, r, rfl, hr⟩ := routes_arg h0
  obtain ⟨a, cap, l, rfl, hl⟩ := bytes_arg h1
  exact all_walk W r csr a cap l hr hl
end routeAll
end Go.Proofs.Ytpblmaklbnpbfaa
