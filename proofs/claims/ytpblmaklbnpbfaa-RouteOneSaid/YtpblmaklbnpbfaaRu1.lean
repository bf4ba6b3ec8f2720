/- THE LAW RouteOne, walked. Printed by genRu1.py and mac.py. -/
import Derived.Test.YtpblmaklbnpbfaaRu0
import Derived.Laws.Cover1
namespace Go.Proofs.Ytpblmaklbnpbfaa
open Go.RowKit

theorem over_len {r : GRoutes} (R : RightP r) (s : GSpan) : (overF r s).length ≤ 8 := by
  unfold overF
  rw [List.length_mergeSort, List.length_append]
  have h1 := entL_len r s r.fSpans
  have h2 := R.len
  have h3 : (rowsL r s).length ≤ 4 := by
    have := R.base
    unfold rowsL
    split
    · rw [baseL_len]; omega
    · simp
  omega
section
attribute [local go_sem ↓] ldz_Routes
set_option maxRecDepth 100000 in
set_option maxHeartbeats 16000000 in
theorem one_walk (W : World) (r : GRoutes) (csr : List Value) (a : Option Addr) (cap : Nat) (l : List UInt8) (s : GSpan) (css : List Value) (g tg : Int) (a5 : Option Addr) (cap5 : Nat) (l5 : List UInt8) (hr : rGRoutes W (· < W.heap.size) csr r) (hl : LB W (· < W.heap.size) a cap l) (hs : rGSpan W (· < W.heap.size) css s) (hl5 : LB W (· < W.heap.size) a5 cap5 l5) (hgi : isI64 g) (hti : isI64 tg) :
    Calls Try.prog 6 #[.agg csr.toArray, .slice a l.length cap, .agg css.toArray, .int .i64 g, .int .i64 tg, .slice a5 l5.length cap5] W fun e w' => e = .returned (.bool true) ∧ Keep Nix W w' := by
  have HR := Lib.hid hr
  have HLB := Lib.hid hl
  have HL5 := Lib.hid hl5
  have HS := Lib.hid hs
  have HGI := Lib.hid hgi
  have HTI := Lib.hid hti
  have hlr := rGRoutes_lawful.len hr
  obtain ⟨aS, cS, aC, cC, hcsr, -⟩ := rGRoutes_open hr
  have HCS := Lib.hid hcsr
  obtain ⟨sF, dF, sT, dT, rfl, -⟩ := rGSpan_open hs
  have k1 := fun (w : World) (o : Obj) => (Keep.refl Nix w).alloc o
  have kk : Keep Nix W ((W.alloc (.cells csr.toArray 25)).alloc (.cells #[.slice sF s.fFrom.length dF, .slice sT s.fTo.length dT] 29)) := (k1 _ _).trans (k1 _ _)
  have row0 : RowIs ((W.alloc (.cells csr.toArray 25)).alloc (.cells #[.slice sF s.fFrom.length dF, .slice sT s.fTo.length dT] 29)) W.heap.size 25 csr := (RowIs.alloc W _ _).keep (k1 _ _) id
  have rowS : RowIs ((W.alloc (.cells csr.toArray 25)).alloc (.cells #[.slice sF s.fFrom.length dF, .slice sT s.fTo.length dT] 29)) (W.heap.size + 1) 29 [.slice sF s.fFrom.length dF, .slice sT s.fTo.length dT] := by
    have h := RowIs.alloc (W.alloc (.cells csr.toArray 25)) #[.slice sF s.fFrom.length dF, .slice sT s.fTo.length dT] 29
    simpa using h
  clear hr hl hs k1 hcsr hl5 hgi hti
  go_enter Try.func6, Try.ntmps6
  go_upto_region 1 with fail
  generalize ((W.alloc (.cells csr.toArray 25)).alloc (.cells #[.slice sF s.fFrom.length dF, .slice sT s.fTo.length dT] 29)) = w1 at *
  generalize hbs : W.heap.size = bs at *
  obtain ⟨v, HV⟩ : ∃ v, Hid ((decide ((r.fSpans.length : Int) < 30) && rightB r) = v) := ⟨_, rfl⟩
  go_cut [31] from 20 to 150 (fun s31 wx => s31 = .bool (!v) ∧ Keep Nix w1 wx)
  case first =>
    as_aux_lemma =>
    go_wp2_with fail
    go_fit (awake_c _)
    rintro e w2 ⟨rfl, k2⟩
    have ldR := Whole.run (P := Try.prog) S_Routes hlr (row0.keep k2 id)
    go_wp2_with fail
    go_fit (small_c r csr w2 (rGRoutes_lawful.nix HR.out (kk.trans k2)))
    rintro e w3 ⟨rfl, k3⟩
    clear ldR
    cases hv : decide ((r.fSpans.length : Int) < 30) with
    | false =>
      have e : v = false := by rw [← HV.out, hv]; rfl
      clear hv
      go_wp2_with fail
      go_meet
      exact ⟨by rw [e]; rfl, k2.trans k3⟩
    | true =>
      have e : v = rightB r := by rw [← HV.out, hv]; rfl
      clear hv
      have ldR := Whole.run (P := Try.prog) S_Routes hlr ((row0.keep k2 id).keep k3 id)
      have hcall := Right_c r csr w3 (rGRoutes_lawful.nix HR.out ((kk.trans k2).trans k3))
      rw [← e] at hcall
      clear e HV
      go_wp2_with fail
      go_fit hcall
      clear hcall
      rintro e w4 ⟨rfl, k4⟩
      clear ldR
      go_wp2_with fail
      go_meet
      exact ⟨rfl, (k2.trans k3).trans k4⟩
  case rest =>
  obtain ⟨rfl, kd⟩ := hcut
  replace row0 := row0.keep kd id
  replace rowS := rowS.keep kd id
  replace kk := kk.trans kd
  clear kd
  go_upto_if 31 with fail
  cases v with
  | false =>
    go_wp2_with fail
    go_fit (awake_c _)
    rintro e w3 ⟨rfl, k1⟩
    go_wp2_with fail
    go_ret
    exact ⟨rfl, kk.trans k1⟩
  | true =>
  have hv := HV.out
  rw [Bool.and_eq_true] at hv
  have RP := Lib.hid (rightP hv.2)
  have hn4 := RP.out.len
  have hb4 := RP.out.base
  clear HV hv
  obtain ⟨gr, hgr⟩ : ∃ y, groupF r l = y := ⟨_, rfl⟩
  have HG := Lib.hid hgr
  have hcall := Group_c r csr a cap l wc (rGRoutes_lawful.nix HR.out kk) hb4 (HLB.out.keep kk)
  rw [hgr] at hcall
  clear hgr
  have ldR := Whole.run (P := Try.prog) S_Routes hlr row0
  go_wp2_with fail
  go_fit hcall
  clear hcall
  rintro e w2 ⟨rfl, k2⟩
  clear ldR
  replace row0 := row0.keep k2 id
  replace rowS := rowS.keep k2 id
  replace kk := kk.trans k2
  clear k2
  go_upto_region 4 with fail
  go_cut [53] from 20 to 150 (fun s53 wx => s53 = .bool false ∧ w2 = wx)
  case first =>
    as_aux_lemma =>
    cases l with
    | nil =>
      clear row0 rowS kk
      go_wp2_with fail
      go_meet
      exact ⟨rfl, rfl⟩
    | cons c t =>
      have hlen : (0 : Int) < (((c :: t).length : Nat) : Int) := by simp only [List.length_cons]; omega
      have hlen2 : 0 < (c :: t).length := by simp
      obtain ⟨bF, oF, rfl, -, -, hcF⟩ := (HLB.out.keep kk).1 (by simp)
      have y := hcF 0 (.int .u8 (c.toNat : Int)) rfl
      simp only [Nat.add_zero] at y
      generalize hL : (c :: t).length = L at *
      rcases group_cases RP.out (c :: t) with ⟨t', e, _, h1, _⟩ | ⟨t', k, hk, e, _, h1, _⟩ | ⟨h1, h2⟩
      · cases e
        have hg0 : 0 < gr := by rw [← HG.out]; omega
        clear row0 rowS kk h1 hcF
        go_wp2_with fail
        go_meet
        exact ⟨by simp, rfl⟩
      · cases e
        have hg0 : 0 < gr := by have := (RP.out.owner k hk).1; rw [← HG.out]; omega
        clear row0 rowS kk h1 hcF
        go_wp2_with fail
        go_meet
        exact ⟨by simp, rfl⟩
      · obtain ⟨h3, h4⟩ := h1 c t rfl
        have hg0 : gr = 0 := by rw [← HG.out]; exact h2
        subst hg0
        have h5 : ((c.toNat : Int) == 114) = false := by simp; exact fun e => h3 (UInt8.toNat_inj.1 (by show c.toNat = 114; omega))
        have h6 : ((c.toNat : Int) == 120) = false := by simp; exact fun e => h4 (UInt8.toNat_inj.1 (by show c.toNat = 120; omega))
        clear row0 rowS kk h1 hcF h2 h3 h4
        go_wp2_with fail
        go_meet
        exact ⟨by simp, rfl⟩
  case rest =>
  obtain ⟨rfl, rfl⟩ := hcut
  go_upto_region 6 with fail
  go_cut [68] from 20 to 150 (fun s68 wx => s68 = .bool false ∧ Keep Nix w2 wx)
  case first =>
    as_aux_lemma =>
    rcases Int.lt_or_le 0 gr with hg0 | hg0
    rotate_left
    · clear row0 rowS kk
      go_wp2_with fail
      go_meet
      exact ⟨rfl, Keep.refl _ _⟩
    obtain ⟨ws, hws⟩ : ∃ v, withinF s l = v := ⟨_, rfl⟩
    have hcall := within_c s [.slice sF s.fFrom.length dF, .slice sT s.fTo.length dT] a cap l w2 (rGSpan_lawful.nix HS.out kk) (HLB.out.keep kk)
    rw [hws] at hcall
    have z0 := rowS.cell 0
    (try simp only [List.getElem?_cons_zero] at z0)
    have z1 := rowS.cell 1
    (try simp only [List.getElem?_cons_succ] at z1); (try simp only [List.getElem?_cons_zero] at z1)
    cases ws with
    | false =>
      clear hws row0 rowS
      go_wp2_with fail
      go_fit hcall
      clear hcall
      rintro e w3 ⟨rfl, k3⟩
      go_wp2_with fail
      go_meet
      exact ⟨rfl, k3⟩
    | true =>
      have HMem := Lib.hid (one_over RP.out l s (by rw [HG.out]; exact hg0) hws)
      clear hws
      go_wp2_with fail
      go_fit hcall
      clear hcall z0 z1
      rintro e w3 ⟨rfl, k3⟩
      replace row0 := row0.keep k3 id
      replace rowS := rowS.keep k3 id
      have z0 := rowS.cell 0
      (try simp only [List.getElem?_cons_zero] at z0)
      have z1 := rowS.cell 1
      (try simp only [List.getElem?_cons_succ] at z1); (try simp only [List.getElem?_cons_zero] at z1)
      have ldR := Whole.run (P := Try.prog) S_Routes hlr row0
      obtain ⟨M, hM⟩ : ∃ v, overF r s = v := ⟨_, rfl⟩
      have hcall := Over_c r csr s [.slice sF s.fFrom.length dF, .slice sT s.fTo.length dT] w3 (rGRoutes_lawful.nix HR.out (kk.trans k3)) (rGSpan_lawful.nix HS.out (kk.trans k3)) hb4 hn4.2
      rw [hM] at hcall
      have HL8 : Hid (M.length ≤ 8) := by show _ ≤ _; rw [← hM]; exact over_len RP.out s
      have HMM : Hid (gr ∈ M) := by show _ ∈ _; rw [← hM, ← HG.out]; exact HMem.out
      clear hM HMem
      go_wp2_with fail
      go_fit hcall
      clear hcall z0 z1 ldR
      rintro e w4 ⟨m1, n1, rfl, own1, k4⟩
      have hcall := In_c m1 n1 M gr w4 (Lies.of_owned own1) (by have := HL8.out; omega)
      rw [decide_eq_true HMM.out] at hcall
      clear own1
      go_wp2_with fail
      go_fit hcall
      clear hcall
      rintro e w5 ⟨rfl, rfl⟩
      go_wp2_with fail
      go_meet
      exact ⟨rfl, k3.trans k4⟩
  case rest =>
  obtain ⟨rfl, kd⟩ := hcut
  replace row0 := row0.keep kd id
  replace rowS := rowS.keep kd id
  replace kk := kk.trans kd
  clear kd
  go_upto_region 8 with fail
  go_cut [80] from 20 to 150 (fun s80 wx => s80 = .bool false ∧ Keep Nix wc wx)
  case first =>
    as_aux_lemma =>
    have y1 : wc.cell? ⟨bs, 1, none⟩ = some (.int .i64 r.fBase) := by rw [row0.cell, HCS.out]; rfl
    rcases Int.lt_or_le r.fBase gr with hg0 | hg0
    rotate_left
    · clear row0 rowS kk
      go_wp2_with fail
      go_meet
      exact ⟨rfl, Keep.refl _ _⟩
    have HOW : Hid (withinF (ownedF r.fSpans gr) l = true) := by
      have h := one_owned RP.out l (by rw [HG.out]; exact hg0)
      rw [HG.out] at h
      exact h
    obtain ⟨ow, how⟩ : ∃ v, ownedF r.fSpans gr = v := ⟨_, rfl⟩
    rw [how] at HOW
    have hcall := Owned_c r csr gr wc (rGRoutes_lawful.nix HR.out kk)
    rw [how] at hcall
    clear how
    have ldR := Whole.run (P := Try.prog) S_Routes hlr row0
    go_wp2_with fail
    go_fit hcall
    clear hcall ldR
    rintro e w3 ⟨csx, rfl, rx, k3⟩
    have hcall := within_c ow csx a cap l w3 rx ((HLB.out.keep kk).keep k3)
    rw [HOW.out] at hcall
    go_wp2_with fail
    go_fit hcall
    clear hcall
    rintro e w4 ⟨rfl, k4⟩
    go_wp2_with fail
    go_meet
    exact ⟨rfl, k3.trans k4⟩
  case rest =>
  obtain ⟨rfl, kd⟩ := hcut
  replace row0 := row0.keep kd id
  replace rowS := rowS.keep kd id
  replace kk := kk.trans kd
  clear kd
  go_upto_region 10 with fail
  rename_i w3 _
  obtain ⟨X, HX⟩ : ∃ X, Hid (PartF r gr s = X) := ⟨_, rfl⟩
  obtain ⟨x, ok⟩ := X
  have HWP : Hid (0 < gr → (ok && withinF x l) = withinF s l) := fun h => by
    have := one_part RP.out l s (by rw [HG.out]; exact h)
    rw [HG.out, HX.out] at this
    exact this
  have ldR := Whole.run (P := Try.prog) S_Routes hlr row0
  have z0 := rowS.cell 0
  (try simp only [List.getElem?_cons_zero] at z0)
  have z1 := rowS.cell 1
  (try simp only [List.getElem?_cons_succ] at z1); (try simp only [List.getElem?_cons_zero] at z1)
  have hcall := Part_c r csr gr s [.slice sF s.fFrom.length dF, .slice sT s.fTo.length dT] _ (rGRoutes_lawful.nix HR.out kk) (rGSpan_lawful.nix HS.out kk)
  rw [HX.out] at hcall
  go_wp2_with fail
  go_fit hcall
  clear hcall HX
  rintro e w7 ⟨cs1, rfl, rP, k1⟩
  obtain ⟨a1, c1, a2, c2, rfl, -⟩ := rGSpan_open rP
  have kA : Keep Nix w7 (w7.alloc (.cells #[.slice a1 x.fFrom.length c1, .slice a2 x.fTo.length c2] 29)) := (Keep.refl Nix w7).alloc _
  have rowP : RowIs (w7.alloc (.cells #[.slice a1 x.fFrom.length c1, .slice a2 x.fTo.length c2] 29)) w7.heap.size 29 [.slice a1 x.fFrom.length c1, .slice a2 x.fTo.length c2] := RowIs.alloc w7 _ _
  replace rP := rGSpan_lawful.nix rP kA
  replace k1 := k1.trans kA
  replace row0 := row0.keep k1 id
  replace rowS := rowS.keep k1 id
  replace kk := kk.trans k1
  clear k1 kA ldR z0 z1
  go_upto_region 11 with fail
  generalize w7.alloc (.cells #[.slice a1 x.fFrom.length c1, .slice a2 x.fTo.length c2] 29) = w8 at *
  generalize w7.heap.size = b14 at *
  go_cut [101] from 20 to 150 (fun s101 wx => s101 = .bool false ∧ Keep Nix w8 wx)
  case first =>
    as_aux_lemma =>
    have HSc := Lib.hid (fun (w' : World) (k' : Keep Nix w8 w') => rGSpan_lawful.nix HS.out (kk.trans k'))
    have HLc := Lib.hid (fun (w' : World) (k' : Keep Nix w8 w') => HLB.out.keep (kk.trans k'))
    have HPc := Lib.hid (fun (w' : World) (k' : Keep Nix w8 w') => rGSpan_lawful.nix rP k')
    have hO : ∀ w', Keep Nix w8 w' → (fun w' => w'.cell? ⟨bs + 1, 0, none⟩ = some (.slice sF s.fFrom.length dF) ∧ w'.cell? ⟨bs + 1, 1, none⟩ = some (.slice sT s.fTo.length dT) ∧ w'.cell? ⟨b14, 0, none⟩ = some (.slice a1 x.fFrom.length c1) ∧ w'.cell? ⟨b14, 1, none⟩ = some (.slice a2 x.fTo.length c2)) w' := fun w' k' => ⟨(rowS.keep k' id).cell 0, (rowS.keep k' id).cell 1, (rowP.keep k' id).cell 0, (rowP.keep k' id).cell 1⟩
    have HO := Lib.hid hO
    have kd : Keep Nix w8 w8.drew := (Keep.refl Nix w8).drew
    obtain ⟨wp, HW1⟩ : ∃ v, Hid (withinF x l = v) := ⟨_, rfl⟩
    obtain ⟨ws, HW2⟩ : ∃ v, Hid (withinF s l = v) := ⟨_, rfl⟩
    clear hO rP row0 rowS rowP kk HR HLB HS HL5 RP HG
    rcases Int.lt_or_le 0 gr with hg0 | hg0
    rotate_left
    · have t1 : decide (0 < gr) = false := decide_eq_false (by omega)
      refine wp_region_held_drew (S := (fun w' => w'.cell? ⟨bs + 1, 0, none⟩ = some (.slice sF s.fFrom.length dF) ∧ w'.cell? ⟨bs + 1, 1, none⟩ = some (.slice sT s.fTo.length dT) ∧ w'.cell? ⟨b14, 0, none⟩ = some (.slice a1 x.fFrom.length c1) ∧ w'.cell? ⟨b14, 1, none⟩ = some (.slice a2 x.fTo.length c2))) (by kernel_rfl) ((HO.out _ kd)) (fun hHeld => ?_)
      generalize w8.drew = wd at *
      refine wpAnyH_take (i := 0) (v := ?_) rfl (by kernel_rfl) (by kernel_rfl) (by kernel_rfl) (fun _ _ _ h => h) (Or.inl ⟨by kernel_rfl, ?_⟩) hHeld ?_
      rotate_left
      · intro w' hSw
        (try dsimp only at hSw)
        (try simp only [List.getElem_toArray]); (try simp only [List.getElem_cons_succ]); (try simp only [List.getElem_cons_zero])
        go_simp
        try with_reducible rfl
      (try simp only [Act.put]); (try simp only [List.getElem_toArray]); (try simp only [List.getElem_cons_succ]); (try simp only [List.getElem_cons_zero]); (try simp only [List.setIfInBounds_toArray]); (try simp only [List.set_cons_succ]); (try simp only [List.set_cons_zero])
      refine wpAnyH_take (i := 1) (v := ?_) rfl (by kernel_rfl) (by kernel_rfl) (by kernel_rfl) (fun _ _ _ h => h) (Or.inl ⟨by kernel_rfl, ?_⟩) hHeld ?_
      rotate_left
      · intro w' hSw
        (try dsimp only at hSw)
        (try simp only [List.getElem_toArray]); (try simp only [List.getElem_cons_succ]); (try simp only [List.getElem_cons_zero])
        go_simp
        try with_reducible rfl
      (try simp only [Act.put]); (try simp only [List.getElem_toArray]); (try simp only [List.getElem_cons_succ]); (try simp only [List.getElem_cons_zero]); (try simp only [List.setIfInBounds_toArray]); (try simp only [List.set_cons_succ]); (try simp only [List.set_cons_zero])
      refine wpAnyH_take (i := 2) (v := ?_) rfl (by kernel_rfl) (by kernel_rfl) (by kernel_rfl) (fun _ _ _ h => h) (Or.inl ⟨by kernel_rfl, ?_⟩) hHeld ?_
      rotate_left
      · intro w' hSw
        (try dsimp only at hSw)
        (try simp only [List.getElem_toArray]); (try simp only [List.getElem_cons_succ]); (try simp only [List.getElem_cons_zero])
        go_simp
        try with_reducible rfl
      (try simp only [Act.put]); (try simp only [List.getElem_toArray]); (try simp only [List.getElem_cons_succ]); (try simp only [List.getElem_cons_zero]); (try simp only [List.setIfInBounds_toArray]); (try simp only [List.set_cons_succ]); (try simp only [List.set_cons_zero])
      refine wpAnyH_take (i := 3) (v := undef) rfl (by kernel_rfl) (by kernel_rfl) (by kernel_rfl) (fun _ _ _ h => h) (Or.inr ⟨by kernel_rfl, rfl⟩) hHeld ?_
      (try simp only [Act.put]); (try simp only [List.getElem_toArray]); (try simp only [List.getElem_cons_succ]); (try simp only [List.getElem_cons_zero]); (try simp only [List.setIfInBounds_toArray]); (try simp only [List.set_cons_succ]); (try simp only [List.set_cons_zero])
      refine wpAnyH_take (i := 4) (v := undef) rfl (by kernel_rfl) (by kernel_rfl) (by kernel_rfl) (fun _ _ _ h => h) (Or.inr ⟨by kernel_rfl, rfl⟩) hHeld ?_
      (try simp only [Act.put]); (try simp only [List.getElem_toArray]); (try simp only [List.getElem_cons_succ]); (try simp only [List.getElem_cons_zero]); (try simp only [List.setIfInBounds_toArray]); (try simp only [List.set_cons_succ]); (try simp only [List.set_cons_zero])
      refine wpAnyH_take (i := 5) (v := undef) rfl (by kernel_rfl) (by kernel_rfl) (by kernel_rfl) (fun _ _ _ h => h) (Or.inr ⟨by kernel_rfl, rfl⟩) hHeld ?_
      (try simp only [Act.put]); (try simp only [List.getElem_toArray]); (try simp only [List.getElem_cons_succ]); (try simp only [List.getElem_cons_zero]); (try simp only [List.setIfInBounds_toArray]); (try simp only [List.set_cons_succ]); (try simp only [List.set_cons_zero])
      refine wpAnyH_take (i := 6) (v := undef) rfl (by kernel_rfl) (by kernel_rfl) (by kernel_rfl) (fun _ _ _ h => h) (Or.inr ⟨by kernel_rfl, rfl⟩) hHeld ?_
      (try simp only [Act.put]); (try simp only [List.getElem_toArray]); (try simp only [List.getElem_cons_succ]); (try simp only [List.getElem_cons_zero]); (try simp only [List.setIfInBounds_toArray]); (try simp only [List.set_cons_succ]); (try simp only [List.set_cons_zero])
      refine wpAnyH_take (i := 9) (v := undef) rfl (by kernel_rfl) (by kernel_rfl) (by kernel_rfl) (fun _ _ _ h => h) (Or.inr ⟨by kernel_rfl, rfl⟩) hHeld ?_
      (try simp only [Act.put]); (try simp only [List.getElem_toArray]); (try simp only [List.getElem_cons_succ]); (try simp only [List.getElem_cons_zero]); (try simp only [List.setIfInBounds_toArray]); (try simp only [List.set_cons_succ]); (try simp only [List.set_cons_zero])
      refine wpAnyH_take (i := 10) (v := undef) rfl (by kernel_rfl) (by kernel_rfl) (by kernel_rfl) (fun _ _ _ h => h) (Or.inr ⟨by kernel_rfl, rfl⟩) hHeld ?_
      (try simp only [Act.put]); (try simp only [List.getElem_toArray]); (try simp only [List.getElem_cons_succ]); (try simp only [List.getElem_cons_zero]); (try simp only [List.setIfInBounds_toArray]); (try simp only [List.set_cons_succ]); (try simp only [List.set_cons_zero])
      refine wpAnyH_take (i := 7) (v := undef) rfl (by kernel_rfl) (by kernel_rfl) (by kernel_rfl) (fun _ _ _ h => h) (Or.inr ⟨by kernel_rfl, rfl⟩) hHeld ?_
      (try simp only [Act.put]); (try simp only [List.getElem_toArray]); (try simp only [List.getElem_cons_succ]); (try simp only [List.getElem_cons_zero]); (try simp only [List.setIfInBounds_toArray]); (try simp only [List.set_cons_succ]); (try simp only [List.set_cons_zero])
      refine wpAnyH_take (i := 8) (v := undef) rfl (by kernel_rfl) (by kernel_rfl) (by kernel_rfl) (fun _ _ _ h => h) (Or.inr ⟨by kernel_rfl, rfl⟩) hHeld ?_
      (try simp only [Act.put]); (try simp only [List.getElem_toArray]); (try simp only [List.getElem_cons_succ]); (try simp only [List.getElem_cons_zero]); (try simp only [List.setIfInBounds_toArray]); (try simp only [List.set_cons_succ]); (try simp only [List.set_cons_zero])
      refine wpAnyH_take (i := 11) (v := undef) rfl (by kernel_rfl) (by kernel_rfl) (by kernel_rfl) (fun _ _ _ h => h) (Or.inr ⟨by kernel_rfl, rfl⟩) hHeld ?_
      (try simp only [Act.put]); (try simp only [List.getElem_toArray]); (try simp only [List.getElem_cons_succ]); (try simp only [List.getElem_cons_zero]); (try simp only [List.setIfInBounds_toArray]); (try simp only [List.set_cons_succ]); (try simp only [List.set_cons_zero])
      refine wpAnyH_take (i := 12) (v := undef) rfl (by kernel_rfl) (by kernel_rfl) (by kernel_rfl) (fun _ _ _ h => h) (Or.inr ⟨by kernel_rfl, rfl⟩) hHeld ?_
      (try simp only [Act.put]); (try simp only [List.getElem_toArray]); (try simp only [List.getElem_cons_succ]); (try simp only [List.getElem_cons_zero]); (try simp only [List.setIfInBounds_toArray]); (try simp only [List.set_cons_succ]); (try simp only [List.set_cons_zero])
      refine wpAnyH_take (i := 13) (v := ?_) rfl (by kernel_rfl) (by kernel_rfl) (by kernel_rfl) (fun _ _ _ h => h) (Or.inl ⟨by kernel_rfl, ?_⟩) hHeld ?_
      rotate_left
      · intro w' hSw
        (try dsimp only at hSw)
        (try simp only [List.getElem_toArray]); (try simp only [List.getElem_cons_succ]); (try simp only [List.getElem_cons_zero])
        go_simp
        try with_reducible rfl
      (try simp only [Act.put]); (try simp only [List.getElem_toArray]); (try simp only [List.getElem_cons_succ]); (try simp only [List.getElem_cons_zero]); (try simp only [List.setIfInBounds_toArray]); (try simp only [List.set_cons_succ]); (try simp only [List.set_cons_zero])
      refine wpAnyH_done (by kernel_rfl) ?_ _
      clear hHeld
      go_wp2_with fail
      go_meet
      exact ⟨rfl, kd⟩
    have t1 : decide (0 < gr) = true := decide_eq_true hg0
    have hw := HWP.out hg0
    rw [HW1.out, HW2.out] at hw
    cases ok with
    | false =>
      have e : ws = false := hw.symm
      subst e
      clear hw
      refine wp_region_held_drew (S := (fun w' => w'.cell? ⟨bs + 1, 0, none⟩ = some (.slice sF s.fFrom.length dF) ∧ w'.cell? ⟨bs + 1, 1, none⟩ = some (.slice sT s.fTo.length dT) ∧ w'.cell? ⟨b14, 0, none⟩ = some (.slice a1 x.fFrom.length c1) ∧ w'.cell? ⟨b14, 1, none⟩ = some (.slice a2 x.fTo.length c2))) (by kernel_rfl) ((HO.out _ kd)) (fun hHeld => ?_)
      generalize w8.drew = wd at *
      refine wpAnyH_take (i := 0) (v := ?_) rfl (by kernel_rfl) (by kernel_rfl) (by kernel_rfl) (fun _ _ _ h => h) (Or.inl ⟨by kernel_rfl, ?_⟩) hHeld ?_
      rotate_left
      · intro w' hSw
        (try dsimp only at hSw)
        (try simp only [List.getElem_toArray]); (try simp only [List.getElem_cons_succ]); (try simp only [List.getElem_cons_zero])
        go_simp
        try with_reducible rfl
      (try simp only [Act.put]); (try simp only [List.getElem_toArray]); (try simp only [List.getElem_cons_succ]); (try simp only [List.getElem_cons_zero]); (try simp only [List.setIfInBounds_toArray]); (try simp only [List.set_cons_succ]); (try simp only [List.set_cons_zero])
      refine wpAnyH_take (i := 1) (v := ?_) rfl (by kernel_rfl) (by kernel_rfl) (by kernel_rfl) (fun _ _ _ h => h) (Or.inl ⟨by kernel_rfl, ?_⟩) hHeld ?_
      rotate_left
      · intro w' hSw
        (try dsimp only at hSw)
        (try simp only [List.getElem_toArray]); (try simp only [List.getElem_cons_succ]); (try simp only [List.getElem_cons_zero])
        go_simp
        try with_reducible rfl
      (try simp only [Act.put]); (try simp only [List.getElem_toArray]); (try simp only [List.getElem_cons_succ]); (try simp only [List.getElem_cons_zero]); (try simp only [List.setIfInBounds_toArray]); (try simp only [List.set_cons_succ]); (try simp only [List.set_cons_zero])
      refine wpAnyH_take (i := 2) (v := ?_) rfl (by kernel_rfl) (by kernel_rfl) (by kernel_rfl) (fun _ _ _ h => h) (Or.inl ⟨by kernel_rfl, ?_⟩) hHeld ?_
      rotate_left
      · intro w' hSw
        (try dsimp only at hSw)
        (try simp only [List.getElem_toArray]); (try simp only [List.getElem_cons_succ]); (try simp only [List.getElem_cons_zero])
        go_simp
        try with_reducible rfl
      (try simp only [Act.put]); (try simp only [List.getElem_toArray]); (try simp only [List.getElem_cons_succ]); (try simp only [List.getElem_cons_zero]); (try simp only [List.setIfInBounds_toArray]); (try simp only [List.set_cons_succ]); (try simp only [List.set_cons_zero])
      refine wpAnyH_take (i := 3) (v := ?_) rfl (by kernel_rfl) (by kernel_rfl) (by kernel_rfl) (fun _ _ _ h => h) (Or.inl ⟨by kernel_rfl, ?_⟩) hHeld ?_
      rotate_left
      · intro w' hSw
        (try dsimp only at hSw)
        (try simp only [List.getElem_toArray]); (try simp only [List.getElem_cons_succ]); (try simp only [List.getElem_cons_zero])
        go_simp
        try with_reducible rfl
      (try simp only [Act.put]); (try simp only [List.getElem_toArray]); (try simp only [List.getElem_cons_succ]); (try simp only [List.getElem_cons_zero]); (try simp only [List.setIfInBounds_toArray]); (try simp only [List.set_cons_succ]); (try simp only [List.set_cons_zero])
      refine wpAnyH_take (i := 4) (v := ?_) rfl (by kernel_rfl) (by kernel_rfl) (by kernel_rfl) (fun _ _ _ h => h) (Or.inl ⟨by kernel_rfl, ?_⟩) hHeld ?_
      rotate_left
      · intro w' hSw
        (try dsimp only at hSw)
        (try simp only [List.getElem_toArray]); (try simp only [List.getElem_cons_succ]); (try simp only [List.getElem_cons_zero])
        go_simp
        try with_reducible rfl
      (try simp only [Act.put]); (try simp only [List.getElem_toArray]); (try simp only [List.getElem_cons_succ]); (try simp only [List.getElem_cons_zero]); (try simp only [List.setIfInBounds_toArray]); (try simp only [List.set_cons_succ]); (try simp only [List.set_cons_zero])
      refine wpAnyH_take (i := 5) (v := undef) rfl (by kernel_rfl) (by kernel_rfl) (by kernel_rfl) (fun _ _ _ h => h) (Or.inr ⟨by kernel_rfl, rfl⟩) hHeld ?_
      (try simp only [Act.put]); (try simp only [List.getElem_toArray]); (try simp only [List.getElem_cons_succ]); (try simp only [List.getElem_cons_zero]); (try simp only [List.setIfInBounds_toArray]); (try simp only [List.set_cons_succ]); (try simp only [List.set_cons_zero])
      refine wpAnyH_take (i := 6) (v := undef) rfl (by kernel_rfl) (by kernel_rfl) (by kernel_rfl) (fun _ _ _ h => h) (Or.inr ⟨by kernel_rfl, rfl⟩) hHeld ?_
      (try simp only [Act.put]); (try simp only [List.getElem_toArray]); (try simp only [List.getElem_cons_succ]); (try simp only [List.getElem_cons_zero]); (try simp only [List.setIfInBounds_toArray]); (try simp only [List.set_cons_succ]); (try simp only [List.set_cons_zero])
      refine wpAnyH_take (i := 9) (v := ?_) rfl (by kernel_rfl) (by kernel_rfl) (by kernel_rfl) (fun _ _ _ h => h) (Or.inl ⟨by kernel_rfl, ?_⟩) hHeld ?_
      rotate_left
      · intro w' hSw
        (try dsimp only at hSw)
        (try simp only [List.getElem_toArray]); (try simp only [List.getElem_cons_succ]); (try simp only [List.getElem_cons_zero])
        go_simp
        try with_reducible rfl
      (try simp only [Act.put]); (try simp only [List.getElem_toArray]); (try simp only [List.getElem_cons_succ]); (try simp only [List.getElem_cons_zero]); (try simp only [List.setIfInBounds_toArray]); (try simp only [List.set_cons_succ]); (try simp only [List.set_cons_zero])
      refine wpAnyH_take (i := 10) (v := ?_) rfl (by kernel_rfl) (by kernel_rfl) (by kernel_rfl) (fun _ _ _ h => h) (Or.inl ⟨by kernel_rfl, ?_⟩) hHeld ?_
      rotate_left
      · intro w' hSw
        (try dsimp only at hSw)
        (try simp only [List.getElem_toArray]); (try simp only [List.getElem_cons_succ]); (try simp only [List.getElem_cons_zero])
        go_simp
        try with_reducible rfl
      (try simp only [Act.put]); (try simp only [List.getElem_toArray]); (try simp only [List.getElem_cons_succ]); (try simp only [List.getElem_cons_zero]); (try simp only [List.setIfInBounds_toArray]); (try simp only [List.set_cons_succ]); (try simp only [List.set_cons_zero])
      refine wpAnyH_take (i := 7) (v := undef) rfl (by kernel_rfl) (by kernel_rfl) (by kernel_rfl) (fun _ _ _ h => h) (Or.inr ⟨by kernel_rfl, rfl⟩) hHeld ?_
      (try simp only [Act.put]); (try simp only [List.getElem_toArray]); (try simp only [List.getElem_cons_succ]); (try simp only [List.getElem_cons_zero]); (try simp only [List.setIfInBounds_toArray]); (try simp only [List.set_cons_succ]); (try simp only [List.set_cons_zero])
      refine wpAnyH_take (i := 8) (v := ?_) rfl (by kernel_rfl) (by kernel_rfl) (by kernel_rfl) (fun _ _ _ h => h) (Or.inl ⟨by kernel_rfl, ?_⟩) hHeld ?_
      rotate_left
      · intro w' hSw
        (try dsimp only at hSw)
        (try simp only [List.getElem_toArray]); (try simp only [List.getElem_cons_succ]); (try simp only [List.getElem_cons_zero])
        go_simp
        try with_reducible rfl
      (try simp only [Act.put]); (try simp only [List.getElem_toArray]); (try simp only [List.getElem_cons_succ]); (try simp only [List.getElem_cons_zero]); (try simp only [List.setIfInBounds_toArray]); (try simp only [List.set_cons_succ]); (try simp only [List.set_cons_zero])
      refine wpAnyH_ready (rs := [11]) (by kernel_rfl) (by simp) ?_
      refine AllReadyH.cons rfl (fun K hK => ?_) AllReadyH.nil
      rw [if_pos (by kernel_rfl)]
      go_simp
      go_fit (within_c s [.slice sF s.fFrom.length dF, .slice sT s.fTo.length dT] a cap l _ (HSc.out _ kd) (HLc.out _ kd))
      rw [HW2.out]
      rintro e w3 ⟨rfl, k2⟩
      replace kd := kd.trans k2
      clear k2
      go_wp2_with fail
      refine hK.out _ _ ((HO.out _ kd)) (fun hHeld => ?_)
      clear hK K
      (try simp only [Act.put]); (try simp only [List.getElem_toArray]); (try simp only [List.getElem_cons_succ]); (try simp only [List.getElem_cons_zero]); (try simp only [List.setIfInBounds_toArray]); (try simp only [List.set_cons_succ]); (try simp only [List.set_cons_zero])
      refine wpAnyH_take (i := 12) (v := ?_) rfl (by kernel_rfl) (by kernel_rfl) (by kernel_rfl) (fun _ _ _ h => h) (Or.inl ⟨by kernel_rfl, ?_⟩) hHeld ?_
      rotate_left
      · intro w' hSw
        (try dsimp only at hSw)
        (try simp only [List.getElem_toArray]); (try simp only [List.getElem_cons_succ]); (try simp only [List.getElem_cons_zero])
        go_simp
        try with_reducible rfl
      (try simp only [Act.put]); (try simp only [List.getElem_toArray]); (try simp only [List.getElem_cons_succ]); (try simp only [List.getElem_cons_zero]); (try simp only [List.setIfInBounds_toArray]); (try simp only [List.set_cons_succ]); (try simp only [List.set_cons_zero])
      refine wpAnyH_take (i := 13) (v := ?_) rfl (by kernel_rfl) (by kernel_rfl) (by kernel_rfl) (fun _ _ _ h => h) (Or.inl ⟨by kernel_rfl, ?_⟩) hHeld ?_
      rotate_left
      · intro w' hSw
        (try dsimp only at hSw)
        (try simp only [List.getElem_toArray]); (try simp only [List.getElem_cons_succ]); (try simp only [List.getElem_cons_zero])
        go_simp
        try with_reducible rfl
      (try simp only [Act.put]); (try simp only [List.getElem_toArray]); (try simp only [List.getElem_cons_succ]); (try simp only [List.getElem_cons_zero]); (try simp only [List.setIfInBounds_toArray]); (try simp only [List.set_cons_succ]); (try simp only [List.set_cons_zero])
      refine wpAnyH_done (by kernel_rfl) ?_ _
      clear hHeld
      go_wp2_with fail
      go_meet
      exact ⟨rfl, kd⟩
    | true =>
      have e : wp = ws := hw
      subst e
      clear hw
      have hvv : (wp != wp) = false := by cases wp <;> rfl
      refine wp_region_held_drew (S := (fun w' => w'.cell? ⟨bs + 1, 0, none⟩ = some (.slice sF s.fFrom.length dF) ∧ w'.cell? ⟨bs + 1, 1, none⟩ = some (.slice sT s.fTo.length dT) ∧ w'.cell? ⟨b14, 0, none⟩ = some (.slice a1 x.fFrom.length c1) ∧ w'.cell? ⟨b14, 1, none⟩ = some (.slice a2 x.fTo.length c2))) (by kernel_rfl) ((HO.out _ kd)) (fun hHeld => ?_)
      generalize w8.drew = wd at *
      refine wpAnyH_take (i := 0) (v := ?_) rfl (by kernel_rfl) (by kernel_rfl) (by kernel_rfl) (fun _ _ _ h => h) (Or.inl ⟨by kernel_rfl, ?_⟩) hHeld ?_
      rotate_left
      · intro w' hSw
        (try dsimp only at hSw)
        (try simp only [List.getElem_toArray]); (try simp only [List.getElem_cons_succ]); (try simp only [List.getElem_cons_zero])
        go_simp
        try with_reducible rfl
      (try simp only [Act.put]); (try simp only [List.getElem_toArray]); (try simp only [List.getElem_cons_succ]); (try simp only [List.getElem_cons_zero]); (try simp only [List.setIfInBounds_toArray]); (try simp only [List.set_cons_succ]); (try simp only [List.set_cons_zero])
      refine wpAnyH_take (i := 1) (v := ?_) rfl (by kernel_rfl) (by kernel_rfl) (by kernel_rfl) (fun _ _ _ h => h) (Or.inl ⟨by kernel_rfl, ?_⟩) hHeld ?_
      rotate_left
      · intro w' hSw
        (try dsimp only at hSw)
        (try simp only [List.getElem_toArray]); (try simp only [List.getElem_cons_succ]); (try simp only [List.getElem_cons_zero])
        go_simp
        try with_reducible rfl
      (try simp only [Act.put]); (try simp only [List.getElem_toArray]); (try simp only [List.getElem_cons_succ]); (try simp only [List.getElem_cons_zero]); (try simp only [List.setIfInBounds_toArray]); (try simp only [List.set_cons_succ]); (try simp only [List.set_cons_zero])
      refine wpAnyH_take (i := 2) (v := ?_) rfl (by kernel_rfl) (by kernel_rfl) (by kernel_rfl) (fun _ _ _ h => h) (Or.inl ⟨by kernel_rfl, ?_⟩) hHeld ?_
      rotate_left
      · intro w' hSw
        (try dsimp only at hSw)
        (try simp only [List.getElem_toArray]); (try simp only [List.getElem_cons_succ]); (try simp only [List.getElem_cons_zero])
        go_simp
        try with_reducible rfl
      (try simp only [Act.put]); (try simp only [List.getElem_toArray]); (try simp only [List.getElem_cons_succ]); (try simp only [List.getElem_cons_zero]); (try simp only [List.setIfInBounds_toArray]); (try simp only [List.set_cons_succ]); (try simp only [List.set_cons_zero])
      refine wpAnyH_take (i := 3) (v := ?_) rfl (by kernel_rfl) (by kernel_rfl) (by kernel_rfl) (fun _ _ _ h => h) (Or.inl ⟨by kernel_rfl, ?_⟩) hHeld ?_
      rotate_left
      · intro w' hSw
        (try dsimp only at hSw)
        (try simp only [List.getElem_toArray]); (try simp only [List.getElem_cons_succ]); (try simp only [List.getElem_cons_zero])
        go_simp
        try with_reducible rfl
      (try simp only [Act.put]); (try simp only [List.getElem_toArray]); (try simp only [List.getElem_cons_succ]); (try simp only [List.getElem_cons_zero]); (try simp only [List.setIfInBounds_toArray]); (try simp only [List.set_cons_succ]); (try simp only [List.set_cons_zero])
      refine wpAnyH_take (i := 4) (v := ?_) rfl (by kernel_rfl) (by kernel_rfl) (by kernel_rfl) (fun _ _ _ h => h) (Or.inl ⟨by kernel_rfl, ?_⟩) hHeld ?_
      rotate_left
      · intro w' hSw
        (try dsimp only at hSw)
        (try simp only [List.getElem_toArray]); (try simp only [List.getElem_cons_succ]); (try simp only [List.getElem_cons_zero])
        go_simp
        try with_reducible rfl
      (try simp only [Act.put]); (try simp only [List.getElem_toArray]); (try simp only [List.getElem_cons_succ]); (try simp only [List.getElem_cons_zero]); (try simp only [List.setIfInBounds_toArray]); (try simp only [List.set_cons_succ]); (try simp only [List.set_cons_zero])
      refine wpAnyH_take (i := 5) (v := ?_) rfl (by kernel_rfl) (by kernel_rfl) (by kernel_rfl) (fun _ _ _ h => h) (Or.inl ⟨by kernel_rfl, ?_⟩) hHeld ?_
      rotate_left
      · intro w' hSw
        (try dsimp only at hSw)
        (try simp only [List.getElem_toArray]); (try simp only [List.getElem_cons_succ]); (try simp only [List.getElem_cons_zero])
        go_simp
        try with_reducible rfl
      (try simp only [Act.put]); (try simp only [List.getElem_toArray]); (try simp only [List.getElem_cons_succ]); (try simp only [List.getElem_cons_zero]); (try simp only [List.setIfInBounds_toArray]); (try simp only [List.set_cons_succ]); (try simp only [List.set_cons_zero])
      refine wpAnyH_take (i := 6) (v := ?_) rfl (by kernel_rfl) (by kernel_rfl) (by kernel_rfl) (fun _ _ _ h => h) (Or.inl ⟨by kernel_rfl, ?_⟩) hHeld ?_
      rotate_left
      · intro w' hSw
        (try dsimp only at hSw)
        (try simp only [List.getElem_toArray]); (try simp only [List.getElem_cons_succ]); (try simp only [List.getElem_cons_zero])
        go_simp
        try with_reducible rfl
      (try simp only [Act.put]); (try simp only [List.getElem_toArray]); (try simp only [List.getElem_cons_succ]); (try simp only [List.getElem_cons_zero]); (try simp only [List.setIfInBounds_toArray]); (try simp only [List.set_cons_succ]); (try simp only [List.set_cons_zero])
      refine wpAnyH_take (i := 9) (v := ?_) rfl (by kernel_rfl) (by kernel_rfl) (by kernel_rfl) (fun _ _ _ h => h) (Or.inl ⟨by kernel_rfl, ?_⟩) hHeld ?_
      rotate_left
      · intro w' hSw
        (try dsimp only at hSw)
        (try simp only [List.getElem_toArray]); (try simp only [List.getElem_cons_succ]); (try simp only [List.getElem_cons_zero])
        go_simp
        try with_reducible rfl
      (try simp only [Act.put]); (try simp only [List.getElem_toArray]); (try simp only [List.getElem_cons_succ]); (try simp only [List.getElem_cons_zero]); (try simp only [List.setIfInBounds_toArray]); (try simp only [List.set_cons_succ]); (try simp only [List.set_cons_zero])
      refine wpAnyH_take (i := 10) (v := ?_) rfl (by kernel_rfl) (by kernel_rfl) (by kernel_rfl) (fun _ _ _ h => h) (Or.inl ⟨by kernel_rfl, ?_⟩) hHeld ?_
      rotate_left
      · intro w' hSw
        (try dsimp only at hSw)
        (try simp only [List.getElem_toArray]); (try simp only [List.getElem_cons_succ]); (try simp only [List.getElem_cons_zero])
        go_simp
        try with_reducible rfl
      (try simp only [Act.put]); (try simp only [List.getElem_toArray]); (try simp only [List.getElem_cons_succ]); (try simp only [List.getElem_cons_zero]); (try simp only [List.setIfInBounds_toArray]); (try simp only [List.set_cons_succ]); (try simp only [List.set_cons_zero])
      refine wpAnyH_ready (rs := [7]) (by kernel_rfl) (by simp) ?_
      refine AllReadyH.cons rfl (fun K hK => ?_) AllReadyH.nil
      rw [if_pos (by kernel_rfl)]
      go_simp
      go_fit (within_c x [.slice a1 x.fFrom.length c1, .slice a2 x.fTo.length c2] a cap l _ (HPc.out _ kd) (HLc.out _ kd))
      rw [HW1.out]
      rintro e w2 ⟨rfl, k2⟩
      replace kd := kd.trans k2
      clear k2
      go_wp2_with fail
      refine hK.out _ _ ((HO.out _ kd)) (fun hHeld => ?_)
      clear hK K
      (try simp only [Act.put]); (try simp only [List.getElem_toArray]); (try simp only [List.getElem_cons_succ]); (try simp only [List.getElem_cons_zero]); (try simp only [List.setIfInBounds_toArray]); (try simp only [List.set_cons_succ]); (try simp only [List.set_cons_zero])
      refine wpAnyH_take (i := 8) (v := ?_) rfl (by kernel_rfl) (by kernel_rfl) (by kernel_rfl) (fun _ _ _ h => h) (Or.inl ⟨by kernel_rfl, ?_⟩) hHeld ?_
      rotate_left
      · intro w' hSw
        (try dsimp only at hSw)
        (try simp only [List.getElem_toArray]); (try simp only [List.getElem_cons_succ]); (try simp only [List.getElem_cons_zero])
        go_simp
        try with_reducible rfl
      (try simp only [Act.put]); (try simp only [List.getElem_toArray]); (try simp only [List.getElem_cons_succ]); (try simp only [List.getElem_cons_zero]); (try simp only [List.setIfInBounds_toArray]); (try simp only [List.set_cons_succ]); (try simp only [List.set_cons_zero])
      refine wpAnyH_ready (rs := [11]) (by kernel_rfl) (by simp) ?_
      refine AllReadyH.cons rfl (fun K hK => ?_) AllReadyH.nil
      rw [if_pos (by kernel_rfl)]
      go_simp
      go_fit (within_c s [.slice sF s.fFrom.length dF, .slice sT s.fTo.length dT] a cap l _ (HSc.out _ kd) (HLc.out _ kd))
      rw [HW2.out]
      rintro e w3 ⟨rfl, k2⟩
      replace kd := kd.trans k2
      clear k2
      go_wp2_with fail
      refine hK.out _ _ ((HO.out _ kd)) (fun hHeld => ?_)
      clear hK K
      (try simp only [Act.put]); (try simp only [List.getElem_toArray]); (try simp only [List.getElem_cons_succ]); (try simp only [List.getElem_cons_zero]); (try simp only [List.setIfInBounds_toArray]); (try simp only [List.set_cons_succ]); (try simp only [List.set_cons_zero])
      refine wpAnyH_take (i := 12) (v := ?_) rfl (by kernel_rfl) (by kernel_rfl) (by kernel_rfl) (fun _ _ _ h => h) (Or.inl ⟨by kernel_rfl, ?_⟩) hHeld ?_
      rotate_left
      · intro w' hSw
        (try dsimp only at hSw)
        (try simp only [List.getElem_toArray]); (try simp only [List.getElem_cons_succ]); (try simp only [List.getElem_cons_zero])
        go_simp
        try with_reducible rfl
      (try simp only [Act.put]); (try simp only [List.getElem_toArray]); (try simp only [List.getElem_cons_succ]); (try simp only [List.getElem_cons_zero]); (try simp only [List.setIfInBounds_toArray]); (try simp only [List.set_cons_succ]); (try simp only [List.set_cons_zero])
      refine wpAnyH_take (i := 13) (v := ?_) rfl (by kernel_rfl) (by kernel_rfl) (by kernel_rfl) (fun _ _ _ h => h) (Or.inl ⟨by kernel_rfl, ?_⟩) hHeld ?_
      rotate_left
      · intro w' hSw
        (try dsimp only at hSw)
        (try simp only [List.getElem_toArray]); (try simp only [List.getElem_cons_succ]); (try simp only [List.getElem_cons_zero])
        go_simp
        try with_reducible rfl
      (try simp only [Act.put]); (try simp only [List.getElem_toArray]); (try simp only [List.getElem_cons_succ]); (try simp only [List.getElem_cons_zero]); (try simp only [List.setIfInBounds_toArray]); (try simp only [List.set_cons_succ]); (try simp only [List.set_cons_zero])
      refine wpAnyH_done (by kernel_rfl) ?_ _
      clear hHeld
      go_wp2_with fail
      go_meet
      exact ⟨rfl, kd⟩
  case rest =>
  obtain ⟨rfl, kd⟩ := hcut
  replace row0 := row0.keep kd id
  replace rowS := rowS.keep kd id
  replace kk := kk.trans kd
  clear kd rowP rP HWP
  go_upto_region 13 with fail
  obtain ⟨N, HN⟩ : ∃ N, Hid (cutF r g l5 = N) := ⟨_, rfl⟩
  obtain ⟨n, z⟩ := N
  have ldR := Whole.run (P := Try.prog) S_Routes hlr row0
  have hcall := Cut_c r csr g a5 cap5 l5 _ (rGRoutes_lawful.nix HR.out kk) (HL5.out.keep kk) (by omega) HGI.out
  rw [HN.out] at hcall
  go_wp2_with fail
  go_fit hcall
  clear hcall
  rintro e w3 ⟨cs1, rfl, rN, k1⟩
  obtain ⟨aS1, cS1, aC1, cC1, rfl, -⟩ := rGRoutes_open rN
  have kA : Keep Nix w3 (w3.alloc (.cells #[.int .i64 n.fEpoch, .int .i64 n.fBase, .slice aS1 n.fSpans.length cS1, .int .i64 n.fMoving, .slice aC1 n.fCut.length cC1] 25)) := (Keep.refl Nix w3).alloc _
  have rowN : RowIs (w3.alloc (.cells #[.int .i64 n.fEpoch, .int .i64 n.fBase, .slice aS1 n.fSpans.length cS1, .int .i64 n.fMoving, .slice aC1 n.fCut.length cC1] 25)) w3.heap.size 25 [.int .i64 n.fEpoch, .int .i64 n.fBase, .slice aS1 n.fSpans.length cS1, .int .i64 n.fMoving, .slice aC1 n.fCut.length cC1] := RowIs.alloc w3 _ _
  replace rN := rGRoutes_lawful.nix rN kA
  replace k1 := k1.trans kA
  replace row0 := row0.keep k1 id
  replace rowS := rowS.keep k1 id
  replace kk := kk.trans k1
  clear k1 kA ldR
  go_upto_region 14 with fail
  generalize w3.alloc (.cells #[.int .i64 n.fEpoch, .int .i64 n.fBase, .slice aS1 n.fSpans.length cS1, .int .i64 n.fMoving, .slice aC1 n.fCut.length cC1] 25) = w4 at *
  generalize w3.heap.size = b16 at *
  by_cases hz : z = 0
  rotate_left
  · have hz1 : (z != 0) = true := by simpa using hz
    clear hz row0 rowS rowN rN
    go_wp2_with fail
    go_ret
    exact ⟨rfl, kk⟩
  have hz1 : (z != 0) = false := by simpa using hz
  obtain ⟨kp, hkp, hcut, hpl, hgk, hlt⟩ := cut_ok (r := r) (g := g) (l := l5) (by rw [HN.out]; exact hz)
  have HNE : Hid (n = ⟨upI r.fEpoch, r.fBase, r.fSpans, g, l5⟩) := by
    show _ = _
    have := HN.out
    rw [hcut] at this
    exact (congrArg Prod.fst this).symm
  have hbn : 1 ≤ n.fBase ∧ n.fBase ≤ 4 := by rw [HNE.out]; exact hb4
  have hpn : n.fMoving ≠ 0 → ∃ k : Nat, placeI n.fMoving n.fSpans = (k : Int) ∧ k < n.fSpans.length := fun _ => ⟨kp, by rw [HNE.out]; exact hpl, by rw [HNE.out]; exact hkp⟩
  have hln : n.fSpans.length ≤ 28 := by rw [HNE.out]; show r.fSpans.length ≤ 28; omega
  have HGN : Hid (groupF n l = gr) := by show _ = _; rw [HNE.out, group_cut]; exact HG.out
  have HMV : Hid (groupF (stillF (newRF n tg)) l = if gr = g ∧ ltB l l5 = false then tg else gr) := by
    show _ = _
    rw [HNE.out, one_moved RP.out g tg l5 l kp hkp hpl hgk hlt, HG.out]
  clear hz hcut hpl hgk hlt hkp HN
  obtain ⟨M2, HM2⟩ : ∃ N, Hid (movedF n tg = N) := ⟨_, rfl⟩
  obtain ⟨m, f⟩ := M2
  have ldN := Whole.run (P := Try.prog) S_Routes rfl rowN
  have hcall := Moved_c n [.int .i64 n.fEpoch, .int .i64 n.fBase, .slice aS1 n.fSpans.length cS1, .int .i64 n.fMoving, .slice aC1 n.fCut.length cC1] tg w4 rN hln HTI.out hbn hpn
  rw [HM2.out] at hcall
  clear hpn hln
  go_wp2_with fail
  go_fit hcall
  clear hcall
  rintro e w5 ⟨cs2, rfl, rM, k1⟩
  obtain ⟨aS2, cS2, aC2, cC2, rfl, -⟩ := rGRoutes_open rM
  have kA : Keep Nix w5 (w5.alloc (.cells #[.int .i64 m.fEpoch, .int .i64 m.fBase, .slice aS2 m.fSpans.length cS2, .int .i64 m.fMoving, .slice aC2 m.fCut.length cC2] 25)) := (Keep.refl Nix w5).alloc _
  have rowM : RowIs (w5.alloc (.cells #[.int .i64 m.fEpoch, .int .i64 m.fBase, .slice aS2 m.fSpans.length cS2, .int .i64 m.fMoving, .slice aC2 m.fCut.length cC2] 25)) w5.heap.size 25 [.int .i64 m.fEpoch, .int .i64 m.fBase, .slice aS2 m.fSpans.length cS2, .int .i64 m.fMoving, .slice aC2 m.fCut.length cC2] := RowIs.alloc w5 _ _
  replace rM := rGRoutes_lawful.nix rM kA
  replace k1 := k1.trans kA
  replace rowN := rowN.keep k1 id
  replace rN := rGRoutes_lawful.nix rN k1
  replace row0 := row0.keep k1 id
  replace rowS := rowS.keep k1 id
  replace kk := kk.trans k1
  clear k1 kA ldN
  go_upto_region 17 with fail
  generalize w5.alloc (.cells #[.int .i64 m.fEpoch, .int .i64 m.fBase, .slice aS2 m.fSpans.length cS2, .int .i64 m.fMoving, .slice aC2 m.fCut.length cC2] 25) = w6 at *
  generalize w5.heap.size = b18 at *
  clear row0 rowS
  have ldN := Whole.run (P := Try.prog) S_Routes rfl rowN
  have hcall := Group_c n [.int .i64 n.fEpoch, .int .i64 n.fBase, .slice aS1 n.fSpans.length cS1, .int .i64 n.fMoving, .slice aC1 n.fCut.length cC1] a cap l w6 rN hbn (HLB.out.keep kk)
  rw [HGN.out] at hcall
  have hgg : (gr != gr) = false := by simp
  have hge : (gr == gr) = true := by simp
  go_wp2_with fail
  go_fit hcall
  clear hcall ldN
  rintro e w7 ⟨rfl, k1⟩
  replace rowN := rowN.keep k1 id
  replace rowM := rowM.keep k1 id
  replace rN := rGRoutes_lawful.nix rN k1
  replace rM := rGRoutes_lawful.nix rM k1
  replace kk := kk.trans k1
  clear k1
  by_cases hf : f = 0
  rotate_left
  · have hf1 : (f != 0) = true := by simpa using hf
    have ldN := Whole.run (P := Try.prog) S_Routes rfl rowN
    have hcall := Group_c n [.int .i64 n.fEpoch, .int .i64 n.fBase, .slice aS1 n.fSpans.length cS1, .int .i64 n.fMoving, .slice aC1 n.fCut.length cC1] a cap l w7 rN hbn (HLB.out.keep kk)
    rw [HGN.out] at hcall
    clear hf
    go_wp2_with fail
    go_fit hcall
    rintro e w8 ⟨rfl, k2⟩
    clear hcall ldN
    go_wp2_with fail
    go_ret
    exact ⟨rfl, kk.trans k2⟩
  have hf1 : (f != 0) = false := by simpa using hf
  have HME : Hid (m = stillF (newRF n tg)) := by
    show _ = _
    have h := moved_ok (n := n) (tg := tg) (by rw [HM2.out]; exact hf)
    rw [HM2.out] at h
    exact congrArg Prod.fst h
  have hbm : 1 ≤ m.fBase ∧ m.fBase ≤ 4 := by rw [HME.out, HNE.out]; exact hb4
  rw [← HME.out] at HMV
  clear hf HM2 HME HNE rowN rN
  obtain ⟨cv, hcv⟩ : ∃ v, decide (gr = g ∧ ltB l l5 = false) = v := ⟨_, rfl⟩
  have HCV := Lib.hid hcv
  clear hcv
  go_upto_region 19 with fail
  go_cut [140] from 20 to 150 (fun s140 wx => s140 = .bool cv ∧ w7 = wx)
  case first =>
    as_aux_lemma =>
    have e1 := conv_bytes (P := Try.prog) Try.underlying23 Try.underlying5 Try.underlying9 (cap := cap) rfl (HLB.out.keep kk).1
    have e2 := conv_bytes (P := Try.prog) Try.underlying23 Try.underlying5 Try.underlying9 (cap := cap5) rfl (HL5.out.keep kk).1
    obtain ⟨lv, hlv⟩ : ∃ v, ltB l l5 = v := ⟨_, rfl⟩
    have t1 : Op.bytesLess (strB l).toList (strB l5).toList = lv := by rw [strB_toList, strB_toList]; exact hlv
    have HC2 : Hid (decide (gr = g ∧ lv = false) = cv) := by show _ = _; rw [← hlv]; exact HCV.out
    clear hlv rowM rM kk HMV HCV HL5 HLB HS HR HCS HG RP HGN
    rcases test_eq gr g with ⟨h1, h2⟩ | ⟨h1, h2⟩
    · have e : cv = !lv := by rw [← HC2.out, h2.out]; cases lv <;> simp
      clear h2 HC2
      go_wp2_with fail
      go_meet
      exact ⟨by rw [e], rfl⟩
    · have e : cv = false := by rw [← HC2.out]; simp [h2]
      clear h2 HC2
      go_wp2_with fail
      go_meet
      exact ⟨by rw [e], rfl⟩
  case rest =>
  obtain ⟨rfl, rfl⟩ := hcut
  go_upto_if 140 with fail
  have ldM := Whole.run (P := Try.prog) S_Routes rfl rowM
  have hcall := Group_c m [.int .i64 m.fEpoch, .int .i64 m.fBase, .slice aS2 m.fSpans.length cS2, .int .i64 m.fMoving, .slice aC2 m.fCut.length cC2] a cap l w7 rM hbm (HLB.out.keep kk)
  cases cv with
  | true =>
    have HQ : Hid (groupF m l = tg) := by show _ = _; rw [HMV.out, if_pos (of_decide_eq_true HCV.out)]
    have htt : (tg == tg) = true := by simp
    rw [HQ.out] at hcall
    clear HMV HCV HQ
    go_wp2_with fail
    go_fit hcall
    rintro e w8 ⟨rfl, k2⟩
    clear hcall
    go_wp2_with fail
    go_ret
    exact ⟨rfl, kk.trans k2⟩
  | false =>
    have HQ : Hid (groupF m l = gr) := by show _ = _; rw [HMV.out, if_neg (of_decide_eq_false HCV.out)]
    rw [HQ.out] at hcall
    clear HMV HCV HQ
    go_wp2_with fail
    go_fit hcall
    rintro e w8 ⟨rfl, k2⟩
    clear hcall
    go_wp2_with fail
    go_ret
    exact ⟨rfl, kk.trans k2⟩
end
namespace routeOne
theorem walk {m0 m1 m2 m3 m4 m5 : Nat} (W : World) (v0 v1 v2 v3 v4 v5 : Value) (h0 : Arg Try.prog W m0 25 v0) (h1 : Arg Try.prog W m1 23 v1) (h2 : Arg Try.prog W m2 29 v2) (h3 : Arg Try.prog W m3 3 v3) (h4 : Arg Try.prog W m4 3 v4) (h5 : Arg Try.prog W m5 23 v5) :
    Calls Try.prog 6 #[v0, v1, v2, v3, v4, v5] W fun e w' => e = .returned (.bool true) ∧ Keep Nix W w' := by
  obtain ⟨csr, r, rfl, hr⟩ := routes_arg h0
  obtain ⟨a, cap, l, rfl, hl⟩ := bytes_arg h1
  obtain ⟨css, s, rfl, hs⟩ := span_arg h2
  obtain ⟨g, rfl, wf⟩ := h3.int Try.underlying3
  obtain ⟨tg, rfl, wf2⟩ := h4.int Try.underlying3
  obtain ⟨a5, cap5, l5, rfl, hl5⟩ := bytes_arg h5
  exact one_walk W r csr a cap l s css g tg a5 cap5 l5 hr hl hs hl5 (isI64_wf wf) (isI64_wf wf2)
end routeOne
end Go.Proofs.Ytpblmaklbnpbfaa
