/- FAULTS: the law FaultIs. Printed by mac.py. -/
import Derived.Test.YtnfjplchliehcaaDoorFtF
namespace Go.Proofs.YtnfjplchliehcaaDoor
open Go.RowKit Go.Extern.Stop Go.Stop Go.Extern

theorem end_code {o : Option Er} {kd code : Int} {other : List UInt8} (h : EndOk o kd code other) : errK kd code = codeO o ∧ (kd = 0 ∨ kd = 1 ∨ kd = 2) := by
  cases o with
  | none => obtain rfl : kd = 0 := h; exact ⟨rfl, .inl rfl⟩
  | some E =>
    obtain ⟨h1, h2, -⟩ := end_kd h
    exact ⟨h2, .inr h1⟩
namespace faultIs
set_option maxRecDepth 100000 in
set_option maxHeartbeats 4000000 in
theorem walk {m0 m1 m2 m3 m4 : Nat} (W : World) (v0 v1 v2 v3 v4 : Value) (h0 : Arg Tryd.prog W m0 3 v0) (h1 : Arg Tryd.prog W m1 22 v1) (h2 : Arg Tryd.prog W m2 9 v2) (h3 : Arg Tryd.prog W m3 23 v3) (h4 : Arg Tryd.prog W m4 22 v4) (hg : W.cell? ⟨0, 0, none⟩ = some (.iface 78 (.agg #[.pointer (some ⟨1, 26, none⟩)]))) :
    Calls Tryd.prog 7 #[v0, v1, v2, v3, v4] W fun e w' => e = .returned (.bool true) ∧ Keep Nix W w' := by
  obtain ⟨kp, rfl, -⟩ := h0.int Tryd.underlying3
  obtain ⟨code, rfl, -⟩ := h1.int Tryd.underlying22
  obtain ⟨sb, rfl, hsb, -⟩ := h2.string Tryd.underlying9
  obtain ⟨aW, nW, cW, rfl, rW⟩ := h3.slice Tryd.underlying23
  obtain ⟨l, hW, -⟩ := Red.toList (sz := 1) (by' := 16) (fun l : List UInt8 => l.length + 1) Tryd.underlying23 (by kernel_rfl) (by kernel_rfl) (by decide) (by decide) (fun h => Red.toStr Tryd.underlying9 h) rW
  obtain ⟨rfl, -, -⟩ := rList_len hW
  obtain ⟨other, rfl⟩ : ∃ other, sb = strB other := ⟨sb.data.toList, by simp [strB]⟩
  rw [strB_size] at hsb
  have hof : other.length ≤ far := by simpa [far, reachBytes] using hsb
  have hl := Laid.of hg
  obtain ⟨ask, rfl, -⟩ := h4.int Tryd.underlying22
  clear hg h0 h1 h2 h3 h4 rW hsb
  go_enter Tryd.func7, Tryd.ntmps7
  go_wp2_with fail
  go_fit (made_c kp code other l aW cW W hW hof)
  rintro e w1 ⟨o, v, kd, a, cap, rfl, hE, lie, hend, hln, hfr, kk⟩
  clear hW
  obtain ⟨ws, hws⟩ : ∃ ws, Hid (whsO o = ws) := ⟨_, rfl⟩
  rw [hws.out] at lie hln hfr ⊢
  obtain ⟨n, hn⟩ : ∃ n, Hid (n = ws.length) := ⟨_, rfl⟩
  rw [← hn.out] at hln ⊢
  have rowX := RowIs.alloc w1 #[.slice a n cap, .int .i64 code, .string (strB other), .int .i64 kd] 38
  have kB : Keep Nix w1 (w1.alloc (.cells #[.slice a n cap, .int .i64 code, .string (strB other), .int .i64 kd] 38)) := (Keep.refl Nix w1).alloc _
  unfold chainV
  replace hE := hE.keep kB
  replace lie := lie.keep kB (fun _ _ h => h)
  replace kk := kk.trans kB
  clear kB
  obtain ⟨hcode, hk3⟩ := end_code hend
  obtain ⟨b0, hb⟩ : ∃ b0, (codeO o == ask) = b0 := ⟨_, rfl⟩
  go_upto_region 2 with fail
  generalize hbX : w1.heap.size = bX at *
  generalize w1.alloc (.cells #[.slice a n cap, .int .i64 code, .string (strB other), .int .i64 kd] 38) = w2 at *
  have kD : Keep Nix w2 w2.drew := (Keep.refl Nix w2).drew
  replace hE := hE.keep kD
  replace rowX := rowX.keep kD id
  replace lie := lie.keep kD (fun _ _ h => h)
  replace kk := kk.trans kD
  clear kD
  have y0 := rowX.cell 0
  (try simp only [List.getElem?_cons_succ] at y0); (try simp only [List.getElem?_cons_zero] at y0)
  have y1 := rowX.cell 1
  (try simp only [List.getElem?_cons_succ] at y1); (try simp only [List.getElem?_cons_zero] at y1)
  have y2 := rowX.cell 2
  (try simp only [List.getElem?_cons_succ] at y2); (try simp only [List.getElem?_cons_zero] at y2)
  have y3 := rowX.cell 3
  (try simp only [List.getElem?_cons_succ] at y3); (try simp only [List.getElem?_cons_zero] at y3)
  refine wp_region_held_drew (S := (fun w' => w'.cell? ⟨bX, 0, none⟩ = some (.slice a n cap) ∧ w'.cell? ⟨bX, 1, none⟩ = some (.int .i64 code) ∧ w'.cell? ⟨bX, 2, none⟩ = some (.string (strB other)) ∧ w'.cell? ⟨bX, 3, none⟩ = some (.int .i64 kd))) (by kernel_rfl) (⟨y0, y1, y2, y3⟩) (fun hHeld => ?_)
  generalize w2.drew = wd at *
  refine wpAnyH_ready (rs := [0]) (by kernel_rfl) (by simp) ?_
  refine AllReadyH.cons rfl (fun K hK => ?_) AllReadyH.nil
  go_simp
  go_fit (ftawake_c wd (hl.keep kk))
  rintro e w3 ⟨rfl, kZ⟩
  replace hE := hE.keep kZ
  replace rowX := rowX.keep kZ id
  replace lie := lie.keep kZ (fun _ _ h => h)
  replace kk := kk.trans kZ
  clear kZ y0 y1 y2 y3
  skip
  go_wp2_with fail
  have y0 := rowX.cell 0
  (try simp only [List.getElem?_cons_succ] at y0); (try simp only [List.getElem?_cons_zero] at y0)
  have y1 := rowX.cell 1
  (try simp only [List.getElem?_cons_succ] at y1); (try simp only [List.getElem?_cons_zero] at y1)
  have y2 := rowX.cell 2
  (try simp only [List.getElem?_cons_succ] at y2); (try simp only [List.getElem?_cons_zero] at y2)
  have y3 := rowX.cell 3
  (try simp only [List.getElem?_cons_succ] at y3); (try simp only [List.getElem?_cons_zero] at y3)
  refine hK.out _ _ (⟨y0, y1, y2, y3⟩) (fun hHeld => ?_)
  clear hK K
  (try simp only [Act.put]); (try simp only [List.getElem_toArray]); (try simp only [List.getElem_cons_succ]); (try simp only [List.getElem_cons_zero]); (try simp only [List.setIfInBounds_toArray]); (try simp only [List.set_cons_succ]); (try simp only [List.set_cons_zero])
  refine wpAnyH_take (i := 1) (v := ?_) rfl (by kernel_rfl) (by kernel_rfl) (by kernel_rfl) (fun _ _ _ h => h) (Or.inl ⟨by kernel_rfl, ?_⟩) hHeld ?_
  rotate_left
  · intro w' hSw
    (try dsimp only at hSw)
    (try simp only [List.getElem_toArray]); (try simp only [List.getElem_cons_succ]); (try simp only [List.getElem_cons_zero])
    go_simp
    try with_reducible rfl
  (try simp only [Act.put]); (try simp only [List.getElem_toArray]); (try simp only [List.getElem_cons_succ]); (try simp only [List.getElem_cons_zero]); (try simp only [List.setIfInBounds_toArray]); (try simp only [List.set_cons_succ]); (try simp only [List.set_cons_zero])
  refine wpAnyH_take (i := 2) (v := ?_) rfl (by kernel_rfl) (by kernel_rfl) (by kernel_rfl) (fun _ _ _ h => h) (Or.inl ⟨by kernel_rfl, ?_⟩) hHeld ?_
  rotate_left
  · intro w' hSw
    (try dsimp only at hSw)
    (try simp only [List.getElem_toArray]); (try simp only [List.getElem_cons_succ]); (try simp only [List.getElem_cons_zero])
    go_simp
    try with_reducible rfl
  (try simp only [Act.put]); (try simp only [List.getElem_toArray]); (try simp only [List.getElem_cons_succ]); (try simp only [List.getElem_cons_zero]); (try simp only [List.setIfInBounds_toArray]); (try simp only [List.set_cons_succ]); (try simp only [List.set_cons_zero])
  refine wpAnyH_take (i := 3) (v := ?_) rfl (by kernel_rfl) (by kernel_rfl) (by kernel_rfl) (fun _ _ _ h => h) (Or.inl ⟨by kernel_rfl, ?_⟩) hHeld ?_
  rotate_left
  · intro w' hSw
    (try dsimp only at hSw)
    (try simp only [List.getElem_toArray]); (try simp only [List.getElem_cons_succ]); (try simp only [List.getElem_cons_zero])
    go_simp
    try with_reducible rfl
  (try simp only [Act.put]); (try simp only [List.getElem_toArray]); (try simp only [List.getElem_cons_succ]); (try simp only [List.getElem_cons_zero]); (try simp only [List.setIfInBounds_toArray]); (try simp only [List.set_cons_succ]); (try simp only [List.set_cons_zero])
  refine wpAnyH_take (i := 4) (v := ?_) rfl (by kernel_rfl) (by kernel_rfl) (by kernel_rfl) (fun _ _ _ h => h) (Or.inl ⟨by kernel_rfl, ?_⟩) hHeld ?_
  rotate_left
  · intro w' hSw
    (try dsimp only at hSw)
    (try simp only [List.getElem_toArray]); (try simp only [List.getElem_cons_succ]); (try simp only [List.getElem_cons_zero])
    go_simp
    try with_reducible rfl
  (try simp only [Act.put]); (try simp only [List.getElem_toArray]); (try simp only [List.getElem_cons_succ]); (try simp only [List.getElem_cons_zero]); (try simp only [List.setIfInBounds_toArray]); (try simp only [List.set_cons_succ]); (try simp only [List.set_cons_zero])
  refine wpAnyH_take (i := 6) (v := ?_) rfl (by kernel_rfl) (by kernel_rfl) (by kernel_rfl) (fun _ _ _ h => h) (Or.inl ⟨by kernel_rfl, ?_⟩) hHeld ?_
  rotate_left
  · intro w' hSw
    (try dsimp only at hSw)
    (try simp only [List.getElem_toArray]); (try simp only [List.getElem_cons_succ]); (try simp only [List.getElem_cons_zero])
    go_simp
    try with_reducible rfl
  (try simp only [Act.put]); (try simp only [List.getElem_toArray]); (try simp only [List.getElem_cons_succ]); (try simp only [List.getElem_cons_zero]); (try simp only [List.setIfInBounds_toArray]); (try simp only [List.set_cons_succ]); (try simp only [List.set_cons_zero])
  refine wpAnyH_take (i := 8) (v := ?_) rfl (by kernel_rfl) (by kernel_rfl) (by kernel_rfl) (fun _ _ _ h => h) (Or.inl ⟨by kernel_rfl, ?_⟩) hHeld ?_
  rotate_left
  · intro w' hSw
    (try dsimp only at hSw)
    (try simp only [List.getElem_toArray]); (try simp only [List.getElem_cons_succ]); (try simp only [List.getElem_cons_zero])
    go_simp
    try with_reducible rfl
  (try simp only [Act.put]); (try simp only [List.getElem_toArray]); (try simp only [List.getElem_cons_succ]); (try simp only [List.getElem_cons_zero]); (try simp only [List.setIfInBounds_toArray]); (try simp only [List.set_cons_succ]); (try simp only [List.set_cons_zero])
  refine wpAnyH_ready (rs := [5]) (by kernel_rfl) (by simp) ?_
  refine AllReadyH.cons rfl (fun K hK => ?_) AllReadyH.nil
  rw [if_pos (by kernel_rfl)]
  go_simp
  go_fit (faultIs_c o v ask w3 hE (hl.keep kk))
  rintro e w4 ⟨rfl, kZ⟩
  replace hE := hE.keep kZ
  replace rowX := rowX.keep kZ id
  replace lie := lie.keep kZ (fun _ _ h => h)
  replace kk := kk.trans kZ
  clear kZ y0 y1 y2 y3
  rw [hb]
  go_wp2_with fail
  have y0 := rowX.cell 0
  (try simp only [List.getElem?_cons_succ] at y0); (try simp only [List.getElem?_cons_zero] at y0)
  have y1 := rowX.cell 1
  (try simp only [List.getElem?_cons_succ] at y1); (try simp only [List.getElem?_cons_zero] at y1)
  have y2 := rowX.cell 2
  (try simp only [List.getElem?_cons_succ] at y2); (try simp only [List.getElem?_cons_zero] at y2)
  have y3 := rowX.cell 3
  (try simp only [List.getElem?_cons_succ] at y3); (try simp only [List.getElem?_cons_zero] at y3)
  refine hK.out _ _ (⟨y0, y1, y2, y3⟩) (fun hHeld => ?_)
  clear hK K
  (try simp only [Act.put]); (try simp only [List.getElem_toArray]); (try simp only [List.getElem_cons_succ]); (try simp only [List.getElem_cons_zero]); (try simp only [List.setIfInBounds_toArray]); (try simp only [List.set_cons_succ]); (try simp only [List.set_cons_zero])
  refine wpAnyH_ready (rs := [7]) (by kernel_rfl) (by simp) ?_
  refine AllReadyH.cons rfl (fun K hK => ?_) AllReadyH.nil
  rw [if_pos (by kernel_rfl)]
  go_simp
  go_fit (errR_c a cap n code other kd hk3 w4)
  rintro e w5 ⟨rfl, kZ⟩
  replace hE := hE.keep kZ
  replace rowX := rowX.keep kZ id
  replace lie := lie.keep kZ (fun _ _ h => h)
  replace kk := kk.trans kZ
  clear kZ y0 y1 y2 y3
  rw [hcode]
  go_wp2_with fail
  have y0 := rowX.cell 0
  (try simp only [List.getElem?_cons_succ] at y0); (try simp only [List.getElem?_cons_zero] at y0)
  have y1 := rowX.cell 1
  (try simp only [List.getElem?_cons_succ] at y1); (try simp only [List.getElem?_cons_zero] at y1)
  have y2 := rowX.cell 2
  (try simp only [List.getElem?_cons_succ] at y2); (try simp only [List.getElem?_cons_zero] at y2)
  have y3 := rowX.cell 3
  (try simp only [List.getElem?_cons_succ] at y3); (try simp only [List.getElem?_cons_zero] at y3)
  refine hK.out _ _ (⟨y0, y1, y2, y3⟩) (fun hHeld => ?_)
  clear hK K
  (try simp only [Act.put]); (try simp only [List.getElem_toArray]); (try simp only [List.getElem_cons_succ]); (try simp only [List.getElem_cons_zero]); (try simp only [List.setIfInBounds_toArray]); (try simp only [List.set_cons_succ]); (try simp only [List.set_cons_zero])
  refine wpAnyH_take (i := 9) (v := ?_) rfl (by kernel_rfl) (by kernel_rfl) (by kernel_rfl) (fun _ _ _ h => h) (Or.inl ⟨by kernel_rfl, ?_⟩) hHeld ?_
  rotate_left
  · intro w' hSw
    (try dsimp only at hSw)
    (try simp only [List.getElem_toArray]); (try simp only [List.getElem_cons_succ]); (try simp only [List.getElem_cons_zero])
    go_simp
    try with_reducible rfl
  (try simp only [Act.put]); (try simp only [List.getElem_toArray]); (try simp only [List.getElem_cons_succ]); (try simp only [List.getElem_cons_zero]); (try simp only [List.setIfInBounds_toArray]); (try simp only [List.set_cons_succ]); (try simp only [List.set_cons_zero])
  refine wpAnyH_take (i := 10) (v := ?_) rfl (by kernel_rfl) (by kernel_rfl) (by kernel_rfl) (fun _ _ _ h => h) (Or.inl ⟨by kernel_rfl, ?_⟩) hHeld ?_
  rotate_left
  · intro w' hSw
    (try dsimp only at hSw)
    (try simp only [List.getElem_toArray]); (try simp only [List.getElem_cons_succ]); (try simp only [List.getElem_cons_zero])
    go_simp
    try with_reducible rfl
  (try simp only [Act.put]); (try simp only [List.getElem_toArray]); (try simp only [List.getElem_cons_succ]); (try simp only [List.getElem_cons_zero]); (try simp only [List.setIfInBounds_toArray]); (try simp only [List.set_cons_succ]); (try simp only [List.set_cons_zero])
  refine wpAnyH_take (i := 11) (v := ?_) rfl (by kernel_rfl) (by kernel_rfl) (by kernel_rfl) (fun _ _ _ h => h) (Or.inl ⟨by kernel_rfl, ?_⟩) hHeld ?_
  rotate_left
  · intro w' hSw
    (try dsimp only at hSw)
    (try simp only [List.getElem_toArray]); (try simp only [List.getElem_cons_succ]); (try simp only [List.getElem_cons_zero])
    go_simp
    try with_reducible rfl
  (try simp only [Act.put]); (try simp only [List.getElem_toArray]); (try simp only [List.getElem_cons_succ]); (try simp only [List.getElem_cons_zero]); (try simp only [List.setIfInBounds_toArray]); (try simp only [List.set_cons_succ]); (try simp only [List.set_cons_zero])
  refine wpAnyH_done (by kernel_rfl) ?_ _
  clear hHeld
  cases o with
  | none =>
    obtain rfl : v = .nilIface := hE
    clear y0 y1 y2 y3
    go_wp2_with fail
    go_ret
    exact ⟨rfl, kk⟩
  | some E =>
    replace hE : IsEr w5 E v := hE
    obtain ⟨T, x, rfl⟩ := hE.iface
    rcases hend with ⟨rfl, hic, hcd, -, -⟩ | ⟨rfl, -⟩
    · clear y0 y1 y2
      have k6 : Keep Nix w5 (w5.alloc (.cells #[.int .i64 0] 22)) := (Keep.refl Nix w5).alloc _
      have rowT := RowIs.alloc w5 #[.int .i64 0] 22
      have hE6 := hE.keep k6
      have HI := Lib.hid (errorsIs_c E _ ask _ hE6 hic (hl.keep (kk.trans k6)))
      clear hb hcode
      go_wp2_with fail
      go_fit HI.out
      rintro e w7 ⟨rfl, k7⟩
      rw [hcd]
      have rowT7 := rowT.keep k7 id
      have hE7 := hE6.keep k7
      have HA := Lib.hid (asE_c E _ w5.heap.size _ w7 hE7 rowT7 (hl.keep ((kk.trans k6).trans k7)).1)
      have K7 := Lib.hid ((kk.trans k6).trans k7)
      have hsz := kk.size
      clear rowT rowT7 hE6 hE7 HI k6 k7 y3
      have hcc : (code == code) = true := by simp
      rcases test_eq code ask with ⟨t1, t2⟩ | ⟨t1, t2⟩
      · have t3 := t2.out
        subst t3
        clear t2
        go_wp2_with fail
        go_fit HA.out
        rintro e w8 ⟨rfl, rT, k8⟩
        rw [hic] at rT ⊢
        rw [if_pos rfl, hcd] at rT
        have z0 := rT.cell 0
        (try simp only [List.getElem?_cons_succ] at z0); (try simp only [List.getElem?_cons_zero] at z0)
        have HF := Lib.hid (K7.out.then k8 (fun i hi e => by omega))
        clear rT k8
        go_wp2_with fail
        go_ret
        exact ⟨rfl, HF.out⟩
      · have t3 : (ask == code) = false := by
          cases h : (ask == code)
          · rfl
          · exact absurd (by simpa using h : ask = code).symm t2
        clear t2
        go_wp2_with fail
        go_fit HA.out
        rintro e w8 ⟨rfl, rT, k8⟩
        rw [hic] at rT ⊢
        rw [if_pos rfl, hcd] at rT
        have z0 := rT.cell 0
        (try simp only [List.getElem?_cons_succ] at z0); (try simp only [List.getElem?_cons_zero] at z0)
        have HF := Lib.hid (K7.out.then k8 (fun i hi e => by omega))
        clear rT k8
        go_wp2_with fail
        go_ret
        exact ⟨rfl, HF.out⟩
    · clear y0 y1 y2 hE
      go_wp2_with fail
      go_ret
      exact ⟨rfl, kk⟩
end faultIs
end Go.Proofs.YtnfjplchliehcaaDoor
