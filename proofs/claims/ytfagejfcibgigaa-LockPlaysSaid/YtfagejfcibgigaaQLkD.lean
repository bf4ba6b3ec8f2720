/- LOCK: May. Printed by mac.py. -/
import Derived.Test.YtfagejfcibgigaaQLkC
import Derived.Maps.RangeWalk
namespace Go.Proofs.Ytfagejfcibgigaa
open Go.RowKit

def disT (L : List GHeld) (h : GHeld) : Bool := L.any (fun o => disB h o || disB o h)
def mayF (L : List GHeld) (h : GHeld) : Int := if h.fTxn = 0 then 1 else if (findT L h.fTxn).isSome = true then 6 else if disT L h = true then 12 else 0
theorem isU64_of_wf {x : Int} (h : (Lit.int .u64 x).wf = true) : isU64 x := by
  simp [Lit.wf, IntKind.min, IntKind.max, IntKind.signed, IntKind.bits] at h
  exact ⟨by omega, by omega⟩
theorem disB_zero (h : GHeld) : disB h (valO none) = false ∧ disB (valO none) h = false := by
  refine ⟨?_, rfl⟩
  unfold disB
  rw [List.any_eq_false]
  intro x _
  simp [valO, rdB, wrB]
theorem Keep.grow {w w' : World} (k : Keep Nix w w') : w.grownBy w' none := ⟨k.os, k.tape, k.output, k.size, fun i hi _ => k.block i hi id⟩
theorem findT_of_mem {L : List GHeld} (ok : TabOk L) {h : GHeld} (hm : h ∈ L) : findT L h.fTxn = some h := by
  cases e : findT L h.fTxn with
  | none =>
    have := List.find?_eq_none.1 e h hm
    simp at this
  | some o =>
    obtain ⟨h1, h2⟩ := findT_mem e
    obtain ⟨i, hi, rfl⟩ := List.mem_iff_getElem.1 hm
    obtain ⟨j, hj, rfl⟩ := List.mem_iff_getElem.1 h1
    have hr := List.pairwise_iff_getElem.1 ok.rising
    rcases Nat.lt_trichotomy i j with q | q | q
    · have := hr i j hi hj q; omega
    · subst q; rfl
    · have := hr j i hj hi q; omega
set_option maxRecDepth 100000 in
set_option maxHeartbeats 2000000 in
theorem may_c {p : Nat → Prop} (O : Nat → Prop) (g n : Nat) (L : List GHeld) (h : GHeld) (csh : List Value) (w : World) (T : IsTab w O g n L) (hh : rGHeld w p csh h) (hp : ∀ b, p b → b < w.heap.size) :
    Calls Try.prog 12 #[.pointer (some ⟨g, 0, none⟩), .agg csh.toArray] w fun e w' => e = .returned (.int .i64 (mayF L h)) ∧ Keep Nix w w' := by
  have hh2 := hh
  obtain ⟨aK, cK, aS, cS, aW, cW, rfl, ht, -⟩ := rGHeld_open hh
  have T0 := T.lt
  have kA : Keep Nix w (w.alloc (.cells #[.int .u64 h.fTxn, .slice aK h.fKeys.length cK, .slice aS h.fSpans.length cS, .slice aW h.fWrites.length cW] 28)) := (Keep.refl Nix w).alloc _
  obtain ⟨lt, og, ok, bM, D, oM, ne, row, m⟩ := T.nix kA
  have row0 : RowIs (w.alloc (.cells #[.int .u64 h.fTxn, .slice aK h.fKeys.length cK, .slice aS h.fSpans.length cS, .slice aW h.fWrites.length cW] 28)) w.heap.size 28 [.int .u64 h.fTxn, .slice aK h.fKeys.length cK, .slice aS h.fSpans.length cS, .slice aW h.fWrites.length cW] := RowIs.alloc w _ _
  have hhA := rGHeld_lawful.nix hh2 kA
  obtain ⟨y, HY⟩ : ∃ y, Hid (mayF L h = y) := ⟨_, rfl⟩
  rw [HY.out]
  have hslt : w.heap.size < ((w.alloc (.cells #[.int .u64 h.fTxn, .slice aK h.fKeys.length cK, .slice aS h.fSpans.length cS, .slice aW h.fWrites.length cW] 28))).heap.size := row0.lt
  have hgA := lt g og
  have y0 := row0.cell 0
  (try simp only [List.getElem?_cons_zero] at y0)
  by_cases h0 : h.fTxn = 0
  · have e : Hid (y = 1) := by show _ = _; rw [← HY.out]; unfold mayF; rw [if_pos h0]
    have hq : (h.fTxn == 0) = true := by simp [h0]
    clear h0 hh hh2 T m row row0 hhA
    go_enter Try.func12, Try.ntmps12
    go_wp2_with fail
    go_ret
    exact ⟨by rw [e.out]; rfl, kA⟩
  · have hq : (h.fTxn == 0) = false := by simp [h0]
    have H0 := Lib.hid h0
    obtain ⟨v, hv, ⟨cs, rfl, rh⟩, hhas⟩ := m.2 h.fTxn ht
    have hlk : Hid (∀ w', Keep Nix (w.alloc (.cells #[.int .u64 h.fTxn, .slice aK h.fKeys.length cK, .slice aS h.fSpans.length cS, .slice aW h.fWrites.length cW] 28)) w' → (Instr.lookup 66 (.map (some bM)) (.int .u64 h.fTxn) true).run Try.prog w' = .ok (.tuple #[.agg cs.toArray, .bool (Maps.has D (keyU h.fTxn))]) w') := fun w' k => look_run_ok (ownsMap_keep m.1 k id) ht hv
    obtain ⟨is, HIS⟩ : ∃ y, Hid ((findT L h.fTxn).isSome = y) := ⟨_, rfl⟩
    rw [hhas, HIS.out] at hlk
    generalize valO (findT L h.fTxn) = o at *
    obtain ⟨bK, dK, bS, dS, bW, dW, rfl, -⟩ := rGHeld_open rh
    have HM := Lib.hid m
    have HR := Lib.hid row
    have HR0 := Lib.hid row0
    have HH := Lib.hid hhA
    clear hv hhas rh T hh hh2 m row hhA h0
    go_enter Try.func12, Try.ntmps12
    go_upto_region 5 with fail
    clear y0
    have kd : Keep Nix w ((w.alloc (.cells #[.int .u64 h.fTxn, .slice aK h.fKeys.length cK, .slice aS h.fSpans.length cS, .slice aW h.fWrites.length cW] 28))).drew := kA.drew
    have HM := Lib.hid (HM.out.keep ((Keep.refl Nix (w.alloc (.cells #[.int .u64 h.fTxn, .slice aK h.fKeys.length cK, .slice aS h.fSpans.length cS, .slice aW h.fWrites.length cW] 28))).drew) id (fun _ _ => id))
    have HR := Lib.hid (HR.out.keep ((Keep.refl Nix (w.alloc (.cells #[.int .u64 h.fTxn, .slice aK h.fKeys.length cK, .slice aS h.fSpans.length cS, .slice aW h.fWrites.length cW] 28))).drew) id)
    have HR0 := Lib.hid (HR0.out.keep ((Keep.refl Nix (w.alloc (.cells #[.int .u64 h.fTxn, .slice aK h.fKeys.length cK, .slice aS h.fSpans.length cS, .slice aW h.fWrites.length cW] 28))).drew) id)
    have HH := Lib.hid (rGHeld_lawful.nix HH.out ((Keep.refl Nix (w.alloc (.cells #[.int .u64 h.fTxn, .slice aK h.fKeys.length cK, .slice aS h.fSpans.length cS, .slice aW h.fWrites.length cW] 28))).drew))
    have hlk : Hid (∀ w', Keep Nix ((w.alloc (.cells #[.int .u64 h.fTxn, .slice aK h.fKeys.length cK, .slice aS h.fSpans.length cS, .slice aW h.fWrites.length cW] 28))).drew w' → (Instr.lookup 66 (.map (some bM)) (.int .u64 h.fTxn) true).run Try.prog w' = .ok (.tuple #[.agg #[.int .u64 o.fTxn, .slice bK o.fKeys.length dK, .slice bS o.fSpans.length dS, .slice bW o.fWrites.length dW], .bool is]) w') := fun w' k => hlk.out w' (((Keep.refl Nix (w.alloc (.cells #[.int .u64 h.fTxn, .slice aK h.fKeys.length cK, .slice aS h.fSpans.length cS, .slice aW h.fWrites.length cW] 28))).drew).trans k)
    have HSS : Hid (∀ w', Keep Nix ((w.alloc (.cells #[.int .u64 h.fTxn, .slice aK h.fKeys.length cK, .slice aS h.fSpans.length cS, .slice aW h.fWrites.length cW] 28))).drew w' → w'.cell? ⟨g, 0, none⟩ = some (.map (some bM)) ∧ w'.cell? ⟨w.heap.size, 0, none⟩ = some (.int .u64 h.fTxn) ∧ (Instr.lookup 66 (.map (some bM)) (.int .u64 h.fTxn) true).run Try.prog w' = .ok (.tuple #[.agg #[.int .u64 o.fTxn, .slice bK o.fKeys.length dK, .slice bS o.fSpans.length dS, .slice bW o.fWrites.length dW], .bool is]) w') := fun w' k =>
      ⟨by simpa using (HR.out.keep k id).cell 0, by simpa using (HR0.out.keep k id).cell 0, hlk.out w' k⟩
    refine wp_region_held_drew (S := (fun w' => w'.cell? ⟨g, 0, none⟩ = some (.map (some bM)) ∧ w'.cell? ⟨w.heap.size, 0, none⟩ = some (.int .u64 h.fTxn) ∧ (Instr.lookup 66 (.map (some bM)) (.int .u64 h.fTxn) true).run Try.prog w' = .ok (.tuple #[.agg #[.int .u64 o.fTxn, .slice bK o.fKeys.length dK, .slice bS o.fSpans.length dS, .slice bW o.fWrites.length dW], .bool is]) w')) (by kernel_rfl) (HSS.out _ (Keep.refl _ _)) (fun hHeld => ?_)
    generalize ((w.alloc (.cells #[.int .u64 h.fTxn, .slice aK h.fKeys.length cK, .slice aS h.fSpans.length cS, .slice aW h.fWrites.length cW] 28))).drew = w1 at *
    refine wpAnyH_take (i := 0) (v := ?_) rfl (by kernel_rfl) (by kernel_rfl) (by kernel_rfl) (fun _ _ _ h => h) (Or.inl ⟨by kernel_rfl, ?_⟩) hHeld ?_
    rotate_left
    · intro w' hSw
      (try dsimp only at hSw)
      (try simp only [List.getElem_toArray]); (try simp only [List.getElem_cons_succ]); (try simp only [List.getElem_cons_zero])
      go_simp
      try with_reducible rfl
    (try simp only [Act.put]); (try simp only [List.getElem_toArray]); (try simp only [List.getElem_cons_succ]); (try simp only [List.getElem_cons_zero]); (try simp only [List.setIfInBounds_toArray]); (try simp only [List.set_cons_succ]); (try simp only [List.set_cons_zero])
    refine wpAnyH_take (i := 1) (v := ?_) rfl (by kernel_rfl) (by kernel_rfl) (by kernel_rfl) (fun _ _ _ h => h) (Or.inl ⟨by kernel_rfl, ?_⟩) hHeld ?_
    rotate_left
    · intro w' hSw
      (try dsimp only at hSw)
      (try simp only [List.getElem_toArray]); (try simp only [List.getElem_cons_succ]); (try simp only [List.getElem_cons_zero])
      go_simp
      try with_reducible rfl
    (try simp only [Act.put]); (try simp only [List.getElem_toArray]); (try simp only [List.getElem_cons_succ]); (try simp only [List.getElem_cons_zero]); (try simp only [List.setIfInBounds_toArray]); (try simp only [List.set_cons_succ]); (try simp only [List.set_cons_zero])
    refine wpAnyH_take (i := 2) (v := ?_) rfl (by kernel_rfl) (by kernel_rfl) (by kernel_rfl) (fun _ _ _ h => h) (Or.inl ⟨by kernel_rfl, ?_⟩) hHeld ?_
    rotate_left
    · intro w' hSw
      (try dsimp only at hSw)
      (try simp only [List.getElem_toArray]); (try simp only [List.getElem_cons_succ]); (try simp only [List.getElem_cons_zero])
      go_simp
      try with_reducible rfl
    (try simp only [Act.put]); (try simp only [List.getElem_toArray]); (try simp only [List.getElem_cons_succ]); (try simp only [List.getElem_cons_zero]); (try simp only [List.setIfInBounds_toArray]); (try simp only [List.set_cons_succ]); (try simp only [List.set_cons_zero])
    refine wpAnyH_take (i := 3) (v := ?_) rfl (by kernel_rfl) (by kernel_rfl) (by kernel_rfl) (fun _ _ _ h => h) (Or.inl ⟨by kernel_rfl, ?_⟩) hHeld ?_
    rotate_left
    · intro w' hSw
      (try dsimp only at hSw)
      (try simp only [List.getElem_toArray]); (try simp only [List.getElem_cons_succ]); (try simp only [List.getElem_cons_zero])
      go_simp
      try with_reducible rfl
    (try simp only [Act.put]); (try simp only [List.getElem_toArray]); (try simp only [List.getElem_cons_succ]); (try simp only [List.getElem_cons_zero]); (try simp only [List.setIfInBounds_toArray]); (try simp only [List.set_cons_succ]); (try simp only [List.set_cons_zero])
    refine wpAnyH_take (i := 4) (v := ?_) rfl (by kernel_rfl) (by kernel_rfl) (by kernel_rfl) (fun _ _ _ h => h) (Or.inl ⟨by kernel_rfl, ?_⟩) hHeld ?_
    rotate_left
    · intro w' hSw
      (try dsimp only at hSw)
      (try simp only [List.getElem_toArray]); (try simp only [List.getElem_cons_succ]); (try simp only [List.getElem_cons_zero])
      go_simp
      try with_reducible rfl
    (try simp only [Act.put]); (try simp only [List.getElem_toArray]); (try simp only [List.getElem_cons_succ]); (try simp only [List.getElem_cons_zero]); (try simp only [List.setIfInBounds_toArray]); (try simp only [List.set_cons_succ]); (try simp only [List.set_cons_zero])
    refine wpAnyH_take (i := 5) (v := ?_) rfl (by kernel_rfl) (by kernel_rfl) (by kernel_rfl) (fun _ _ _ h => h) (Or.inl ⟨by kernel_rfl, ?_⟩) hHeld ?_
    rotate_left
    · intro w' hSw
      (try dsimp only at hSw)
      (try simp only [List.getElem_toArray]); (try simp only [List.getElem_cons_succ]); (try simp only [List.getElem_cons_zero])
      go_simp
      try with_reducible rfl
    (try simp only [Act.put]); (try simp only [List.getElem_toArray]); (try simp only [List.getElem_cons_succ]); (try simp only [List.getElem_cons_zero]); (try simp only [List.setIfInBounds_toArray]); (try simp only [List.set_cons_succ]); (try simp only [List.set_cons_zero])
    refine wpAnyH_take (i := 6) (v := ?_) rfl (by kernel_rfl) (by kernel_rfl) (by kernel_rfl) (fun _ _ _ h => h) (Or.inl ⟨by kernel_rfl, ?_⟩) hHeld ?_
    rotate_left
    · intro w' hSw
      (try dsimp only at hSw)
      (try simp only [List.getElem_toArray]); (try simp only [List.getElem_cons_succ]); (try simp only [List.getElem_cons_zero])
      go_simp
      try with_reducible rfl
    (try simp only [Act.put]); (try simp only [List.getElem_toArray]); (try simp only [List.getElem_cons_succ]); (try simp only [List.getElem_cons_zero]); (try simp only [List.setIfInBounds_toArray]); (try simp only [List.set_cons_succ]); (try simp only [List.set_cons_zero])
    refine wpAnyH_take (i := 7) (v := ?_) rfl (by kernel_rfl) (by kernel_rfl) (by kernel_rfl) (fun _ _ _ h => h) (Or.inl ⟨by kernel_rfl, ?_⟩) hHeld ?_
    rotate_left
    · intro w' hSw
      (try dsimp only at hSw)
      (try simp only [List.getElem_toArray]); (try simp only [List.getElem_cons_succ]); (try simp only [List.getElem_cons_zero])
      go_simp
      try with_reducible rfl
    (try simp only [Act.put]); (try simp only [List.getElem_toArray]); (try simp only [List.getElem_cons_succ]); (try simp only [List.getElem_cons_zero]); (try simp only [List.setIfInBounds_toArray]); (try simp only [List.set_cons_succ]); (try simp only [List.set_cons_zero])
    refine wpAnyH_take (i := 8) (v := ?_) rfl (by kernel_rfl) (by kernel_rfl) (by kernel_rfl) (fun _ _ _ h => h) (Or.inl ⟨by kernel_rfl, ?_⟩) hHeld ?_
    rotate_left
    · intro w' hSw
      (try dsimp only at hSw)
      (try simp only [List.getElem_toArray]); (try simp only [List.getElem_cons_succ]); (try simp only [List.getElem_cons_zero])
      go_simp
      try with_reducible rfl
    (try simp only [Act.put]); (try simp only [List.getElem_toArray]); (try simp only [List.getElem_cons_succ]); (try simp only [List.getElem_cons_zero]); (try simp only [List.setIfInBounds_toArray]); (try simp only [List.set_cons_succ]); (try simp only [List.set_cons_zero])
    refine wpAnyH_take (i := 9) (v := ?_) rfl (by kernel_rfl) (by kernel_rfl) (by kernel_rfl) (fun _ _ _ h => h) (Or.inl ⟨by kernel_rfl, ?_⟩) hHeld ?_
    rotate_left
    · intro w' hSw
      (try dsimp only at hSw)
      (try simp only [List.getElem_toArray]); (try simp only [List.getElem_cons_succ]); (try simp only [List.getElem_cons_zero])
      go_simp
      try with_reducible rfl
    (try simp only [Act.put]); (try simp only [List.getElem_toArray]); (try simp only [List.getElem_cons_succ]); (try simp only [List.getElem_cons_zero]); (try simp only [List.setIfInBounds_toArray]); (try simp only [List.set_cons_succ]); (try simp only [List.set_cons_zero])
    refine wpAnyH_ready (rs := [10]) (by kernel_rfl) (by simp) ?_
    refine AllReadyH.cons rfl (fun K hK => ?_) AllReadyH.nil
    (try simp only [List.getElem_toArray]); (try simp only [List.getElem_cons_succ]); (try simp only [List.getElem_cons_zero])
    go_simp
    have kX : Keep Nix w1 (w1.alloc (.cells #[.int .u64 0, .slice none 0 0, .slice none 0 0, .slice none 0 0] 28)) := (Keep.refl Nix w1).alloc _
    have rowX := RowIs.alloc w1 #[.int .u64 0, .slice none 0 0, .slice none 0 0, .slice none 0 0] 28
    refine hK.out _ _ ((HSS.out _ kX)) (fun hHeld => ?_)
    clear hK K
    (try simp only [Act.put]); (try simp only [List.getElem_toArray]); (try simp only [List.getElem_cons_succ]); (try simp only [List.getElem_cons_zero]); (try simp only [List.setIfInBounds_toArray]); (try simp only [List.set_cons_succ]); (try simp only [List.set_cons_zero])
    refine wpAnyH_ready (rs := [11]) (by kernel_rfl) (by simp) ?_
    refine AllReadyH.cons rfl (fun K hK => ?_) AllReadyH.nil
    (try simp only [List.getElem_toArray]); (try simp only [List.getElem_cons_succ]); (try simp only [List.getElem_cons_zero])
    have z0 := rowX.cell 0
    (try simp only [List.getElem?_cons_zero] at z0)
    have z1 := rowX.cell 1
    (try simp only [List.getElem?_cons_succ] at z1); (try simp only [List.getElem?_cons_zero] at z1)
    have z2 := rowX.cell 2
    (try simp only [List.getElem?_cons_succ] at z2); (try simp only [List.getElem?_cons_zero] at z2)
    have z3 := rowX.cell 3
    (try simp only [List.getElem?_cons_succ] at z3); (try simp only [List.getElem?_cons_zero] at z3)
    have zf0 := rowX.frozen 0
    have zf1 := rowX.frozen 1
    have zf2 := rowX.frozen 2
    have zf3 := rowX.frozen 3
    go_simp
    clear z0 z1 z2 z3 zf0 zf1 zf2 zf3
    have kX2 : Keep Nix w1 (w1.alloc (.cells #[.int .u64 o.fTxn, .slice bK o.fKeys.length dK, .slice bS o.fSpans.length dS, .slice bW o.fWrites.length dW] 28)) := (Keep.refl Nix w1).alloc _
    refine hK.out _ _ ((HSS.out _ kX2)) (fun hHeld => ?_)
    clear hK K
    (try simp only [Act.put]); (try simp only [List.getElem_toArray]); (try simp only [List.getElem_cons_succ]); (try simp only [List.getElem_cons_zero]); (try simp only [List.setIfInBounds_toArray]); (try simp only [List.set_cons_succ]); (try simp only [List.set_cons_zero])
    refine wpAnyH_take (i := 12) (v := ?_) rfl (by kernel_rfl) (by kernel_rfl) (by kernel_rfl) (fun _ _ _ h => h) (Or.inl ⟨by kernel_rfl, ?_⟩) hHeld ?_
    rotate_left
    · intro w' hSw
      (try dsimp only at hSw)
      (try simp only [List.getElem_toArray]); (try simp only [List.getElem_cons_succ]); (try simp only [List.getElem_cons_zero])
      go_simp
      try with_reducible rfl
    (try simp only [Act.put]); (try simp only [List.getElem_toArray]); (try simp only [List.getElem_cons_succ]); (try simp only [List.getElem_cons_zero]); (try simp only [List.setIfInBounds_toArray]); (try simp only [List.set_cons_succ]); (try simp only [List.set_cons_zero])
    refine wpAnyH_done (by kernel_rfl) ?_ _
    clear hHeld rowX kX
    have HM2 := Lib.hid (HM.out.keep kX2 id (fun _ _ => id))
    have HR2 := Lib.hid (HR.out.keep kX2 id)
    have HR02 := Lib.hid (HR0.out.keep kX2 id)
    have HH2 := Lib.hid (rGHeld_lawful.nix HH.out kX2)
    have kk2 := kd.trans kX2
    clear HM HR HR0 HH hlk HSS kd
    generalize w1.alloc (.cells #[.int .u64 o.fTxn, .slice bK o.fKeys.length dK, .slice bS o.fSpans.length dS, .slice bW o.fWrites.length dW] 28) = w2 at *
    clear kX2
    cases is with
    | true =>
      have e : Hid (y = 6) := by show _ = _; rw [← HY.out]; unfold mayF; rw [if_neg H0.out, if_pos HIS.out]
      go_wp2_with fail
      go_ret
      exact ⟨by rw [e.out]; rfl, kk2⟩
    | false =>
      have HE : Hid (y = if disT L h = true then 12 else 0) := by show _ = _; rw [← HY.out]; unfold mayF; rw [if_neg H0.out, HIS.out]; rfl
      have g0 := HR2.out.cell 0
      (try simp only [List.getElem?_cons_zero] at g0)
      have hown := HM2.out.1
      go_wp2_with (first | (at_range; refine wpList_range_own _ rfl _ 66 rfl 23 28 uK Try.underlying66 heldV bM n D rfl hown ?_; intro w3 hrg0 hg0 hs0) | go_in)
      go_frame
      have k3 : Keep Nix w2 w3 := (Keep.refl Nix w2).grown hg0 (fun _ h => by cases h)
      have kk3 := kk2.trans k3
      have HM3 := Lib.hid (HM2.out.keep k3 id (fun _ _ => id))
      have HR3 := Lib.hid (HR02.out.keep k3 id)
      have HH3 := Lib.hid (rGHeld_lawful.nix HH2.out k3)
      have hr1 := HR02.out.lt
      have hr2 : w.heap.size ≠ w2.heap.size := by omega
      have hst : ∀ k q, isU64 k → findT L k = some q → Maps.has D (keyU k) = false → (disB h q || disB q h) = false := fun k q hk hq hf => by
        obtain ⟨_, _, _, h3⟩ := HM2.out.2 k hk
        rw [hf, hq] at h3
        cases h3
      have HLT := Lib.hid T0
      clear g0 hown hg0 hs0 HM2 HR02 HH2 HR2
      generalize hr : w2.heap.size = r at *
      go_loopw [33] (fun _ wr => ∃ (left : Lit → Bool) (cnt : Nat), wr.ranges Try.prog 23 heldV bM r n D left cnt ∧ (∀ k q, isU64 k → findT L k = some q → left (keyU k) = false → (disB h q || disB q h) = false) ∧ Keep (· = r) w3 wr) (fun _ wr => wr.rangeLeft bM r)
      case atStart => exact ⟨_, _, hrg0, hst, Keep.refl _ _⟩
      case round =>
        clear hst hrg0
        obtain ⟨left, cnt, hrg, hC, kr⟩ := hrel
        go_wp2_with (first | (at_next; refine wpList_next_ranges _ rfl _ rfl 23 uK heldV (Value.int .u64) id (fun key kl hk => by obtain ⟨x, hx, _⟩ := Maps.keyOf_int_inv Try.underlying23 hk; exact ⟨x, hx⟩) (fun v _ _ => ⟨v, rfl⟩) bM r n _ _ _ rfl hrg ?_ ?_) | go_in)
        · intro hc0 hl0
          go_wp2_with fail
          go_ret
          have hd : disT L h = false := by
            refine List.any_eq_false.2 (fun q hq => ?_)
            rw [hC q.fTxn q (ok.u64 q hq) (findT_of_mem ok hq) (hl0 _)]
            exact Bool.false_ne_true
          refine ⟨?_, kk3.then kr (fun i hi e => by have := kk2.size; omega)⟩
          rw [HE.out, hd]; rfl
        · intro x c kl yd yp w4 cnt2 hkey hlk hv hat hrg2 hlt2 hg2 hs2 hen
          obtain ⟨x', ex, rfl, hwx⟩ := Maps.keyOf_int_inv Try.underlying23 hkey
          cases ex
          have hux : isU64 x := isU64_of_wf hwx
          obtain ⟨vq, h1, ⟨csq, rfl, rq⟩, h3⟩ := HM3.out.2 x hux
          have hcq : c = .agg csq.toArray := by
            have e1 := hat (.held zH)
            have e2 : (DataW.held c : DataW Value) = yd := by simpa [heldV] using congrArg (fun z => z.map (·.1)) hv
            have e3 : (DataW.held (Value.agg csq.toArray) : DataW Value) = DataW.held c := h1.symm.trans (e1.trans e2.symm)
            exact (DataW.held.inj e3).symm
          subst hcq
          obtain ⟨q, HQ⟩ : ∃ q, Hid (valO (findT L x) = q) := ⟨_, rfl⟩
          rw [HQ.out] at rq
          have k4 : Keep (· = r) wr w4 := (Keep.refl _ wr).grown hg2 (fun _ h _ => by cases h; rfl)
          have kr4 := kr.trans k4
          have rq4 := rGHeld_lawful.keep rq kr4 (fun b hb e => by have := HLT.out b hb.1; omega)
          have hh4 := rGHeld_lawful.keep HH3.out kr4 (fun b hb e => by have := hp b hb; omega)
          have row4 := HR3.out.keep kr4 hr2
          obtain ⟨eK, fK, eS, fS, eW, fW, rfl, -⟩ := rGHeld_open rq4
          have k5 : Keep Nix w4 (w4.alloc (.cells #[.int .u64 q.fTxn, .slice eK q.fKeys.length fK, .slice eS q.fSpans.length fS, .slice eW q.fWrites.length fW] 28)) := (Keep.refl Nix w4).alloc _
          have rq5 := rGHeld_lawful.nix rq4 k5
          have hh5 := rGHeld_lawful.nix hh4 k5
          have row5 := row4.keep k5 id
          have rowQ := RowIs.alloc w4 #[.int .u64 q.fTxn, .slice eK q.fKeys.length fK, .slice eS q.fSpans.length fS, .slice eW q.fWrites.length fW] 28
          have hc1 := may1_c h q [.int .u64 h.fTxn, .slice aK h.fKeys.length cK, .slice aS h.fSpans.length cS, .slice aW h.fWrites.length cW] [.int .u64 q.fTxn, .slice eK q.fKeys.length fK, .slice eS q.fSpans.length fS, .slice eW q.fWrites.length fW] (w4.alloc (.cells #[.int .u64 q.fTxn, .slice eK q.fKeys.length fK, .slice eS q.fSpans.length fS, .slice eW q.fWrites.length fW] 28)) hh5 rq5
          have hc2 : Hid (∀ w', Keep Nix (w4.alloc (.cells #[.int .u64 q.fTxn, .slice eK q.fKeys.length fK, .slice eS q.fSpans.length fS, .slice eW q.fWrites.length fW] 28)) w' → Calls Try.prog 36 #[.agg #[.int .u64 q.fTxn, .slice eK q.fKeys.length fK, .slice eS q.fSpans.length fS, .slice eW q.fWrites.length fW], .agg #[.int .u64 h.fTxn, .slice aK h.fKeys.length cK, .slice aS h.fSpans.length cS, .slice aW h.fWrites.length cW]] w' fun e w'' => e = .returned (.bool (disB q h)) ∧ Keep Nix w' w'') := fun w' k => may1_c q h [.int .u64 q.fTxn, .slice eK q.fKeys.length fK, .slice eS q.fSpans.length fS, .slice eW q.fWrites.length fW] [.int .u64 h.fTxn, .slice aK h.fKeys.length cK, .slice aS h.fSpans.length cS, .slice aW h.fWrites.length cW] w' (rGHeld_lawful.nix rq5 k) (rGHeld_lawful.nix hh5 k)
          have HROW : Hid (∀ w', Keep Nix (w4.alloc (.cells #[.int .u64 q.fTxn, .slice eK q.fKeys.length fK, .slice eS q.fSpans.length fS, .slice eW q.fWrites.length fW] 28)) w' → RowIs w' w.heap.size 28 [.int .u64 h.fTxn, .slice aK h.fKeys.length cK, .slice aS h.fSpans.length cS, .slice aW h.fWrites.length cW] ∧ RowIs w' w4.heap.size 28 [.int .u64 q.fTxn, .slice eK q.fKeys.length fK, .slice eS q.fSpans.length fS, .slice eW q.fWrites.length fW]) := fun w' k => ⟨row5.keep k id, rowQ.keep k id⟩
          have kr5 : Keep (· = r) w3 (w4.alloc (.cells #[.int .u64 q.fTxn, .slice eK q.fKeys.length fK, .slice eS q.fSpans.length fS, .slice eW q.fWrites.length fW] 28)) := kr4.trans k5.nix
          have rg5 := hrg2.kept k5.grow (fun h => by cases h) (fun h => by cases h)
          have HRG := Lib.hid rg5
          have HRG0 := Lib.hid hrg
          have HCNT := Lib.hid hlt2
          have HD1 : Hid (disB h q = disB h q) := rfl
          have c0 := row5.cell 0
          have q0 := rowQ.cell 0
          (try simp only [List.getElem?_cons_zero] at c0 q0)
          have c1 := row5.cell 1
          (try simp only [List.getElem?_cons_succ] at c1); (try simp only [List.getElem?_cons_zero] at c1)
          have c2 := row5.cell 2
          (try simp only [List.getElem?_cons_succ] at c2); (try simp only [List.getElem?_cons_zero] at c2)
          have c3 := row5.cell 3
          (try simp only [List.getElem?_cons_succ] at c3); (try simp only [List.getElem?_cons_zero] at c3)
          have q1 := rowQ.cell 1
          (try simp only [List.getElem?_cons_succ] at q1); (try simp only [List.getElem?_cons_zero] at q1)
          have q2 := rowQ.cell 2
          (try simp only [List.getElem?_cons_succ] at q2); (try simp only [List.getElem?_cons_zero] at q2)
          have q3 := rowQ.cell 3
          (try simp only [List.getElem?_cons_succ] at q3); (try simp only [List.getElem?_cons_zero] at q3)
          have HHK := Lib.hid hkey
          have HHL := Lib.hid hlk
          obtain ⟨d1, HDA⟩ : ∃ d, Hid (disB h q = d) := ⟨_, rfl⟩
          obtain ⟨d2, HDB⟩ : ∃ d, Hid (disB q h = d) := ⟨_, rfl⟩
          rw [HDA.out] at hc1
          rw [HDB.out] at hc2
          have hfin : Hid (d1 = true ∨ d2 = true → disT L h = true) := fun hd => by
            cases hf : findT L x with
            | none =>
              have hz : q = valO none := by rw [← HQ.out, hf]
              have h1 := disB_zero h
              rw [← hz, HDA.out, HDB.out] at h1
              rw [h1.1, h1.2] at hd
              exact hd.elim (fun h => by cases h) (fun h => by cases h)
            | some z =>
              have hz : q = z := by rw [← HQ.out, hf]; rfl
              refine List.any_eq_true.2 ⟨z, (findT_mem hf).1, ?_⟩
              rw [← hz, HDA.out, HDB.out]
              exact hd.elim (fun h => by rw [h]; rfl) (fun h => by rw [h]; simp)
          have hstep : Hid (d1 = false → d2 = false → ∀ k z, isU64 k → findT L k = some z → (left (keyU k) && !(keyU k).sameKey (keyU x)) = false → (disB h z || disB z h) = false) := fun e1 e2 k z hk hz hl => by
            by_cases hkx : k = x
            · subst hkx
              have hq : q = z := by rw [← HQ.out, hz]; rfl
              rw [← hq, HDA.out, HDB.out, e1, e2]; rfl
            · have hs : (keyU k).sameKey (keyU x) = false := Maps.sameKey_ne (keyU_ne hkx)
              rw [hs] at hl
              exact hC k z hk hz (by simpa using hl)
          clear row4 row5 rowQ rq4 rq5 hh4 hh5 rq hv h1 h3 hat hrg2 hlt2 rg5 k4 hg2 hs2 hC hrg hkey hlk HD1
          go_wp2_with fail
          go_fit hc1
          rintro e w6 ⟨rfl, k6⟩
          obtain ⟨row6, rowQ6⟩ := HROW.out w6 k6
          clear hc1 c0 c1 c2 c3 q0 q1 q2 q3
          cases d1 with
          | true =>
            go_wp2_with fail
            go_ret
            refine ⟨?_, (kk3.then kr5 (fun i hi e => by have := kk2.size; omega)).trans k6⟩
            rw [HE.out, hfin.out (by simp)]; rfl
          | false =>
            have c0 := row6.cell 0
            have q0 := rowQ6.cell 0
            (try simp only [List.getElem?_cons_zero] at c0 q0)
            have c1 := row6.cell 1
            (try simp only [List.getElem?_cons_succ] at c1); (try simp only [List.getElem?_cons_zero] at c1)
            have c2 := row6.cell 2
            (try simp only [List.getElem?_cons_succ] at c2); (try simp only [List.getElem?_cons_zero] at c2)
            have c3 := row6.cell 3
            (try simp only [List.getElem?_cons_succ] at c3); (try simp only [List.getElem?_cons_zero] at c3)
            have q1 := rowQ6.cell 1
            (try simp only [List.getElem?_cons_succ] at q1); (try simp only [List.getElem?_cons_zero] at q1)
            have q2 := rowQ6.cell 2
            (try simp only [List.getElem?_cons_succ] at q2); (try simp only [List.getElem?_cons_zero] at q2)
            have q3 := rowQ6.cell 3
            (try simp only [List.getElem?_cons_succ] at q3); (try simp only [List.getElem?_cons_zero] at q3)
            clear row6 rowQ6
            go_wp2_with fail
            go_fit (hc2.out w6 k6)
            rintro e w7 ⟨rfl, k7⟩
            clear c0 c1 c2 c3 q0 q1 q2 q3
            cases d2 with
            | true =>
              go_wp2_with fail
              go_ret
              refine ⟨?_, ((kk3.then kr5 (fun i hi e => by have := kk2.size; omega)).trans k6).trans k7⟩
              rw [HE.out, hfin.out (by simp)]; rfl
            | false =>
              have rg7 := Lib.hid (HRG.out.kept (k6.trans k7).grow (fun h => by cases h) (fun h => by cases h))
              go_wp2_with fail
              go_roundw
              case rel => exact ⟨_, _, rg7.out, hstep.out (by simp) (by simp), kr5.trans (k6.trans k7).nix⟩
              case measure => rw [rg7.out.left_eq, HRG0.out.left_eq]; exact HCNT.out
end Go.Proofs.Ytfagejfcibgigaa
