/- ROUTE: the reference's Entry. Printed by mac.py. -/
import Derived.Test.YtpblmaklbnpbfaaRtG
import Derived.Laws.Cover1
namespace Go.Proofs.Ytpblmaklbnpbfaa
open Go.RowKit

set_option maxRecDepth 100000 in
set_option maxHeartbeats 4000000 in
theorem rEntry_c {p q : Nat → Prop} (r : GRoutes) (csr : List Value) (a : Option Addr) (cap : Nat) (l : List UInt8) (w : World) (hr : rGRoutes w p csr r) (hl : LB w q a cap l) (hn : 0 < r.fSpans.length) :
    Calls Try.prog 23 #[.agg csr.toArray, .slice a l.length cap] w fun e w' => e = .returned (.int .i64 (entryF l r.fSpans)) ∧ Keep Nix w w' := by
  obtain ⟨aS, cS, aC, cC, rfl, hE, hB, hS, hM, hC, -⟩ := rGRoutes_open hr
  have mS : r.fSpans.length ≤ 140737488351232 := by have := (rList_len hS).2.2; have := far_len; omega
  have kk : Keep Nix w (w.alloc (.cells #[.int .i64 r.fEpoch, .int .i64 r.fBase, .slice aS r.fSpans.length cS, .int .i64 r.fMoving, .slice aC r.fCut.length cC] 25)) := (Keep.refl Nix w).alloc _
  have row0 : RowIs (w.alloc (.cells #[.int .i64 r.fEpoch, .int .i64 r.fBase, .slice aS r.fSpans.length cS, .int .i64 r.fMoving, .slice aC r.fCut.length cC] 25)) w.heap.size 25 [.int .i64 r.fEpoch, .int .i64 r.fBase, .slice aS r.fSpans.length cS, .int .i64 r.fMoving, .slice aC r.fCut.length cC] := RowIs.alloc w _ _
  have HL := Lib.hid hS
  obtain ⟨b1, o1, _, _, e1, -, hb1, xr, xc⟩ := rList_at rGOwner_lawful (by decide) ((rList_lawful rGOwner_lawful).nix hS kk) 0 hn
  simp only [List.cons.injEq, Value.slice.injEq, and_true] at e1
  obtain ⟨rfl, -, -⟩ := e1
  obtain ⟨aF0, cF0, rfl, -⟩ := rGOwner_open xr
  have x00 := xc 0 _ rfl
  (try simp only [Nat.add_zero, Nat.zero_mul] at x00)
  obtain ⟨g0, hg0⟩ : ∃ g0, r.fSpans[0].fGroup = g0 := ⟨_, rfl⟩
  rw [hg0] at x00
  have HG0 := Lib.hid hg0
  have hn1 : (0 : Int) < (r.fSpans.length : Int) := by omega
  have y2 := row0.cell 2
  (try simp only [List.getElem?_cons_succ] at y2); (try simp only [List.getElem?_cons_zero] at y2)
  clear hr hE hB hM hC xr xc hg0 hS
  go_enter Try.func23, Try.ntmps23
  go_wp2_with fail
  clear x00 y2
  generalize hbs : w.heap.size = bs at *
  go_loopw [5, 6] (fun g i wr => ∃ k : Nat, k ≤ r.fSpans.length ∧ i = .int .i64 k ∧ g = .int .i64 (if k = 0 then g0 else entryF l (r.fSpans.take k)) ∧ RowIs wr bs 25 [.int .i64 r.fEpoch, .int .i64 r.fBase, .slice (some ⟨b1, o1, none⟩) r.fSpans.length cS, .int .i64 r.fMoving, .slice aC r.fCut.length cC] ∧ Keep Nix w wr) (fun _ i _ => r.fSpans.length - (intOf i).toNat)
  case atStart => exact ⟨0, by omega, rfl, rfl, row0, kk⟩
  case round =>
    clear kk row0
    obtain ⟨k, hk, rfl, rfl, row0, kk⟩ := hrel
    have y2 := row0.cell 2
    (try simp only [List.getElem?_cons_succ] at y2); (try simp only [List.getElem?_cons_zero] at y2)
    by_cases hlt : k < r.fSpans.length
    · have hi0 : (0 : Int) ≤ (k : Int) := by omega
      have hi1 : (k : Int) < (r.fSpans.length : Int) := by omega
      have hx : Hid (r.fSpans.take (k + 1) = r.fSpans.take k ++ [r.fSpans[k]]) := List.take_succ_eq_append_getElem hlt
      have hS1 := (rList_lawful rGOwner_lawful).nix HL.out kk
      obtain ⟨b2, o2, _, _, e2, -, hbx, xr, xc⟩ := rList_at rGOwner_lawful (by decide) hS1 k hlt
      simp only [List.cons.injEq, Value.slice.injEq, Option.some.injEq, Addr.mk.injEq, and_true] at e2
      obtain ⟨⟨rfl, rfl⟩, -⟩ := e2
      have hk0 : Hid (k = 0 → r.fSpans[k].fGroup = g0) := fun e => by subst e; exact HG0.out
      have hkn : Hid (k ≠ 0 → r.fSpans.take k ≠ []) := fun h e => by
        have := congrArg List.length e
        rw [List.length_take, List.length_nil] at this
        omega
      clear hS1
      obtain ⟨G, hG⟩ : ∃ G, (if k = 0 then g0 else entryF l (r.fSpans.take k)) = G := ⟨_, rfl⟩
      rw [hG]
      have HG := Lib.hid hG
      clear hG
      generalize r.fSpans[k] = x at *
      obtain ⟨aF, cF, rfl, -, hF, -⟩ := rGOwner_open xr
      have hF : LB wr p aF cF x.fFrom := hF
      have x0 := xc 0 _ rfl
      (try simp only [Nat.add_zero] at x0)
      have x1 := xc 1 _ rfl
      clear xr xc
      have HN : Hid (entryF l (r.fSpans.take (k + 1)) = if ltB l x.fFrom then G else x.fGroup) := by
        show _ = _
        rw [hx.out]
        by_cases e : k = 0
        · subst e
          have h1 := HG.out
          rw [if_pos rfl] at h1
          rw [← h1, ← hk0.out rfl, List.take_zero]
          show x.fGroup = _
          split <;> rfl
        · have h1 := HG.out
          rw [if_neg e] at h1
          rw [entryF_snoc _ _ _ (hkn.out e), h1]
      go_upto_region 5 with fail
      have hO : ∀ w', Keep Nix wr w' → (fun w' => w'.cell? ⟨bs, 2, none⟩ = some (.slice (some ⟨b1, o1, none⟩) r.fSpans.length cS) ∧ w'.cell? ⟨b1, o1 + k * 2 + 1, none⟩ = some (.slice aF x.fFrom.length cF) ∧ (convert 23 9 (.slice aF x.fFrom.length cF)).run Try.prog w' = .ok (.string (strB x.fFrom)) w' ∧ (convert 23 9 (.slice a l.length cap)).run Try.prog w' = .ok (.string (strB l)) w') w' := fun w' k' => ⟨(k'.cell (p := ⟨bs, 2, none⟩) row0.lt id).trans y2, (k'.cell (p := ⟨b1, o1 + k * 2 + 1, none⟩) hbx id).trans x1, conv_bytes (P := Try.prog) Try.underlying23 Try.underlying5 Try.underlying9 rfl (hF.keep k').1, conv_bytes (P := Try.prog) Try.underlying23 Try.underlying5 Try.underlying9 rfl ((hl.keep kk).keep k').1⟩
      have HO := Lib.hid hO
      have kd : Keep Nix wr wr.drew := (Keep.refl Nix wr).drew
      have hq := strB_eq x.fFrom l
      have x0d := (kd.cell (p := ⟨b1, o1 + k * 2, none⟩) hbx id).trans x0
      replace row0 := row0.keep kd id
      replace kk := kk.trans kd
      obtain ⟨v, hv⟩ : ∃ v, ltB l x.fFrom = v := ⟨_, rfl⟩
      rw [hv] at HN
      have hle : (Op.bytesLess (strB x.fFrom).toList (strB l).toList || (strB x.fFrom).toList == (strB l).toList) = !v := by
        rw [hq, strB_toList, strB_toList, ← hv]
        cases h1 : ltB l x.fFrom with
        | true => rw [show Op.bytesLess x.fFrom l = false from ltB_asymm h1, decide_eq_false (fun e => by rw [e, ltB_irrefl] at h1; cases h1)]; rfl
        | false =>
          cases h2 : ltB x.fFrom l with
          | true => rw [show Op.bytesLess x.fFrom l = true from h2]; rfl
          | false => rw [ltB_total h2 h1]; simp
      clear hO hF x1 x0 y2 hq hx hk0 hkn hv
      have HLE := Lib.hid hle
      clear hle
      have hb1' : ∃ u1 u2 : Bool, Hid (Op.bytesLess (strB x.fFrom).toList (strB l).toList = u1) ∧ Hid (((strB x.fFrom).toList == (strB l).toList) = u2) ∧ (u1 || u2) = !v := ⟨_, _, rfl, rfl, HLE.out⟩
      obtain ⟨u1, u2, HU1, HU2, hu⟩ := hb1'
      cases u1 with
      | true =>
        obtain rfl : v = false := by cases v <;> first | rfl | exact nomatch hu
        have HN2 : Hid (entryF l (r.fSpans.take (k + 1)) = x.fGroup) := HN.out
        have hu1 := HU1.out
        clear hu
        refine wp_region_held_drew (S := (fun w' => w'.cell? ⟨bs, 2, none⟩ = some (.slice (some ⟨b1, o1, none⟩) r.fSpans.length cS) ∧ w'.cell? ⟨b1, o1 + k * 2 + 1, none⟩ = some (.slice aF x.fFrom.length cF) ∧ (convert 23 9 (.slice aF x.fFrom.length cF)).run Try.prog w' = .ok (.string (strB x.fFrom)) w' ∧ (convert 23 9 (.slice a l.length cap)).run Try.prog w' = .ok (.string (strB l)) w')) (by kernel_rfl) ((HO.out _ kd)) (fun hHeld => ?_)
        generalize wr.drew = wd at *
        refine wpAnyH_take (i := 0) (v := ?_) rfl (by kernel_rfl) (by kernel_rfl) (by kernel_rfl) (fun _ _ _ h => h) (Or.inl ⟨by kernel_rfl, ?_⟩) hHeld ?_
        rotate_left
        · intro w' hSw
          (try dsimp only at hSw)
          (try simp only [List.getElem_toArray]); (try simp only [List.getElem_cons_succ]); (try simp only [List.getElem_cons_zero])
          go_simp
          try with_reducible rfl
        (try simp only [Act.put]); (try simp only [List.getElem_toArray]); (try simp only [List.getElem_cons_succ]); (try simp only [List.getElem_cons_zero]); (try simp only [List.setIfInBounds_toArray]); (try simp only [List.set_cons_succ]); (try simp only [List.set_cons_zero])
        refine wpAnyH_take (i := 1) (v := ?_) rfl (by kernel_rfl) (by kernel_rfl) (by kernel_rfl) (fun _ _ _ h => h) (Or.inl ⟨by kernel_rfl, ?_⟩) hHeld ?_
        rotate_left
        · intro w' hSw
          (try dsimp only at hSw)
          (try simp only [List.getElem_toArray]); (try simp only [List.getElem_cons_succ]); (try simp only [List.getElem_cons_zero])
          go_simp
          try with_reducible rfl
        (try simp only [Act.put]); (try simp only [List.getElem_toArray]); (try simp only [List.getElem_cons_succ]); (try simp only [List.getElem_cons_zero]); (try simp only [List.setIfInBounds_toArray]); (try simp only [List.set_cons_succ]); (try simp only [List.set_cons_zero])
        refine wpAnyH_take (i := 2) (v := ?_) rfl (by kernel_rfl) (by kernel_rfl) (by kernel_rfl) (fun _ _ _ h => h) (Or.inl ⟨by kernel_rfl, ?_⟩) hHeld ?_
        rotate_left
        · intro w' hSw
          (try dsimp only at hSw)
          (try simp only [List.getElem_toArray]); (try simp only [List.getElem_cons_succ]); (try simp only [List.getElem_cons_zero])
          go_simp
          try with_reducible rfl
        (try simp only [Act.put]); (try simp only [List.getElem_toArray]); (try simp only [List.getElem_cons_succ]); (try simp only [List.getElem_cons_zero]); (try simp only [List.setIfInBounds_toArray]); (try simp only [List.set_cons_succ]); (try simp only [List.set_cons_zero])
        refine wpAnyH_take (i := 3) (v := ?_) rfl (by kernel_rfl) (by kernel_rfl) (by kernel_rfl) (fun _ _ _ h => h) (Or.inl ⟨by kernel_rfl, ?_⟩) hHeld ?_
        rotate_left
        · intro w' hSw
          (try dsimp only at hSw)
          (try simp only [List.getElem_toArray]); (try simp only [List.getElem_cons_succ]); (try simp only [List.getElem_cons_zero])
          go_simp
          try with_reducible rfl
        (try simp only [Act.put]); (try simp only [List.getElem_toArray]); (try simp only [List.getElem_cons_succ]); (try simp only [List.getElem_cons_zero]); (try simp only [List.setIfInBounds_toArray]); (try simp only [List.set_cons_succ]); (try simp only [List.set_cons_zero])
        refine wpAnyH_take (i := 4) (v := ?_) rfl (by kernel_rfl) (by kernel_rfl) (by kernel_rfl) (fun _ _ _ h => h) (Or.inl ⟨by kernel_rfl, ?_⟩) hHeld ?_
        rotate_left
        · intro w' hSw
          (try dsimp only at hSw)
          (try simp only [List.getElem_toArray]); (try simp only [List.getElem_cons_succ]); (try simp only [List.getElem_cons_zero])
          go_simp
          try with_reducible rfl
        (try simp only [Act.put]); (try simp only [List.getElem_toArray]); (try simp only [List.getElem_cons_succ]); (try simp only [List.getElem_cons_zero]); (try simp only [List.setIfInBounds_toArray]); (try simp only [List.set_cons_succ]); (try simp only [List.set_cons_zero])
        refine wpAnyH_take (i := 5) (v := ?_) rfl (by kernel_rfl) (by kernel_rfl) (by kernel_rfl) (fun _ _ _ h => h) (Or.inl ⟨by kernel_rfl, ?_⟩) hHeld ?_
        rotate_left
        · intro w' hSw
          (try dsimp only at hSw)
          (try simp only [List.getElem_toArray]); (try simp only [List.getElem_cons_succ]); (try simp only [List.getElem_cons_zero])
          go_simp
          try with_reducible rfl
        (try simp only [Act.put]); (try simp only [List.getElem_toArray]); (try simp only [List.getElem_cons_succ]); (try simp only [List.getElem_cons_zero]); (try simp only [List.setIfInBounds_toArray]); (try simp only [List.set_cons_succ]); (try simp only [List.set_cons_zero])
        refine wpAnyH_take (i := 6) (v := ?_) rfl (by kernel_rfl) (by kernel_rfl) (by kernel_rfl) (fun _ _ _ h => h) (Or.inl ⟨by kernel_rfl, ?_⟩) hHeld ?_
        rotate_left
        · intro w' hSw
          (try dsimp only at hSw)
          (try simp only [List.getElem_toArray]); (try simp only [List.getElem_cons_succ]); (try simp only [List.getElem_cons_zero])
          go_simp
          try with_reducible rfl
        (try simp only [Act.put]); (try simp only [List.getElem_toArray]); (try simp only [List.getElem_cons_succ]); (try simp only [List.getElem_cons_zero]); (try simp only [List.setIfInBounds_toArray]); (try simp only [List.set_cons_succ]); (try simp only [List.set_cons_zero])
        refine wpAnyH_take (i := 7) (v := ?_) rfl (by kernel_rfl) (by kernel_rfl) (by kernel_rfl) (fun _ _ _ h => h) (Or.inl ⟨by kernel_rfl, ?_⟩) hHeld ?_
        rotate_left
        · intro w' hSw
          (try dsimp only at hSw)
          (try simp only [List.getElem_toArray]); (try simp only [List.getElem_cons_succ]); (try simp only [List.getElem_cons_zero])
          go_simp
          try with_reducible rfl
        (try simp only [Act.put]); (try simp only [List.getElem_toArray]); (try simp only [List.getElem_cons_succ]); (try simp only [List.getElem_cons_zero]); (try simp only [List.setIfInBounds_toArray]); (try simp only [List.set_cons_succ]); (try simp only [List.set_cons_zero])
        refine wpAnyH_take (i := 8) (v := ?_) rfl (by kernel_rfl) (by kernel_rfl) (by kernel_rfl) (fun _ _ _ h => h) (Or.inl ⟨by kernel_rfl, ?_⟩) hHeld ?_
        rotate_left
        · intro w' hSw
          (try dsimp only at hSw)
          (try simp only [List.getElem_toArray]); (try simp only [List.getElem_cons_succ]); (try simp only [List.getElem_cons_zero])
          go_simp
          try with_reducible rfl
        (try simp only [Act.put]); (try simp only [List.getElem_toArray]); (try simp only [List.getElem_cons_succ]); (try simp only [List.getElem_cons_zero]); (try simp only [List.setIfInBounds_toArray]); (try simp only [List.set_cons_succ]); (try simp only [List.set_cons_zero])
        refine wpAnyH_take (i := 9) (v := ?_) rfl (by kernel_rfl) (by kernel_rfl) (by kernel_rfl) (fun _ _ _ h => h) (Or.inl ⟨by kernel_rfl, ?_⟩) hHeld ?_
        rotate_left
        · intro w' hSw
          (try dsimp only at hSw)
          (try simp only [List.getElem_toArray]); (try simp only [List.getElem_cons_succ]); (try simp only [List.getElem_cons_zero])
          go_simp
          try with_reducible rfl
        (try simp only [Act.put]); (try simp only [List.getElem_toArray]); (try simp only [List.getElem_cons_succ]); (try simp only [List.getElem_cons_zero]); (try simp only [List.setIfInBounds_toArray]); (try simp only [List.set_cons_succ]); (try simp only [List.set_cons_zero])
        refine wpAnyH_done (by kernel_rfl) ?_ _
        clear hHeld
        have y2 := row0.cell 2
        (try simp only [List.getElem?_cons_succ] at y2); (try simp only [List.getElem?_cons_zero] at y2)
        go_wp2_with fail
        go_roundw
        case rel => exact ⟨k + 1, by omega, by go_num, by rw [if_neg (by omega), HN2.out], row0, kk⟩
        case measure => simp [intOf]; omega
      | false =>
        cases u2 with
        | true =>
          obtain rfl : v = false := by cases v <;> first | rfl | exact nomatch hu
          have HN2 : Hid (entryF l (r.fSpans.take (k + 1)) = x.fGroup) := HN.out
          have hu1 := HU1.out
          have hu2 := HU2.out
          clear hu
          refine wp_region_held_drew (S := (fun w' => w'.cell? ⟨bs, 2, none⟩ = some (.slice (some ⟨b1, o1, none⟩) r.fSpans.length cS) ∧ w'.cell? ⟨b1, o1 + k * 2 + 1, none⟩ = some (.slice aF x.fFrom.length cF) ∧ (convert 23 9 (.slice aF x.fFrom.length cF)).run Try.prog w' = .ok (.string (strB x.fFrom)) w' ∧ (convert 23 9 (.slice a l.length cap)).run Try.prog w' = .ok (.string (strB l)) w')) (by kernel_rfl) ((HO.out _ kd)) (fun hHeld => ?_)
          generalize wr.drew = wd at *
          refine wpAnyH_take (i := 0) (v := ?_) rfl (by kernel_rfl) (by kernel_rfl) (by kernel_rfl) (fun _ _ _ h => h) (Or.inl ⟨by kernel_rfl, ?_⟩) hHeld ?_
          rotate_left
          · intro w' hSw
            (try dsimp only at hSw)
            (try simp only [List.getElem_toArray]); (try simp only [List.getElem_cons_succ]); (try simp only [List.getElem_cons_zero])
            go_simp
            try with_reducible rfl
          (try simp only [Act.put]); (try simp only [List.getElem_toArray]); (try simp only [List.getElem_cons_succ]); (try simp only [List.getElem_cons_zero]); (try simp only [List.setIfInBounds_toArray]); (try simp only [List.set_cons_succ]); (try simp only [List.set_cons_zero])
          refine wpAnyH_take (i := 1) (v := ?_) rfl (by kernel_rfl) (by kernel_rfl) (by kernel_rfl) (fun _ _ _ h => h) (Or.inl ⟨by kernel_rfl, ?_⟩) hHeld ?_
          rotate_left
          · intro w' hSw
            (try dsimp only at hSw)
            (try simp only [List.getElem_toArray]); (try simp only [List.getElem_cons_succ]); (try simp only [List.getElem_cons_zero])
            go_simp
            try with_reducible rfl
          (try simp only [Act.put]); (try simp only [List.getElem_toArray]); (try simp only [List.getElem_cons_succ]); (try simp only [List.getElem_cons_zero]); (try simp only [List.setIfInBounds_toArray]); (try simp only [List.set_cons_succ]); (try simp only [List.set_cons_zero])
          refine wpAnyH_take (i := 2) (v := ?_) rfl (by kernel_rfl) (by kernel_rfl) (by kernel_rfl) (fun _ _ _ h => h) (Or.inl ⟨by kernel_rfl, ?_⟩) hHeld ?_
          rotate_left
          · intro w' hSw
            (try dsimp only at hSw)
            (try simp only [List.getElem_toArray]); (try simp only [List.getElem_cons_succ]); (try simp only [List.getElem_cons_zero])
            go_simp
            try with_reducible rfl
          (try simp only [Act.put]); (try simp only [List.getElem_toArray]); (try simp only [List.getElem_cons_succ]); (try simp only [List.getElem_cons_zero]); (try simp only [List.setIfInBounds_toArray]); (try simp only [List.set_cons_succ]); (try simp only [List.set_cons_zero])
          refine wpAnyH_take (i := 3) (v := ?_) rfl (by kernel_rfl) (by kernel_rfl) (by kernel_rfl) (fun _ _ _ h => h) (Or.inl ⟨by kernel_rfl, ?_⟩) hHeld ?_
          rotate_left
          · intro w' hSw
            (try dsimp only at hSw)
            (try simp only [List.getElem_toArray]); (try simp only [List.getElem_cons_succ]); (try simp only [List.getElem_cons_zero])
            go_simp
            try with_reducible rfl
          (try simp only [Act.put]); (try simp only [List.getElem_toArray]); (try simp only [List.getElem_cons_succ]); (try simp only [List.getElem_cons_zero]); (try simp only [List.setIfInBounds_toArray]); (try simp only [List.set_cons_succ]); (try simp only [List.set_cons_zero])
          refine wpAnyH_take (i := 4) (v := ?_) rfl (by kernel_rfl) (by kernel_rfl) (by kernel_rfl) (fun _ _ _ h => h) (Or.inl ⟨by kernel_rfl, ?_⟩) hHeld ?_
          rotate_left
          · intro w' hSw
            (try dsimp only at hSw)
            (try simp only [List.getElem_toArray]); (try simp only [List.getElem_cons_succ]); (try simp only [List.getElem_cons_zero])
            go_simp
            try with_reducible rfl
          (try simp only [Act.put]); (try simp only [List.getElem_toArray]); (try simp only [List.getElem_cons_succ]); (try simp only [List.getElem_cons_zero]); (try simp only [List.setIfInBounds_toArray]); (try simp only [List.set_cons_succ]); (try simp only [List.set_cons_zero])
          refine wpAnyH_take (i := 5) (v := ?_) rfl (by kernel_rfl) (by kernel_rfl) (by kernel_rfl) (fun _ _ _ h => h) (Or.inl ⟨by kernel_rfl, ?_⟩) hHeld ?_
          rotate_left
          · intro w' hSw
            (try dsimp only at hSw)
            (try simp only [List.getElem_toArray]); (try simp only [List.getElem_cons_succ]); (try simp only [List.getElem_cons_zero])
            go_simp
            try with_reducible rfl
          (try simp only [Act.put]); (try simp only [List.getElem_toArray]); (try simp only [List.getElem_cons_succ]); (try simp only [List.getElem_cons_zero]); (try simp only [List.setIfInBounds_toArray]); (try simp only [List.set_cons_succ]); (try simp only [List.set_cons_zero])
          refine wpAnyH_take (i := 6) (v := ?_) rfl (by kernel_rfl) (by kernel_rfl) (by kernel_rfl) (fun _ _ _ h => h) (Or.inl ⟨by kernel_rfl, ?_⟩) hHeld ?_
          rotate_left
          · intro w' hSw
            (try dsimp only at hSw)
            (try simp only [List.getElem_toArray]); (try simp only [List.getElem_cons_succ]); (try simp only [List.getElem_cons_zero])
            go_simp
            try with_reducible rfl
          (try simp only [Act.put]); (try simp only [List.getElem_toArray]); (try simp only [List.getElem_cons_succ]); (try simp only [List.getElem_cons_zero]); (try simp only [List.setIfInBounds_toArray]); (try simp only [List.set_cons_succ]); (try simp only [List.set_cons_zero])
          refine wpAnyH_take (i := 7) (v := ?_) rfl (by kernel_rfl) (by kernel_rfl) (by kernel_rfl) (fun _ _ _ h => h) (Or.inl ⟨by kernel_rfl, ?_⟩) hHeld ?_
          rotate_left
          · intro w' hSw
            (try dsimp only at hSw)
            (try simp only [List.getElem_toArray]); (try simp only [List.getElem_cons_succ]); (try simp only [List.getElem_cons_zero])
            go_simp
            try with_reducible rfl
          (try simp only [Act.put]); (try simp only [List.getElem_toArray]); (try simp only [List.getElem_cons_succ]); (try simp only [List.getElem_cons_zero]); (try simp only [List.setIfInBounds_toArray]); (try simp only [List.set_cons_succ]); (try simp only [List.set_cons_zero])
          refine wpAnyH_take (i := 8) (v := ?_) rfl (by kernel_rfl) (by kernel_rfl) (by kernel_rfl) (fun _ _ _ h => h) (Or.inl ⟨by kernel_rfl, ?_⟩) hHeld ?_
          rotate_left
          · intro w' hSw
            (try dsimp only at hSw)
            (try simp only [List.getElem_toArray]); (try simp only [List.getElem_cons_succ]); (try simp only [List.getElem_cons_zero])
            go_simp
            try with_reducible rfl
          (try simp only [Act.put]); (try simp only [List.getElem_toArray]); (try simp only [List.getElem_cons_succ]); (try simp only [List.getElem_cons_zero]); (try simp only [List.setIfInBounds_toArray]); (try simp only [List.set_cons_succ]); (try simp only [List.set_cons_zero])
          refine wpAnyH_take (i := 9) (v := ?_) rfl (by kernel_rfl) (by kernel_rfl) (by kernel_rfl) (fun _ _ _ h => h) (Or.inl ⟨by kernel_rfl, ?_⟩) hHeld ?_
          rotate_left
          · intro w' hSw
            (try dsimp only at hSw)
            (try simp only [List.getElem_toArray]); (try simp only [List.getElem_cons_succ]); (try simp only [List.getElem_cons_zero])
            go_simp
            try with_reducible rfl
          (try simp only [Act.put]); (try simp only [List.getElem_toArray]); (try simp only [List.getElem_cons_succ]); (try simp only [List.getElem_cons_zero]); (try simp only [List.setIfInBounds_toArray]); (try simp only [List.set_cons_succ]); (try simp only [List.set_cons_zero])
          refine wpAnyH_done (by kernel_rfl) ?_ _
          clear hHeld
          have y2 := row0.cell 2
          (try simp only [List.getElem?_cons_succ] at y2); (try simp only [List.getElem?_cons_zero] at y2)
          go_wp2_with fail
          go_roundw
          case rel => exact ⟨k + 1, by omega, by go_num, by rw [if_neg (by omega), HN2.out], row0, kk⟩
          case measure => simp [intOf]; omega
        | false =>
          obtain rfl : v = true := by cases v <;> first | rfl | exact nomatch hu
          have HN2 : Hid (entryF l (r.fSpans.take (k + 1)) = G) := HN.out
          have hu1 := HU1.out
          have hu2 := HU2.out
          clear hu
          refine wp_region_held_drew (S := (fun w' => w'.cell? ⟨bs, 2, none⟩ = some (.slice (some ⟨b1, o1, none⟩) r.fSpans.length cS) ∧ w'.cell? ⟨b1, o1 + k * 2 + 1, none⟩ = some (.slice aF x.fFrom.length cF) ∧ (convert 23 9 (.slice aF x.fFrom.length cF)).run Try.prog w' = .ok (.string (strB x.fFrom)) w' ∧ (convert 23 9 (.slice a l.length cap)).run Try.prog w' = .ok (.string (strB l)) w')) (by kernel_rfl) ((HO.out _ kd)) (fun hHeld => ?_)
          generalize wr.drew = wd at *
          refine wpAnyH_take (i := 0) (v := ?_) rfl (by kernel_rfl) (by kernel_rfl) (by kernel_rfl) (fun _ _ _ h => h) (Or.inl ⟨by kernel_rfl, ?_⟩) hHeld ?_
          rotate_left
          · intro w' hSw
            (try dsimp only at hSw)
            (try simp only [List.getElem_toArray]); (try simp only [List.getElem_cons_succ]); (try simp only [List.getElem_cons_zero])
            go_simp
            try with_reducible rfl
          (try simp only [Act.put]); (try simp only [List.getElem_toArray]); (try simp only [List.getElem_cons_succ]); (try simp only [List.getElem_cons_zero]); (try simp only [List.setIfInBounds_toArray]); (try simp only [List.set_cons_succ]); (try simp only [List.set_cons_zero])
          refine wpAnyH_take (i := 1) (v := ?_) rfl (by kernel_rfl) (by kernel_rfl) (by kernel_rfl) (fun _ _ _ h => h) (Or.inl ⟨by kernel_rfl, ?_⟩) hHeld ?_
          rotate_left
          · intro w' hSw
            (try dsimp only at hSw)
            (try simp only [List.getElem_toArray]); (try simp only [List.getElem_cons_succ]); (try simp only [List.getElem_cons_zero])
            go_simp
            try with_reducible rfl
          (try simp only [Act.put]); (try simp only [List.getElem_toArray]); (try simp only [List.getElem_cons_succ]); (try simp only [List.getElem_cons_zero]); (try simp only [List.setIfInBounds_toArray]); (try simp only [List.set_cons_succ]); (try simp only [List.set_cons_zero])
          refine wpAnyH_take (i := 2) (v := ?_) rfl (by kernel_rfl) (by kernel_rfl) (by kernel_rfl) (fun _ _ _ h => h) (Or.inl ⟨by kernel_rfl, ?_⟩) hHeld ?_
          rotate_left
          · intro w' hSw
            (try dsimp only at hSw)
            (try simp only [List.getElem_toArray]); (try simp only [List.getElem_cons_succ]); (try simp only [List.getElem_cons_zero])
            go_simp
            try with_reducible rfl
          (try simp only [Act.put]); (try simp only [List.getElem_toArray]); (try simp only [List.getElem_cons_succ]); (try simp only [List.getElem_cons_zero]); (try simp only [List.setIfInBounds_toArray]); (try simp only [List.set_cons_succ]); (try simp only [List.set_cons_zero])
          refine wpAnyH_take (i := 3) (v := ?_) rfl (by kernel_rfl) (by kernel_rfl) (by kernel_rfl) (fun _ _ _ h => h) (Or.inl ⟨by kernel_rfl, ?_⟩) hHeld ?_
          rotate_left
          · intro w' hSw
            (try dsimp only at hSw)
            (try simp only [List.getElem_toArray]); (try simp only [List.getElem_cons_succ]); (try simp only [List.getElem_cons_zero])
            go_simp
            try with_reducible rfl
          (try simp only [Act.put]); (try simp only [List.getElem_toArray]); (try simp only [List.getElem_cons_succ]); (try simp only [List.getElem_cons_zero]); (try simp only [List.setIfInBounds_toArray]); (try simp only [List.set_cons_succ]); (try simp only [List.set_cons_zero])
          refine wpAnyH_take (i := 4) (v := ?_) rfl (by kernel_rfl) (by kernel_rfl) (by kernel_rfl) (fun _ _ _ h => h) (Or.inl ⟨by kernel_rfl, ?_⟩) hHeld ?_
          rotate_left
          · intro w' hSw
            (try dsimp only at hSw)
            (try simp only [List.getElem_toArray]); (try simp only [List.getElem_cons_succ]); (try simp only [List.getElem_cons_zero])
            go_simp
            try with_reducible rfl
          (try simp only [Act.put]); (try simp only [List.getElem_toArray]); (try simp only [List.getElem_cons_succ]); (try simp only [List.getElem_cons_zero]); (try simp only [List.setIfInBounds_toArray]); (try simp only [List.set_cons_succ]); (try simp only [List.set_cons_zero])
          refine wpAnyH_take (i := 5) (v := ?_) rfl (by kernel_rfl) (by kernel_rfl) (by kernel_rfl) (fun _ _ _ h => h) (Or.inl ⟨by kernel_rfl, ?_⟩) hHeld ?_
          rotate_left
          · intro w' hSw
            (try dsimp only at hSw)
            (try simp only [List.getElem_toArray]); (try simp only [List.getElem_cons_succ]); (try simp only [List.getElem_cons_zero])
            go_simp
            try with_reducible rfl
          (try simp only [Act.put]); (try simp only [List.getElem_toArray]); (try simp only [List.getElem_cons_succ]); (try simp only [List.getElem_cons_zero]); (try simp only [List.setIfInBounds_toArray]); (try simp only [List.set_cons_succ]); (try simp only [List.set_cons_zero])
          refine wpAnyH_take (i := 6) (v := ?_) rfl (by kernel_rfl) (by kernel_rfl) (by kernel_rfl) (fun _ _ _ h => h) (Or.inl ⟨by kernel_rfl, ?_⟩) hHeld ?_
          rotate_left
          · intro w' hSw
            (try dsimp only at hSw)
            (try simp only [List.getElem_toArray]); (try simp only [List.getElem_cons_succ]); (try simp only [List.getElem_cons_zero])
            go_simp
            try with_reducible rfl
          (try simp only [Act.put]); (try simp only [List.getElem_toArray]); (try simp only [List.getElem_cons_succ]); (try simp only [List.getElem_cons_zero]); (try simp only [List.setIfInBounds_toArray]); (try simp only [List.set_cons_succ]); (try simp only [List.set_cons_zero])
          refine wpAnyH_take (i := 7) (v := ?_) rfl (by kernel_rfl) (by kernel_rfl) (by kernel_rfl) (fun _ _ _ h => h) (Or.inl ⟨by kernel_rfl, ?_⟩) hHeld ?_
          rotate_left
          · intro w' hSw
            (try dsimp only at hSw)
            (try simp only [List.getElem_toArray]); (try simp only [List.getElem_cons_succ]); (try simp only [List.getElem_cons_zero])
            go_simp
            try with_reducible rfl
          (try simp only [Act.put]); (try simp only [List.getElem_toArray]); (try simp only [List.getElem_cons_succ]); (try simp only [List.getElem_cons_zero]); (try simp only [List.setIfInBounds_toArray]); (try simp only [List.set_cons_succ]); (try simp only [List.set_cons_zero])
          refine wpAnyH_take (i := 8) (v := ?_) rfl (by kernel_rfl) (by kernel_rfl) (by kernel_rfl) (fun _ _ _ h => h) (Or.inl ⟨by kernel_rfl, ?_⟩) hHeld ?_
          rotate_left
          · intro w' hSw
            (try dsimp only at hSw)
            (try simp only [List.getElem_toArray]); (try simp only [List.getElem_cons_succ]); (try simp only [List.getElem_cons_zero])
            go_simp
            try with_reducible rfl
          (try simp only [Act.put]); (try simp only [List.getElem_toArray]); (try simp only [List.getElem_cons_succ]); (try simp only [List.getElem_cons_zero]); (try simp only [List.setIfInBounds_toArray]); (try simp only [List.set_cons_succ]); (try simp only [List.set_cons_zero])
          refine wpAnyH_take (i := 9) (v := ?_) rfl (by kernel_rfl) (by kernel_rfl) (by kernel_rfl) (fun _ _ _ h => h) (Or.inl ⟨by kernel_rfl, ?_⟩) hHeld ?_
          rotate_left
          · intro w' hSw
            (try dsimp only at hSw)
            (try simp only [List.getElem_toArray]); (try simp only [List.getElem_cons_succ]); (try simp only [List.getElem_cons_zero])
            go_simp
            try with_reducible rfl
          (try simp only [Act.put]); (try simp only [List.getElem_toArray]); (try simp only [List.getElem_cons_succ]); (try simp only [List.getElem_cons_zero]); (try simp only [List.setIfInBounds_toArray]); (try simp only [List.set_cons_succ]); (try simp only [List.set_cons_zero])
          refine wpAnyH_done (by kernel_rfl) ?_ _
          clear hHeld
          have y2 := row0.cell 2
          (try simp only [List.getElem?_cons_succ] at y2); (try simp only [List.getElem?_cons_zero] at y2)
          go_wp2_with fail
          go_roundw
          case rel => exact ⟨k + 1, by omega, by go_num, by rw [if_neg (by omega), HN2.out], row0, kk⟩
          case measure => simp [intOf]; omega
    · obtain rfl : k = r.fSpans.length := by omega
      have HL2 : Hid ((if r.fSpans.length = 0 then g0 else entryF l (r.fSpans.take r.fSpans.length)) = entryF l r.fSpans) := by show _ = _; rw [if_neg (by omega), List.take_length]
      rw [HL2.out]
      go_wp2_with fail
      go_ret
      exact ⟨rfl, kk⟩
section
attribute [local go_sem ↓] ldz_Routes
set_option maxRecDepth 100000 in
set_option maxHeartbeats 2000000 in
theorem rGroup_c {p q : Nat → Prop} (r : GRoutes) (csr : List Value) (a : Option Addr) (cap : Nat) (l : List UInt8) (w : World) (hr : rGRoutes w p csr r) (hl : LB w q a cap l) (hb : 1 ≤ r.fBase ∧ r.fBase ≤ 4) (hn : 0 < r.fSpans.length) :
    Calls Try.prog 25 #[.agg csr.toArray, .slice a l.length cap] w fun e w' => e = .returned (.int .i64 (groupF r l)) ∧ Keep Nix w w' := by
  have HR := Lib.hid hr
  have HB := Lib.hid hb
  have HN := Lib.hid hn
  obtain ⟨aS, cS, aC, cC, rfl, -⟩ := rGRoutes_open hr
  obtain ⟨y, HY⟩ : ∃ y, Hid (groupF r l = y) := ⟨_, rfl⟩
  rw [HY.out]
  have kk : Keep Nix w (w.alloc (.cells #[.int .i64 r.fEpoch, .int .i64 r.fBase, .slice aS r.fSpans.length cS, .int .i64 r.fMoving, .slice aC r.fCut.length cC] 25)) := (Keep.refl Nix w).alloc _
  have row0 : RowIs (w.alloc (.cells #[.int .i64 r.fEpoch, .int .i64 r.fBase, .slice aS r.fSpans.length cS, .int .i64 r.fMoving, .slice aC r.fCut.length cC] 25)) w.heap.size 25 [.int .i64 r.fEpoch, .int .i64 r.fBase, .slice aS r.fSpans.length cS, .int .i64 r.fMoving, .slice aC r.fCut.length cC] := RowIs.alloc w _ _
  have HLB := Lib.hid (hl.keep kk)
  clear hr hb hn
  by_cases h0 : l = []
  · have e : Hid (y = 0) := by show _ = _; rw [← HY.out, h0]; rfl
    have hz := pos0 h0
    clear h0 hl row0
    go_enter Try.func25, Try.ntmps25
    go_wp2_with fail
    go_ret
    exact ⟨ret_int e.out.symm, kk⟩
  have hp := len_pos h0
  have hpN : 0 < l.length := by omega
  obtain ⟨bk, ok, rfl, -, hbk, hck⟩ := hl.1 (by simpa using h0)
  obtain ⟨cB, hB1, hB2, hcB⟩ : ∃ cB : Int, (cB = 114 → groupF r l = baseF r.fBase l) ∧ (¬ cB = 114 → (cB = 120 → groupF r l = entryF l r.fSpans) ∧ (¬ cB = 120 → groupF r l = 0)) ∧ w.cell? ⟨bk, ok, none⟩ = some (.int .u8 cB) := by
    cases hf : l with
    | nil => exact absurd hf h0
    | cons c f' =>
      have e1 : ((c.toNat : Int) = 114) ↔ c = 114 := ⟨fun h => UInt8.toNat_inj.1 (by show c.toNat = 114; omega), fun h => by rw [h]; rfl⟩
      have e2 : ((c.toNat : Int) = 120) ↔ c = 120 := ⟨fun h => UInt8.toNat_inj.1 (by show c.toNat = 120; omega), fun h => by rw [h]; rfl⟩
      refine ⟨(c.toNat : Int), fun h => ?_, fun h => ⟨fun h2 => ?_, fun h2 => ?_⟩, hck 0 _ (by rw [hf]; rfl)⟩
      · simp [groupF, e1.1 h]
      · simp [groupF, e2.1 h2]
      · rw [e1] at h; rw [e2] at h2; simp [groupF, h, h2]
  have y0 := (kk.cell (p := ⟨bk, ok, none⟩) hbk id).trans hcB
  have HB1 := Lib.hid hB1
  have HB2 := Lib.hid hB2
  have ldR := Whole.run (P := Try.prog) S_Routes rfl row0
  clear hB1 hB2 hcB hck hl h0 row0
  by_cases h1 : cB = 114
  · have hcall := rBase_c r [.int .i64 r.fEpoch, .int .i64 r.fBase, .slice aS r.fSpans.length cS, .int .i64 r.fMoving, .slice aC r.fCut.length cC] (some ⟨bk, ok, none⟩) cap l _ (rGRoutes_lawful.nix HR.out kk) HB.out HLB.out
    have e : Hid (baseF r.fBase l = y) := by show _ = _; rw [← HY.out, HB1.out h1]
    rw [e.out] at hcall
    subst h1
    go_enter Try.func25, Try.ntmps25
    go_wp2_with fail
    go_fit hcall
    rintro e w3 ⟨rfl, k3⟩
    clear hcall
    go_wp2_with fail
    go_ret
    exact ⟨rfl, kk.trans k3⟩
  have h1' : (cB == 114) = false := by simpa using h1
  by_cases h2 : cB = 120
  · have hcall := rEntry_c r [.int .i64 r.fEpoch, .int .i64 r.fBase, .slice aS r.fSpans.length cS, .int .i64 r.fMoving, .slice aC r.fCut.length cC] (some ⟨bk, ok, none⟩) cap l _ (rGRoutes_lawful.nix HR.out kk) HLB.out HN.out
    have e : Hid (entryF l r.fSpans = y) := by show _ = _; rw [← HY.out, (HB2.out h1).1 h2]
    rw [e.out] at hcall
    subst h2
    clear h1 h1'
    go_enter Try.func25, Try.ntmps25
    go_wp2_with fail
    go_fit hcall
    rintro e w3 ⟨rfl, k3⟩
    clear hcall
    go_wp2_with fail
    go_ret
    exact ⟨rfl, kk.trans k3⟩
  · have e : Hid (y = 0) := by show _ = _; rw [← HY.out, (HB2.out h1).2 h2]
    have h2' : (cB == 120) = false := by simpa using h2
    go_enter Try.func25, Try.ntmps25
    go_wp2_with fail
    go_ret
    exact ⟨ret_int e.out.symm, kk⟩
end
end Go.Proofs.Ytpblmaklbnpbfaa
