/- LOCK: the reference's meet. Printed by mac.py. -/
import Derived.Test.YtfagejfcibgigaaQLpI
import Derived.Lib.ConvBytes
namespace Go.Proofs.Ytfagejfcibgigaa
open Go.RowKit

theorem max_str {P : Program} (a b : List UInt8) (w : World) (ts : Array TypeId) (t : TypeId) : (Builtin.max_ ts t #[.string (strB a), .string (strB b)]).run P w = .ok (.string (strB (if ltB a b then b else a))) w := by
  by_cases h : ltB a b = true
  · have h' : Op.bytesLess (strB a).toList (strB b).toList = true := by rw [strB_toList, strB_toList]; exact h
    simp [Builtin.max_, Builtin.max2, Op.stringOp, asBool, h', h]
  · have h2 : ltB a b = false := by simpa using h
    have h' : Op.bytesLess (strB a).toList (strB b).toList = false := by rw [strB_toList, strB_toList]; exact h2
    simp [Builtin.max_, Builtin.max2, Op.stringOp, asBool, h', h2]
theorem conv_str (l : List UInt8) (w : World) : ∃ cap w', (convert 9 42 (.string (strB l))).run Try.prog w = .ok (.slice (some ⟨w.heap.size, 0, none⟩) l.length cap) w' ∧ Lies w' (fun _ => True) (some ⟨w.heap.size, 0, none⟩) (l.map bv) ∧ Keep Nix w w' := by
  have h := Lib.run_convert_string_bytes (P := Try.prog) w 9 42 5 (strB l) Try.underlying9 Try.underlying42 Try.underlying5
  rw [strB_size] at h
  refine ⟨_, _, h, ?_, ⟨?_, ?_, ?_, ?_, ?_⟩⟩
  · intro _
    refine ⟨_, 0, rfl, trivial, by rw [Lib.bytesWorld_size]; omega, fun j u hu => ?_⟩
    obtain ⟨hj, hju⟩ := List.getElem?_eq_some_iff.1 hu
    rw [List.length_map] at hj
    rw [Nat.zero_add, Lib.bytesWorld_cell w _ _ j (by rw [strB_size]; exact hj), ← hju, strB_list, List.getD_eq_getElem?_getD, List.getElem?_eq_getElem hj, List.getElem_map]
    rfl
  · simp [Lib.bytesWorld, World.freeze, World.alloc, World.drew, -World.alloc_eq, -World.drew_eq]
  · simp [Lib.bytesWorld, World.freeze, World.alloc, World.drew, -World.alloc_eq, -World.drew_eq]
  · simp [Lib.bytesWorld, World.freeze, World.alloc, World.drew, -World.alloc_eq, -World.drew_eq]
  · rw [Lib.bytesWorld_size]; omega
  · intro k hk _; exact Lib.bytesWorld_at_old _ _ _ _ hk
set_option maxRecDepth 100000 in
set_option maxHeartbeats 1000000 in
theorem rmeet_c {p q : Nat → Prop} (s r : GSpan) (css csr : List Value) (w : World) (hs : rGSpan w p css s) (hr : rGSpan w q csr r) :
    Calls Try.prog 60 #[.agg css.toArray, .agg csr.toArray] w fun e w' => e = .returned (.bool (meetB s r)) ∧ Keep Nix w w' := by
  have hs2 := hs
  have hr2 := hr
  obtain ⟨sF, dF, sT, dT, rfl, h1, -⟩ := rGSpan_open hs
  obtain ⟨rF, eF, rT, eT, rfl, h2, -⟩ := rGSpan_open hr
  have kk : Keep Nix w ((w.alloc (.cells #[.slice sF s.fFrom.length dF, .slice sT s.fTo.length dT] 46)).alloc (.cells #[.slice rF r.fFrom.length eF, .slice rT r.fTo.length eT] 46)) := ((Keep.refl Nix w).alloc _).alloc _
  have row0 : RowIs ((w.alloc (.cells #[.slice sF s.fFrom.length dF, .slice sT s.fTo.length dT] 46)).alloc (.cells #[.slice rF r.fFrom.length eF, .slice rT r.fTo.length eT] 46)) w.heap.size 46 [.slice sF s.fFrom.length dF, .slice sT s.fTo.length dT] := (RowIs.alloc w _ _).keep ((Keep.refl Nix _).alloc _) id
  have row1 : RowIs ((w.alloc (.cells #[.slice sF s.fFrom.length dF, .slice sT s.fTo.length dT] 46)).alloc (.cells #[.slice rF r.fFrom.length eF, .slice rT r.fTo.length eT] 46)) (w.heap.size + 1) 46 [.slice rF r.fFrom.length eF, .slice rT r.fTo.length eT] := by
    have h := RowIs.alloc (w.alloc (.cells #[.slice sF s.fFrom.length dF, .slice sT s.fTo.length dT] 46)) #[.slice rF r.fFrom.length eF, .slice rT r.fTo.length eT] 46
    rw [World.size_alloc] at h
    exact h
  have ls := h1.1.keep kk (fun _ _ h => h)
  have lr := h2.1.keep kk (fun _ _ h => h)
  have cv1 := conv_bytes (P := Try.prog) Try.underlying42 Try.underlying5 Try.underlying9 (cap := dF) rfl ls
  have cv2 := conv_bytes (P := Try.prog) Try.underlying42 Try.underlying5 Try.underlying9 (cap := eF) rfl lr
  have hmx := fun w => max_str (P := Try.prog) s.fFrom r.fFrom w #[9, 9] 9
  have hM : (if ltB s.fFrom r.fFrom then r.fFrom else s.fFrom) = fromF s r := rfl
  rw [hM] at hmx
  obtain ⟨cap, w2, hcs, lM, k2⟩ := conv_str (fromF s r) ((w.alloc (.cells #[.slice sF s.fFrom.length dF, .slice sT s.fTo.length dT] 46)).alloc (.cells #[.slice rF r.fFrom.length eF, .slice rT r.fTo.length eT] 46))
  obtain ⟨y, HY⟩ : ∃ y, Hid (meetB s r = y) := ⟨_, rfl⟩
  rw [HY.out]
  have HYE : Hid (y = (withinF s (fromF s r) && withinF r (fromF s r))) := HY.out.symm
  generalize fromF s r = M at *
  have hsz : (((w.alloc (.cells #[.slice sF s.fFrom.length dF, .slice sT s.fTo.length dT] 46)).alloc (.cells #[.slice rF r.fFrom.length eF, .slice rT r.fTo.length eT] 46))).heap.size = w.heap.size + 1 + 1 := by simp
  rw [hsz] at hcs lM
  clear hsz
  have hA := within_c s [.slice sF s.fFrom.length dF, .slice sT s.fTo.length dT] (some ⟨w.heap.size + 1 + 1, 0, none⟩) cap M w2 (rGSpan_lawful.nix hs2 (kk.trans k2)) lM
  have HB : Hid (∀ w3, Keep Nix w2 w3 → Calls Try.prog 18 #[.agg #[.slice rF r.fFrom.length eF, .slice rT r.fTo.length eT], .slice (some ⟨w.heap.size + 1 + 1, 0, none⟩) M.length cap] w3 fun e w' => e = .returned (.bool (withinF r M)) ∧ Keep Nix w3 w') := fun w3 k3 =>
    within_c r [.slice rF r.fFrom.length eF, .slice rT r.fTo.length eT] (some ⟨w.heap.size + 1 + 1, 0, none⟩) cap M w3 (rGSpan_lawful.nix hr2 ((kk.trans k2).trans k3)) (lM.keep k3 (fun _ _ h => h))
  have HRO : Hid (∀ w3, Keep Nix w2 w3 → RowIs w3 (w.heap.size + 1) 46 [.slice rF r.fFrom.length eF, .slice rT r.fTo.length eT]) := fun w3 k3 => row1.keep (k2.trans k3) id
  have HR0 := Lib.hid (row0.keep k2 id)
  have x0 := row0.cell 0
  have z0 := row1.cell 0
  (try simp only [List.getElem?_cons_zero] at x0 z0)
  have K2 := Lib.hid (kk.trans k2)
  have HA := Lib.hid hA
  clear hs hs2 hr hr2 h1 h2 row0 row1 ls lr hM lM k2 hA kk
  go_enter Try.func60, Try.ntmps60
  go_upto_region 2 with fail
  clear cv1 cv2 hmx hcs x0 z0
  have rowS := HR0.out
  have x0 := rowS.cell 0
  (try simp only [List.getElem?_cons_zero] at x0)
  have x1 := rowS.cell 1
  (try simp only [List.getElem?_cons_succ] at x1); (try simp only [List.getElem?_cons_zero] at x1)
  clear rowS
  generalize withinF s M = v1 at *
  generalize withinF r M = v2 at *
  cases v1 with
  | true =>
    go_wp2_with fail
    go_fit HA.out
    rintro e w3 ⟨rfl, k3⟩
    have rowR := HRO.out w3 k3
    clear x0 x1
    have z0 := rowR.cell 0
    (try simp only [List.getElem?_cons_zero] at z0)
    have z1 := rowR.cell 1
    (try simp only [List.getElem?_cons_succ] at z1); (try simp only [List.getElem?_cons_zero] at z1)
    clear rowR
    go_wp2_with fail
    go_fit (HB.out w3 k3)
    rintro e w4 ⟨rfl, k4⟩
    go_wp2_with fail
    go_ret
    exact ⟨ret_bool (by rw [HYE.out]; rfl), (K2.out.trans k3).trans k4⟩
  | false =>
    go_wp2_with fail
    go_fit HA.out
    rintro e w3 ⟨rfl, k3⟩
    go_wp2_with fail
    go_ret
    exact ⟨ret_bool (by rw [HYE.out]; rfl), K2.out.trans k3⟩
theorem meetB_comm (a b : GSpan) : meetB a b = meetB b a := by
  have e : fromF a b = fromF b a := by
    unfold fromF
    cases h : ltB a.fFrom b.fFrom with
    | true => rw [ltB_asymm h]; rfl
    | false =>
      cases h' : ltB b.fFrom a.fFrom with
      | true => rfl
      | false => rw [ltB_total h h']
  unfold meetB
  rw [e, Bool.and_comm]
end Go.Proofs.Ytfagejfcibgigaa
namespace Go.Proofs.Ytfagejfcibgigaa
open Go.RowKit

section
attribute [local go_sem ↓] ldz_Held ldz_Span
set_option maxRecDepth 100000 in
set_option maxHeartbeats 4000000 in
theorem rclear_c {q : Nat → Prop} (Q : Nat → Prop) (b : Nat) (L : List GHeld) (aL : Option Addr) (cL : Nat) (css : List (List Value)) (s : GSpan) (csS : List Value) (w : World) (T : RTab w Q b L aL cL css) (hL : L.length ≤ 100000) (hs : rGSpan w q csS s) :
    Calls Try.prog 30 #[.pointer (some ⟨b, 0, none⟩), .agg csS.toArray] w fun e w' => e = .returned (.bool (!L.any (fun h => toB h s))) ∧ Keep Nix w w' := by
  have hs2 := hs
  obtain ⟨sF, dF, sT, dT, rfl, -⟩ := rGSpan_open hs
  have kA : Keep Nix w (w.alloc (.cells #[.slice sF s.fFrom.length dF, .slice sT s.fTo.length dT] 46)) := (Keep.refl Nix w).alloc _
  have RS := Lib.hid (RowIs.alloc w #[.slice sF s.fFrom.length dF, .slice sT s.fTo.length dT] 46)
  have HT := Lib.hid (T.nix kA)
  have HSS := Lib.hid (rGSpan_lawful.nix hs2 kA)
  have KA := Lib.hid kA
  clear T hs hs2 kA
  go_enter Try.func30, Try.ntmps30
  go_wp2_with fail
  generalize (w.alloc (.cells #[.slice sF s.fFrom.length dF, .slice sT s.fTo.length dT] 46)) = w0 at *
  go_loopw [5] (fun i wr => ∃ k : Nat, k ≤ L.length ∧ i = .int .i64 (k : Int) ∧ Hid ((L.take k).any (fun h => toB h s) = false) ∧ Keep Nix w0 wr) (fun i _ => L.length - (intOf i).toNat)
  case atStart => exact ⟨0, Nat.zero_le _, rfl, rfl, Keep.refl _ _⟩
  case round =>
    obtain ⟨k, hk, rfl, hno, kw⟩ := hrel
    have x0 : wr.cell? ⟨b, 0, none⟩ = some (.slice aL L.length cL) := (HT.out.nix kw).row.cell 0
    have KW := Lib.hid kw
    clear kw
    by_cases hlt : k < L.length
    · have hi0 : (0 : Int) ≤ (k : Int) := by omega
      have hi1 : (k : Int) < (L.length : Int) := by omega
      have hwk : IntKind.i64.wrap ((k : Int) + 1) = (k : Int) + 1 := by rw [IntKind.wrap_i64]; omega
      obtain ⟨bL, cx, rfl, -, rx, hcx⟩ := HT.out.cells hlt
      have hbL : bL < w0.heap.size := HT.out.lt _ (HT.out.qL _ rfl)
      have HS := any_step L k hlt (fun h => toB h s)
      have HF := any_found L k hlt (fun h => toB h s)
      obtain ⟨z, hz⟩ : ∃ z, L[k] = z := ⟨_, rfl⟩
      rw [hz] at rx HS HF
      obtain ⟨eK, fK, eS, fS, aW, cW, rfl, -, -, -, hW, -⟩ := rGHeld_open rx
      have HW := Lib.hid hW
      have HY3 : Hid (∀ w', Keep Nix w0 w' → w'.cell? ⟨bL, k * 4 + 3, none⟩ = some (.slice aW z.fWrites.length cW)) := fun w' k' => (k'.cell (p := ⟨bL, k * 4 + 3, none⟩) hbL id).trans (hcx 3 _ rfl)
      have HX0 : Hid (∀ w', Keep Nix w0 w' → w'.cell? ⟨b, 0, none⟩ = some (.slice (some ⟨bL, 0, none⟩) L.length cL)) := fun w' k' => (HT.out.nix k').row.cell 0
      have HLS : Hid (∀ w', Keep Nix w0 w' → (wholeSem 46 (.pointer (some ⟨w.heap.size, 0, none⟩))).run Try.prog w' = .ok (.value (.agg ([.slice sF s.fFrom.length dF, .slice sT s.fTo.length dT] : List Value).toArray)) w') := fun w' k' => Whole.row (P := Try.prog) S_Span rfl (RS.out.keep k' id)
      have hlen := (rList_len hW).2.2
      have HS : Hid ((L.take (k + 1)).any (fun h => toB h s) = ((L.take k).any (fun h => toB h s) || toB z s)) := HS
      have HF : Hid (toB z s = true → L.any (fun h => toB h s) = true) := HF
      have HTO : Hid (toB z s = z.fWrites.any (fun x => withinF s x.fKey)) := rfl
      unfold far at hlen
      clear hcx rx hz hW
      go_wp2_with fail
      clear x0
      go_loopw [6] (fun i wr => ∃ j : Nat, j ≤ z.fWrites.length ∧ i = .int .i64 (j : Int) ∧ Hid ((z.fWrites.take j).any (fun x => withinF s x.fKey) = false) ∧ Keep Nix w0 wr) (fun i _ => z.fWrites.length - (intOf i).toNat)
      case atStart => exact ⟨0, Nat.zero_le _, rfl, rfl, KW.out⟩
      case round =>
        obtain ⟨j, hj, rfl, hno2, kw2⟩ := hrel
        have x0 := HX0.out wr kw2
        have y3 := HY3.out wr kw2
        have KW2 := Lib.hid kw2
        clear kw2
        by_cases hjt : j < z.fWrites.length
        · have hj0 : (0 : Int) ≤ (j : Int) := by omega
          have hj1 : (j : Int) < (z.fWrites.length : Int) := by omega
          have hwj : IntKind.i64.wrap ((j : Int) + 1) = (j : Int) + 1 := by rw [IntKind.wrap_i64]; omega
          obtain ⟨bW, oW, cc, cy, e1, -, hbb, ry, hcy⟩ := rList_at rGWrite_lawful (by decide) HW.out j hjt
          simp only [List.cons.injEq, Value.slice.injEq, and_true] at e1
          obtain ⟨rfl, -, -⟩ := e1
          have HS2 := any_step z.fWrites j hjt (fun x => withinF s x.fKey)
          have HF2 := any_found z.fWrites j hjt (fun x => withinF s x.fKey)
          obtain ⟨x, hx⟩ : ∃ x, z.fWrites[j] = x := ⟨_, rfl⟩
          rw [hx] at ry HS2 HF2
          obtain ⟨ax, cx, av, cv, rfl, ⟨hax, -, -⟩, -⟩ := rGWrite_open ry
          have y0 : wr.cell? ⟨bW, oW + j * 3, none⟩ = some (.slice ax x.fKey.length cx) := (KW2.out.cell (p := ⟨bW, oW + j * 3, none⟩) hbb id).trans (hcy 0 _ rfl)
          have HCY := Lib.hid (hcy 0 _ rfl)
          have hld := HLS.out _ KW2.out.drew
          have KD := Lib.hid KW2.out.drew
          have HE := Lib.hid (within_c s [.slice sF s.fFrom.length dF, .slice sT s.fTo.length dT] ax cx x.fKey wr.drew (rGSpan_lawful.nix HSS.out KD.out) (hax.keep KD.out (fun _ _ h => h)))
          have HS2 := Lib.hid HS2
          have HF2 := Lib.hid HF2
          obtain ⟨v, hv⟩ : ∃ v, withinF s x.fKey = v := ⟨_, rfl⟩
          rw [hv] at HE HS2 HF2
          clear hcy hax ry hx hv
          go_upto_region 7 with fail
          refine wp_region_held_drew (S := (fun w' => w'.cell? ⟨b, 0, none⟩ = some (.slice (some ⟨bL, 0, none⟩) L.length cL) ∧ w'.cell? ⟨bL, k * 4 + 3, none⟩ = some (.slice (some ⟨bW, oW, none⟩) z.fWrites.length cW) ∧ w'.cell? ⟨bW, oW + j * 3, none⟩ = some (.slice ax x.fKey.length cx) ∧ (wholeSem 46 (.pointer (some ⟨w.heap.size, 0, none⟩))).run Try.prog w' = .ok (.value (.agg ([.slice sF s.fFrom.length dF, .slice sT s.fTo.length dT] : List Value).toArray)) w')) (by kernel_rfl) (⟨x0, y3, y0, hld⟩) (fun hHeld => ?_)
          clear x0 y3 y0 hld
          generalize wr.drew = wd at *
          refine wpAnyH_take (i := 0) (v := ?_) rfl (by kernel_rfl) (by kernel_rfl) (by kernel_rfl) (fun _ _ _ h => h) (Or.inl ⟨by kernel_rfl, ?_⟩) hHeld ?_
          rotate_left
          · intro w' hSw
            (try dsimp only at hSw)
            (try simp only [List.getElem_toArray]); (try simp only [List.getElem_cons_succ]); (try simp only [List.getElem_cons_zero])
            go_simp
            try with_reducible rfl
          (try simp only [Act.put]); (try simp only [List.getElem_toArray]); (try simp only [List.getElem_cons_succ]); (try simp only [List.getElem_cons_zero]); (try simp only [List.setIfInBounds_toArray]); (try simp only [List.set_cons_succ]); (try simp only [List.set_cons_zero])
          refine wpAnyH_take (i := 1) (v := ?_) rfl (by kernel_rfl) (by kernel_rfl) (by kernel_rfl) (fun _ _ _ h => h) (Or.inl ⟨by kernel_rfl, ?_⟩) hHeld ?_
          rotate_left
          · intro w' hSw
            (try dsimp only at hSw)
            (try simp only [List.getElem_toArray]); (try simp only [List.getElem_cons_succ]); (try simp only [List.getElem_cons_zero])
            go_simp
            try with_reducible rfl
          (try simp only [Act.put]); (try simp only [List.getElem_toArray]); (try simp only [List.getElem_cons_succ]); (try simp only [List.getElem_cons_zero]); (try simp only [List.setIfInBounds_toArray]); (try simp only [List.set_cons_succ]); (try simp only [List.set_cons_zero])
          refine wpAnyH_take (i := 2) (v := ?_) rfl (by kernel_rfl) (by kernel_rfl) (by kernel_rfl) (fun _ _ _ h => h) (Or.inl ⟨by kernel_rfl, ?_⟩) hHeld ?_
          rotate_left
          · intro w' hSw
            (try dsimp only at hSw)
            (try simp only [List.getElem_toArray]); (try simp only [List.getElem_cons_succ]); (try simp only [List.getElem_cons_zero])
            go_simp
            try with_reducible rfl
          (try simp only [Act.put]); (try simp only [List.getElem_toArray]); (try simp only [List.getElem_cons_succ]); (try simp only [List.getElem_cons_zero]); (try simp only [List.setIfInBounds_toArray]); (try simp only [List.set_cons_succ]); (try simp only [List.set_cons_zero])
          refine wpAnyH_take (i := 3) (v := ?_) rfl (by kernel_rfl) (by kernel_rfl) (by kernel_rfl) (fun _ _ _ h => h) (Or.inl ⟨by kernel_rfl, ?_⟩) hHeld ?_
          rotate_left
          · intro w' hSw
            (try dsimp only at hSw)
            (try simp only [List.getElem_toArray]); (try simp only [List.getElem_cons_succ]); (try simp only [List.getElem_cons_zero])
            go_simp
            try with_reducible rfl
          (try simp only [Act.put]); (try simp only [List.getElem_toArray]); (try simp only [List.getElem_cons_succ]); (try simp only [List.getElem_cons_zero]); (try simp only [List.setIfInBounds_toArray]); (try simp only [List.set_cons_succ]); (try simp only [List.set_cons_zero])
          refine wpAnyH_take (i := 4) (v := ?_) rfl (by kernel_rfl) (by kernel_rfl) (by kernel_rfl) (fun _ _ _ h => h) (Or.inl ⟨by kernel_rfl, ?_⟩) hHeld ?_
          rotate_left
          · intro w' hSw
            (try dsimp only at hSw)
            (try simp only [List.getElem_toArray]); (try simp only [List.getElem_cons_succ]); (try simp only [List.getElem_cons_zero])
            go_simp
            try with_reducible rfl
          (try simp only [Act.put]); (try simp only [List.getElem_toArray]); (try simp only [List.getElem_cons_succ]); (try simp only [List.getElem_cons_zero]); (try simp only [List.setIfInBounds_toArray]); (try simp only [List.set_cons_succ]); (try simp only [List.set_cons_zero])
          refine wpAnyH_take (i := 5) (v := ?_) rfl (by kernel_rfl) (by kernel_rfl) (by kernel_rfl) (fun _ _ _ h => h) (Or.inl ⟨by kernel_rfl, ?_⟩) hHeld ?_
          rotate_left
          · intro w' hSw
            (try dsimp only at hSw)
            (try simp only [List.getElem_toArray]); (try simp only [List.getElem_cons_succ]); (try simp only [List.getElem_cons_zero])
            go_simp
            try with_reducible rfl
          (try simp only [Act.put]); (try simp only [List.getElem_toArray]); (try simp only [List.getElem_cons_succ]); (try simp only [List.getElem_cons_zero]); (try simp only [List.setIfInBounds_toArray]); (try simp only [List.set_cons_succ]); (try simp only [List.set_cons_zero])
          refine wpAnyH_take (i := 6) (v := ?_) rfl (by kernel_rfl) (by kernel_rfl) (by kernel_rfl) (fun _ _ _ h => h) (Or.inl ⟨by kernel_rfl, ?_⟩) hHeld ?_
          rotate_left
          · intro w' hSw
            (try dsimp only at hSw)
            (try simp only [List.getElem_toArray]); (try simp only [List.getElem_cons_succ]); (try simp only [List.getElem_cons_zero])
            go_simp
            try with_reducible rfl
          (try simp only [Act.put]); (try simp only [List.getElem_toArray]); (try simp only [List.getElem_cons_succ]); (try simp only [List.getElem_cons_zero]); (try simp only [List.setIfInBounds_toArray]); (try simp only [List.set_cons_succ]); (try simp only [List.set_cons_zero])
          refine wpAnyH_take (i := 7) (v := ?_) rfl (by kernel_rfl) (by kernel_rfl) (by kernel_rfl) (fun _ _ _ h => h) (Or.inl ⟨by kernel_rfl, ?_⟩) hHeld ?_
          rotate_left
          · intro w' hSw
            (try dsimp only at hSw)
            (try simp only [List.getElem_toArray]); (try simp only [List.getElem_cons_succ]); (try simp only [List.getElem_cons_zero])
            go_simp
            try with_reducible rfl
          (try simp only [Act.put]); (try simp only [List.getElem_toArray]); (try simp only [List.getElem_cons_succ]); (try simp only [List.getElem_cons_zero]); (try simp only [List.setIfInBounds_toArray]); (try simp only [List.set_cons_succ]); (try simp only [List.set_cons_zero])
          refine wpAnyH_take (i := 8) (v := ?_) rfl (by kernel_rfl) (by kernel_rfl) (by kernel_rfl) (fun _ _ _ h => h) (Or.inl ⟨by kernel_rfl, ?_⟩) hHeld ?_
          rotate_left
          · intro w' hSw
            (try dsimp only at hSw)
            (try simp only [List.getElem_toArray]); (try simp only [List.getElem_cons_succ]); (try simp only [List.getElem_cons_zero])
            go_simp
            try with_reducible rfl
          (try simp only [Act.put]); (try simp only [List.getElem_toArray]); (try simp only [List.getElem_cons_succ]); (try simp only [List.getElem_cons_zero]); (try simp only [List.setIfInBounds_toArray]); (try simp only [List.set_cons_succ]); (try simp only [List.set_cons_zero])
          refine wpAnyH_take (i := 9) (v := ?_) rfl (by kernel_rfl) (by kernel_rfl) (by kernel_rfl) (fun _ _ _ h => h) (Or.inl ⟨by kernel_rfl, ?_⟩) hHeld ?_
          rotate_left
          · intro w' hSw
            (try dsimp only at hSw)
            (try simp only [List.getElem_toArray]); (try simp only [List.getElem_cons_succ]); (try simp only [List.getElem_cons_zero])
            go_simp
            try with_reducible rfl
          (try simp only [Act.put]); (try simp only [List.getElem_toArray]); (try simp only [List.getElem_cons_succ]); (try simp only [List.getElem_cons_zero]); (try simp only [List.setIfInBounds_toArray]); (try simp only [List.set_cons_succ]); (try simp only [List.set_cons_zero])
          refine wpAnyH_take (i := 10) (v := ?_) rfl (by kernel_rfl) (by kernel_rfl) (by kernel_rfl) (fun _ _ _ h => h) (Or.inl ⟨by kernel_rfl, ?_⟩) hHeld ?_
          rotate_left
          · intro w' hSw
            (try dsimp only at hSw)
            (try simp only [List.getElem_toArray]); (try simp only [List.getElem_cons_succ]); (try simp only [List.getElem_cons_zero])
            go_simp
            try with_reducible rfl
          (try simp only [Act.put]); (try simp only [List.getElem_toArray]); (try simp only [List.getElem_cons_succ]); (try simp only [List.getElem_cons_zero]); (try simp only [List.setIfInBounds_toArray]); (try simp only [List.set_cons_succ]); (try simp only [List.set_cons_zero])
          refine wpAnyH_take (i := 11) (v := ?_) rfl (by kernel_rfl) (by kernel_rfl) (by kernel_rfl) (fun _ _ _ h => h) (Or.inl ⟨by kernel_rfl, ?_⟩) hHeld ?_
          rotate_left
          · intro w' hSw
            (try dsimp only at hSw)
            (try simp only [List.getElem_toArray]); (try simp only [List.getElem_cons_succ]); (try simp only [List.getElem_cons_zero])
            go_simp
            try with_reducible rfl
          (try simp only [Act.put]); (try simp only [List.getElem_toArray]); (try simp only [List.getElem_cons_succ]); (try simp only [List.getElem_cons_zero]); (try simp only [List.setIfInBounds_toArray]); (try simp only [List.set_cons_succ]); (try simp only [List.set_cons_zero])
          refine wpAnyH_take (i := 12) (v := ?_) rfl (by kernel_rfl) (by kernel_rfl) (by kernel_rfl) (fun _ _ _ h => h) (Or.inl ⟨by kernel_rfl, ?_⟩) hHeld ?_
          rotate_left
          · intro w' hSw
            (try dsimp only at hSw)
            (try simp only [List.getElem_toArray]); (try simp only [List.getElem_cons_succ]); (try simp only [List.getElem_cons_zero])
            go_simp
            try with_reducible rfl
          (try simp only [Act.put]); (try simp only [List.getElem_toArray]); (try simp only [List.getElem_cons_succ]); (try simp only [List.getElem_cons_zero]); (try simp only [List.setIfInBounds_toArray]); (try simp only [List.set_cons_succ]); (try simp only [List.set_cons_zero])
          refine wpAnyH_ready (rs := [13]) (by kernel_rfl) (by simp) ?_
          refine AllReadyH.cons rfl (fun K hK => ?_) AllReadyH.nil
          go_simp
          go_fit HE.out
          rintro e w1 ⟨rfl, k1⟩
          have K1 := Lib.hid (KD.out.trans k1)
          clear k1 HE
          have x0 := HX0.out w1 K1.out
          have y3 := HY3.out w1 K1.out
          have y0 := (K1.out.cell (p := ⟨bW, oW + j * 3, none⟩) hbb id).trans HCY.out
          have hld := HLS.out w1 K1.out
          go_wp2_with fail
          refine hK.out _ _ (⟨x0, y3, y0, hld⟩) (fun hHeld => ?_)
          clear hK K
          (try simp only [Act.put]); (try simp only [List.getElem_toArray]); (try simp only [List.getElem_cons_succ]); (try simp only [List.getElem_cons_zero]); (try simp only [List.setIfInBounds_toArray]); (try simp only [List.set_cons_succ]); (try simp only [List.set_cons_zero])
          refine wpAnyH_done (by kernel_rfl) ?_ _
          clear hHeld x0 y3 y0 hld
          cases v with
          | true =>
            have HY := Lib.hid (HF.out (by rw [HTO.out]; exact HF2.out rfl))
            go_wp2_with fail
            go_ret
            exact ⟨ret_bool (by rw [HY.out]; rfl), KA.out.trans K1.out⟩
          | false =>
            have HN : Hid ((z.fWrites.take (j + 1)).any (fun x => withinF s x.fKey) = false) := by show _ = _; rw [HS2.out, hno2.out]; rfl
            go_wp2_with fail
            go_roundw
            case rel => exact ⟨j + 1, by omega, by go_num, HN, K1.out⟩
            case measure => simp [intOf]; omega
        · obtain rfl : j = z.fWrites.length := by omega
          have HN2 : Hid (toB z s = false) := by
            have h := hno2.out
            rw [List.take_length] at h
            show _ = _
            rw [HTO.out]; exact h
          have HN : Hid ((L.take (k + 1)).any (fun h => toB h s) = false) := by show _ = _; rw [HS.out, hno.out, HN2.out]; rfl
          go_wp2_with fail
          go_roundw
          case rel => exact ⟨k + 1, by omega, by go_num, HN, KW2.out⟩
          case measure => simp [intOf]; omega
    · obtain rfl : k = L.length := by omega
      have HN : Hid (L.any (fun h => toB h s) = false) := by
        have h := hno.out
        rw [List.take_length] at h
        exact h
      go_wp2_with fail
      go_ret
      exact ⟨ret_bool (by rw [HN.out]; rfl), KA.out.trans KW.out⟩
end
end Go.Proofs.Ytfagejfcibgigaa
namespace Go.Proofs.Ytfagejfcibgigaa
open Go.RowKit

def kB (h : GHeld) (s : GSpan) : Bool := h.fKeys.any (fun k => withinF s k) || h.fSpans.any (fun o => meetB s o)
theorem touche_any (L : List GHeld) (s : GSpan) : L.any (fun h => toucheB h s) = (L.any (fun h => kB h s) || L.any (fun h => toB h s)) := by
  induction L with
  | nil => rfl
  | cons x L ih =>
    rw [List.any_cons, List.any_cons, List.any_cons, ih]
    have e : x.fSpans.any (fun o => meetB o s) = x.fSpans.any (fun o => meetB s o) := by congr 1; funext o; exact meetB_comm o s
    unfold toucheB kB
    rw [e]
    generalize toB x s = p1
    generalize x.fKeys.any (fun k => withinF s k) = p2
    generalize x.fSpans.any (fun o => meetB s o) = p3
    generalize L.any _ = p4
    generalize L.any _ = p5
    cases p1 <;> cases p2 <;> cases p3 <;> cases p4 <;> cases p5 <;> rfl
section
attribute [local go_sem ↓] ldz_Held ldz_Span stz_Held
set_option maxRecDepth 100000 in
set_option maxHeartbeats 4000000 in
theorem rtouches_c {q : Nat → Prop} (Q : Nat → Prop) (b : Nat) (L : List GHeld) (aL : Option Addr) (cL : Nat) (css : List (List Value)) (s : GSpan) (csS : List Value) (w : World) (T : RTab w Q b L aL cL css) (hL : L.length ≤ 100000) (hs : rGSpan w q csS s) :
    Calls Try.prog 31 #[.pointer (some ⟨b, 0, none⟩), .agg csS.toArray] w fun e w' => e = .returned (.bool (L.any (fun h => toucheB h s))) ∧ Keep Nix w w' := by
  have hs2 := hs
  obtain ⟨sF, dF, sT, dT, rfl, -⟩ := rGSpan_open hs
  have kA : Keep Nix w (w.alloc (.cells #[.slice sF s.fFrom.length dF, .slice sT s.fTo.length dT] 46)) := (Keep.refl Nix w).alloc _
  have RS := Lib.hid (RowIs.alloc w #[.slice sF s.fFrom.length dF, .slice sT s.fTo.length dT] 46)
  have HT := Lib.hid (T.nix kA)
  have HSS := Lib.hid (rGSpan_lawful.nix hs2 kA)
  have KA := Lib.hid kA
  have HTA := touche_any L s
  obtain ⟨y, HY⟩ : ∃ y, Hid (L.any (fun h => toucheB h s) = y) := ⟨_, rfl⟩
  rw [HY.out] at HTA ⊢
  replace HTA := Lib.hid HTA
  clear T hs hs2 kA
  go_enter Try.func31, Try.ntmps31
  go_wp2_with fail
  generalize (w.alloc (.cells #[.slice sF s.fFrom.length dF, .slice sT s.fTo.length dT] 46)) = w0 at *
  have HLS : Hid (∀ w', Keep Nix w0 w' → (wholeSem 46 (.pointer (some ⟨w.heap.size, 0, none⟩))).run Try.prog w' = .ok (.value (.agg ([.slice sF s.fFrom.length dF, .slice sT s.fTo.length dT] : List Value).toArray)) w') := fun w' k' => Whole.row (P := Try.prog) S_Span rfl (RS.out.keep k' id)
  go_loopw [5] (fun i wr => ∃ k : Nat, k ≤ L.length ∧ i = .int .i64 (k : Int) ∧ Hid ((L.take k).any (fun h => kB h s) = false) ∧ Keep Nix w0 wr) (fun i _ => L.length - (intOf i).toNat)
  case atStart => exact ⟨0, Nat.zero_le _, rfl, rfl, Keep.refl _ _⟩
  case round =>
    obtain ⟨k, hk, rfl, hno, kw⟩ := hrel
    have x0 : wr.cell? ⟨b, 0, none⟩ = some (.slice aL L.length cL) := (HT.out.nix kw).row.cell 0
    have KW := Lib.hid kw
    clear kw
    by_cases hlt : k < L.length
    · have hi0 : (0 : Int) ≤ (k : Int) := by omega
      have hi1 : (k : Int) < (L.length : Int) := by omega
      have hwk : IntKind.i64.wrap ((k : Int) + 1) = (k : Int) + 1 := by rw [IntKind.wrap_i64]; omega
      obtain ⟨bL, cx, rfl, -, rx, hcx⟩ := (HT.out.nix KW.out).cells hlt
      have HS := any_step L k hlt (fun h => kB h s)
      have HF := any_found L k hlt (fun h => kB h s)
      obtain ⟨z, hz⟩ : ∃ z, L[k] = z := ⟨_, rfl⟩
      rw [hz] at rx HS HF
      obtain ⟨aK, cK, aS, cS, aW, cW, rfl, -, hK, hSp, -⟩ := rGHeld_open rx
      have hld := Whole.at (P := Try.prog) (w := wr) (b := bL) (o := k * 4) S_Held rfl hcx
      unfold Whole at hld
      obtain ⟨hst, row6, kX⟩ := boxed (P := Try.prog) (zs := [.int .u64 0, .slice none 0 0, .slice none 0 0, .slice none 0 0]) (cs := [.int .u64 z.fTxn, .slice aK z.fKeys.length cK, .slice aS z.fSpans.length cS, .slice aW z.fWrites.length cW]) S_Held wr rfl rfl rfl
      have R6 := Lib.hid row6
      have KB := Lib.hid (KW.out.trans kX)
      have HK := Lib.hid ((rList_lawful rBytes_lawful).nix hK kX)
      have HSp := Lib.hid ((rList_lawful rGSpan_lawful).nix hSp kX)
      have hlenK := (rList_len hK).2.2
      have hlenS := (rList_len hSp).2.2
      have HS : Hid ((L.take (k + 1)).any (fun h => kB h s) = ((L.take k).any (fun h => kB h s) || kB z s)) := HS
      have HF : Hid (kB z s = true → L.any (fun h => kB h s) = true) := HF
      have HKO : Hid (kB z s = (z.fKeys.any (fun k => withinF s k) || z.fSpans.any (fun o => meetB s o))) := rfl
      unfold far at hlenK hlenS
      clear hcx rx hz hK hSp row6 kX
      go_wp2_with fail
      clear x0 hld hst
      generalize ((wr.alloc (.cells ([.int .u64 0, .slice none 0 0, .slice none 0 0, .slice none 0 0] : List Value).toArray 28)).setRow wr.heap.size ([.int .u64 z.fTxn, .slice aK z.fKeys.length cK, .slice aS z.fSpans.length cS, .slice aW z.fWrites.length cW] : List Value).toArray) = wb at *
      generalize wr.heap.size = bx at *
      go_loopw [7] (fun i wr => ∃ j : Nat, j ≤ z.fKeys.length ∧ i = .int .i64 (j : Int) ∧ Hid ((z.fKeys.take j).any (fun x => withinF s x) = false) ∧ Keep Nix wb wr) (fun i _ => z.fKeys.length - (intOf i).toNat)
      case atStart => exact ⟨0, Nat.zero_le _, rfl, rfl, Keep.refl _ _⟩
      case round =>
        obtain ⟨j, hj, rfl, hno2, kw2⟩ := hrel
        have y1 : wr.cell? ⟨bx, 1, none⟩ = some (.slice aK z.fKeys.length cK) := (R6.out.keep kw2 id).cell 1
        have KW2 := Lib.hid kw2
        clear kw2
        by_cases hjt : j < z.fKeys.length
        · have hj0 : (0 : Int) ≤ (j : Int) := by omega
          have hj1 : (j : Int) < (z.fKeys.length : Int) := by omega
          have hwj : IntKind.i64.wrap ((j : Int) + 1) = (j : Int) + 1 := by rw [IntKind.wrap_i64]; omega
          obtain ⟨bW, oW, cc, cy, e1, -, hbb, ry, hcy⟩ := rList_at rBytes_lawful (by decide) HK.out j hjt
          simp only [List.cons.injEq, Value.slice.injEq, and_true] at e1
          obtain ⟨rfl, -, -⟩ := e1
          have HS2 := any_step z.fKeys j hjt (fun x => withinF s x)
          have HF2 := any_found z.fKeys j hjt (fun x => withinF s x)
          obtain ⟨x, hx⟩ : ∃ x, z.fKeys[j] = x := ⟨_, rfl⟩
          rw [hx] at ry HS2 HF2
          obtain ⟨ax, cx, rfl, hax, -, -⟩ := ry
          have y0 : wr.cell? ⟨bW, oW + j, none⟩ = some (.slice ax x.length cx) := (KW2.out.cell (p := ⟨bW, oW + j, none⟩) hbb id).trans (by have h := hcy 0 _ rfl; simpa using h)
          have KD := Lib.hid KW2.out.drew
          have hls := HLS.out _ (KB.out.trans KD.out)
          have HE := Lib.hid (within_c s [.slice sF s.fFrom.length dF, .slice sT s.fTo.length dT] ax cx x wr.drew (rGSpan_lawful.nix HSS.out (KB.out.trans KD.out)) (hax.keep KD.out (fun _ _ h => h)))
          have HY0 := Lib.hid y0
          have HS2 := Lib.hid HS2
          have HF2 := Lib.hid HF2
          obtain ⟨v, hv⟩ : ∃ v, withinF s x = v := ⟨_, rfl⟩
          rw [hv] at HE HS2 HF2
          have hWR := Lib.hid ((Keep.refl Nix wr).drew)
          clear hcy hax hx hv
          go_upto_region 8 with fail
          refine wp_region_held_drew (S := (fun w' => w'.cell? ⟨bx, 1, none⟩ = some (.slice (some ⟨bW, oW, none⟩) z.fKeys.length cK) ∧ w'.cell? ⟨bW, oW + j, none⟩ = some (.slice ax x.length cx) ∧ (wholeSem 46 (.pointer (some ⟨w.heap.size, 0, none⟩))).run Try.prog w' = .ok (.value (.agg ([.slice sF s.fFrom.length dF, .slice sT s.fTo.length dT] : List Value).toArray)) w')) (by kernel_rfl) (⟨y1, y0, hls⟩) (fun hHeld => ?_)
          clear y1 y0 hls
          refine wpAnyH_take (i := 0) (v := ?_) rfl (by kernel_rfl) (by kernel_rfl) (by kernel_rfl) (fun _ _ _ h => h) (Or.inl ⟨by kernel_rfl, ?_⟩) hHeld ?_
          rotate_left
          · intro w' hSw
            (try dsimp only at hSw)
            (try simp only [List.getElem_toArray]); (try simp only [List.getElem_cons_succ]); (try simp only [List.getElem_cons_zero])
            go_simp
            try with_reducible rfl
          (try simp only [Act.put]); (try simp only [List.getElem_toArray]); (try simp only [List.getElem_cons_succ]); (try simp only [List.getElem_cons_zero]); (try simp only [List.setIfInBounds_toArray]); (try simp only [List.set_cons_succ]); (try simp only [List.set_cons_zero])
          refine wpAnyH_take (i := 1) (v := ?_) rfl (by kernel_rfl) (by kernel_rfl) (by kernel_rfl) (fun _ _ _ h => h) (Or.inl ⟨by kernel_rfl, ?_⟩) hHeld ?_
          rotate_left
          · intro w' hSw
            (try dsimp only at hSw)
            (try simp only [List.getElem_toArray]); (try simp only [List.getElem_cons_succ]); (try simp only [List.getElem_cons_zero])
            go_simp
            try with_reducible rfl
          (try simp only [Act.put]); (try simp only [List.getElem_toArray]); (try simp only [List.getElem_cons_succ]); (try simp only [List.getElem_cons_zero]); (try simp only [List.setIfInBounds_toArray]); (try simp only [List.set_cons_succ]); (try simp only [List.set_cons_zero])
          refine wpAnyH_take (i := 2) (v := ?_) rfl (by kernel_rfl) (by kernel_rfl) (by kernel_rfl) (fun _ _ _ h => h) (Or.inl ⟨by kernel_rfl, ?_⟩) hHeld ?_
          rotate_left
          · intro w' hSw
            (try dsimp only at hSw)
            (try simp only [List.getElem_toArray]); (try simp only [List.getElem_cons_succ]); (try simp only [List.getElem_cons_zero])
            go_simp
            try with_reducible rfl
          (try simp only [Act.put]); (try simp only [List.getElem_toArray]); (try simp only [List.getElem_cons_succ]); (try simp only [List.getElem_cons_zero]); (try simp only [List.setIfInBounds_toArray]); (try simp only [List.set_cons_succ]); (try simp only [List.set_cons_zero])
          refine wpAnyH_take (i := 3) (v := ?_) rfl (by kernel_rfl) (by kernel_rfl) (by kernel_rfl) (fun _ _ _ h => h) (Or.inl ⟨by kernel_rfl, ?_⟩) hHeld ?_
          rotate_left
          · intro w' hSw
            (try dsimp only at hSw)
            (try simp only [List.getElem_toArray]); (try simp only [List.getElem_cons_succ]); (try simp only [List.getElem_cons_zero])
            go_simp
            try with_reducible rfl
          (try simp only [Act.put]); (try simp only [List.getElem_toArray]); (try simp only [List.getElem_cons_succ]); (try simp only [List.getElem_cons_zero]); (try simp only [List.setIfInBounds_toArray]); (try simp only [List.set_cons_succ]); (try simp only [List.set_cons_zero])
          refine wpAnyH_take (i := 4) (v := ?_) rfl (by kernel_rfl) (by kernel_rfl) (by kernel_rfl) (fun _ _ _ h => h) (Or.inl ⟨by kernel_rfl, ?_⟩) hHeld ?_
          rotate_left
          · intro w' hSw
            (try dsimp only at hSw)
            (try simp only [List.getElem_toArray]); (try simp only [List.getElem_cons_succ]); (try simp only [List.getElem_cons_zero])
            go_simp
            try with_reducible rfl
          (try simp only [Act.put]); (try simp only [List.getElem_toArray]); (try simp only [List.getElem_cons_succ]); (try simp only [List.getElem_cons_zero]); (try simp only [List.setIfInBounds_toArray]); (try simp only [List.set_cons_succ]); (try simp only [List.set_cons_zero])
          refine wpAnyH_take (i := 5) (v := ?_) rfl (by kernel_rfl) (by kernel_rfl) (by kernel_rfl) (fun _ _ _ h => h) (Or.inl ⟨by kernel_rfl, ?_⟩) hHeld ?_
          rotate_left
          · intro w' hSw
            (try dsimp only at hSw)
            (try simp only [List.getElem_toArray]); (try simp only [List.getElem_cons_succ]); (try simp only [List.getElem_cons_zero])
            go_simp
            try with_reducible rfl
          (try simp only [Act.put]); (try simp only [List.getElem_toArray]); (try simp only [List.getElem_cons_succ]); (try simp only [List.getElem_cons_zero]); (try simp only [List.setIfInBounds_toArray]); (try simp only [List.set_cons_succ]); (try simp only [List.set_cons_zero])
          refine wpAnyH_ready (rs := [6]) (by kernel_rfl) (by simp) ?_
          refine AllReadyH.cons rfl (fun K hK => ?_) AllReadyH.nil
          go_simp
          go_fit HE.out
          rintro e w1 ⟨rfl, k1⟩
          have kR := hWR.out.trans k1
          have K1 := Lib.hid (KD.out.trans k1)
          have y1 : w1.cell? ⟨bx, 1, none⟩ = some (.slice (some ⟨bW, oW, none⟩) z.fKeys.length cK) := (R6.out.keep K1.out id).cell 1
          have y0 := (kR.cell (p := ⟨bW, oW + j, none⟩) (Nat.lt_of_lt_of_le hbb KW2.out.size) id).trans HY0.out
          have hls := HLS.out _ (KB.out.trans K1.out)
          clear k1 HE kR
          go_wp2_with fail
          refine hK.out _ _ (⟨y1, y0, hls⟩) (fun hHeld => ?_)
          clear hK K
          (try simp only [Act.put]); (try simp only [List.getElem_toArray]); (try simp only [List.getElem_cons_succ]); (try simp only [List.getElem_cons_zero]); (try simp only [List.setIfInBounds_toArray]); (try simp only [List.set_cons_succ]); (try simp only [List.set_cons_zero])
          refine wpAnyH_done (by kernel_rfl) ?_ _
          clear hHeld y1 y0 hls
          cases v with
          | true =>
            have HR : Hid (y = true) := by show _ = _; rw [HTA.out, HF.out (by rw [HKO.out, HF2.out rfl]; rfl)]; rfl
            go_wp2_with fail
            go_ret
            exact ⟨ret_bool HR.out.symm, (KA.out.trans KB.out).trans K1.out⟩
          | false =>
            have HN : Hid ((z.fKeys.take (j + 1)).any (fun x => withinF s x) = false) := by show _ = _; rw [HS2.out, hno2.out]; rfl
            go_wp2_with fail
            go_roundw
            case rel => exact ⟨j + 1, by omega, by go_num, HN, K1.out⟩
            case measure => simp [intOf]; omega
        · obtain rfl : j = z.fKeys.length := by omega
          have HN1 : Hid (z.fKeys.any (fun x => withinF s x) = false) := by
            have h := hno2.out
            rw [List.take_length] at h
            exact h
          clear hno2
          go_wp2_with fail
          clear y1
          go_loopw [8] (fun i wr => ∃ j : Nat, j ≤ z.fSpans.length ∧ i = .int .i64 (j : Int) ∧ Hid ((z.fSpans.take j).any (fun x => meetB s x) = false) ∧ Keep Nix wb wr) (fun i _ => z.fSpans.length - (intOf i).toNat)
          case atStart => exact ⟨0, Nat.zero_le _, rfl, rfl, KW2.out⟩
          case round =>
            obtain ⟨j, hj, rfl, hno2, kw2⟩ := hrel
            have y1 : wr.cell? ⟨bx, 2, none⟩ = some (.slice aS z.fSpans.length cS) := (R6.out.keep kw2 id).cell 2
            have KW2 := Lib.hid kw2
            clear kw2
            by_cases hjt : j < z.fSpans.length
            · have hj0 : (0 : Int) ≤ (j : Int) := by omega
              have hj1 : (j : Int) < (z.fSpans.length : Int) := by omega
              have hwj : IntKind.i64.wrap ((j : Int) + 1) = (j : Int) + 1 := by rw [IntKind.wrap_i64]; omega
              obtain ⟨bW, oW, cc, cy, e1, -, hbb, ry, hcy⟩ := rList_at rGSpan_lawful (by decide) HSp.out j hjt
              simp only [List.cons.injEq, Value.slice.injEq, and_true] at e1
              obtain ⟨rfl, -, -⟩ := e1
              have HS2 := any_step z.fSpans j hjt (fun x => meetB s x)
              have HF2 := any_found z.fSpans j hjt (fun x => meetB s x)
              obtain ⟨x, hx⟩ : ∃ x, z.fSpans[j] = x := ⟨_, rfl⟩
              rw [hx] at ry HS2 HF2
              have KD := Lib.hid KW2.out.drew
              have HLX := Lib.hid (fun w' (k' : Keep Nix wb w') => (Whole.at (P := Try.prog) (w := w') (b := bW) (o := oW + j * 2) S_Span (rGSpan_lawful.len ry) (fun i u hu => (k'.cell (p := ⟨bW, _, none⟩) hbb id).trans (hcy i u hu))))
              have hlx := HLX.out _ KD.out
              unfold Whole at hlx
              have hls := HLS.out _ (KB.out.trans KD.out)
              have HE := Lib.hid (rmeet_c s x [.slice sF s.fFrom.length dF, .slice sT s.fTo.length dT] cy wr.drew (rGSpan_lawful.nix HSS.out (KB.out.trans KD.out)) (rGSpan_lawful.nix ry KD.out))
              have HS2 := Lib.hid HS2
              have HF2 := Lib.hid HF2
              obtain ⟨v, hv⟩ : ∃ v, meetB s x = v := ⟨_, rfl⟩
              rw [hv] at HE HS2 HF2
              clear hcy hx hv ry
              go_upto_region 13 with fail
              refine wp_region_held_drew (S := (fun w' => w'.cell? ⟨bx, 2, none⟩ = some (.slice (some ⟨bW, oW, none⟩) z.fSpans.length cS) ∧ (wholeSem 46 (.pointer (some ⟨bW, oW + j * 2, none⟩))).run Try.prog w' = .ok (.value (.agg cy.toArray)) w' ∧ (wholeSem 46 (.pointer (some ⟨w.heap.size, 0, none⟩))).run Try.prog w' = .ok (.value (.agg ([.slice sF s.fFrom.length dF, .slice sT s.fTo.length dT] : List Value).toArray)) w')) (by kernel_rfl) (⟨y1, hlx, hls⟩) (fun hHeld => ?_)
              clear y1 hlx hls
              generalize wr.drew = wd at *
              refine wpAnyH_take (i := 0) (v := ?_) rfl (by kernel_rfl) (by kernel_rfl) (by kernel_rfl) (fun _ _ _ h => h) (Or.inl ⟨by kernel_rfl, ?_⟩) hHeld ?_
              rotate_left
              · intro w' hSw
                (try dsimp only at hSw)
                (try simp only [List.getElem_toArray]); (try simp only [List.getElem_cons_succ]); (try simp only [List.getElem_cons_zero])
                go_simp
                try with_reducible rfl
              (try simp only [Act.put]); (try simp only [List.getElem_toArray]); (try simp only [List.getElem_cons_succ]); (try simp only [List.getElem_cons_zero]); (try simp only [List.setIfInBounds_toArray]); (try simp only [List.set_cons_succ]); (try simp only [List.set_cons_zero])
              refine wpAnyH_take (i := 1) (v := ?_) rfl (by kernel_rfl) (by kernel_rfl) (by kernel_rfl) (fun _ _ _ h => h) (Or.inl ⟨by kernel_rfl, ?_⟩) hHeld ?_
              rotate_left
              · intro w' hSw
                (try dsimp only at hSw)
                (try simp only [List.getElem_toArray]); (try simp only [List.getElem_cons_succ]); (try simp only [List.getElem_cons_zero])
                go_simp
                try with_reducible rfl
              (try simp only [Act.put]); (try simp only [List.getElem_toArray]); (try simp only [List.getElem_cons_succ]); (try simp only [List.getElem_cons_zero]); (try simp only [List.setIfInBounds_toArray]); (try simp only [List.set_cons_succ]); (try simp only [List.set_cons_zero])
              refine wpAnyH_take (i := 2) (v := ?_) rfl (by kernel_rfl) (by kernel_rfl) (by kernel_rfl) (fun _ _ _ h => h) (Or.inl ⟨by kernel_rfl, ?_⟩) hHeld ?_
              rotate_left
              · intro w' hSw
                (try dsimp only at hSw)
                (try simp only [List.getElem_toArray]); (try simp only [List.getElem_cons_succ]); (try simp only [List.getElem_cons_zero])
                go_simp
                try with_reducible rfl
              (try simp only [Act.put]); (try simp only [List.getElem_toArray]); (try simp only [List.getElem_cons_succ]); (try simp only [List.getElem_cons_zero]); (try simp only [List.setIfInBounds_toArray]); (try simp only [List.set_cons_succ]); (try simp only [List.set_cons_zero])
              refine wpAnyH_take (i := 3) (v := ?_) rfl (by kernel_rfl) (by kernel_rfl) (by kernel_rfl) (fun _ _ _ h => h) (Or.inl ⟨by kernel_rfl, ?_⟩) hHeld ?_
              rotate_left
              · intro w' hSw
                (try dsimp only at hSw)
                (try simp only [List.getElem_toArray]); (try simp only [List.getElem_cons_succ]); (try simp only [List.getElem_cons_zero])
                go_simp
                try with_reducible rfl
              (try simp only [Act.put]); (try simp only [List.getElem_toArray]); (try simp only [List.getElem_cons_succ]); (try simp only [List.getElem_cons_zero]); (try simp only [List.setIfInBounds_toArray]); (try simp only [List.set_cons_succ]); (try simp only [List.set_cons_zero])
              refine wpAnyH_take (i := 4) (v := ?_) rfl (by kernel_rfl) (by kernel_rfl) (by kernel_rfl) (fun _ _ _ h => h) (Or.inl ⟨by kernel_rfl, ?_⟩) hHeld ?_
              rotate_left
              · intro w' hSw
                (try dsimp only at hSw)
                (try simp only [List.getElem_toArray]); (try simp only [List.getElem_cons_succ]); (try simp only [List.getElem_cons_zero])
                go_simp
                try with_reducible rfl
              (try simp only [Act.put]); (try simp only [List.getElem_toArray]); (try simp only [List.getElem_cons_succ]); (try simp only [List.getElem_cons_zero]); (try simp only [List.setIfInBounds_toArray]); (try simp only [List.set_cons_succ]); (try simp only [List.set_cons_zero])
              refine wpAnyH_take (i := 5) (v := ?_) rfl (by kernel_rfl) (by kernel_rfl) (by kernel_rfl) (fun _ _ _ h => h) (Or.inl ⟨by kernel_rfl, ?_⟩) hHeld ?_
              rotate_left
              · intro w' hSw
                (try dsimp only at hSw)
                (try simp only [List.getElem_toArray]); (try simp only [List.getElem_cons_succ]); (try simp only [List.getElem_cons_zero])
                go_simp
                try with_reducible rfl
              (try simp only [Act.put]); (try simp only [List.getElem_toArray]); (try simp only [List.getElem_cons_succ]); (try simp only [List.getElem_cons_zero]); (try simp only [List.setIfInBounds_toArray]); (try simp only [List.set_cons_succ]); (try simp only [List.set_cons_zero])
              refine wpAnyH_ready (rs := [6]) (by kernel_rfl) (by simp) ?_
              refine AllReadyH.cons rfl (fun K hK => ?_) AllReadyH.nil
              go_simp
              go_fit HE.out
              rintro e w1 ⟨rfl, k1⟩
              have K1 := Lib.hid (KD.out.trans k1)
              have y1 : w1.cell? ⟨bx, 2, none⟩ = some (.slice (some ⟨bW, oW, none⟩) z.fSpans.length cS) := (R6.out.keep K1.out id).cell 2
              have hlx := HLX.out _ K1.out
              unfold Whole at hlx
              have hls := HLS.out _ (KB.out.trans K1.out)
              clear k1 HE
              go_wp2_with fail
              refine hK.out _ _ (⟨y1, hlx, hls⟩) (fun hHeld => ?_)
              clear hK K
              (try simp only [Act.put]); (try simp only [List.getElem_toArray]); (try simp only [List.getElem_cons_succ]); (try simp only [List.getElem_cons_zero]); (try simp only [List.setIfInBounds_toArray]); (try simp only [List.set_cons_succ]); (try simp only [List.set_cons_zero])
              refine wpAnyH_done (by kernel_rfl) ?_ _
              clear hHeld y1 hlx hls
              cases v with
              | true =>
                have HR : Hid (y = true) := by show _ = _; rw [HTA.out, HF.out (by rw [HKO.out, HF2.out rfl, Bool.or_true])]; rfl
                go_wp2_with fail
                go_ret
                exact ⟨ret_bool HR.out.symm, (KA.out.trans KB.out).trans K1.out⟩
              | false =>
                have HN : Hid ((z.fSpans.take (j + 1)).any (fun x => meetB s x) = false) := by show _ = _; rw [HS2.out, hno2.out]; rfl
                go_wp2_with fail
                go_roundw
                case rel => exact ⟨j + 1, by omega, by go_num, HN, K1.out⟩
                case measure => simp [intOf]; omega
            · obtain rfl : j = z.fSpans.length := by omega
              have HN2 : Hid (kB z s = false) := by
                have h := hno2.out
                rw [List.take_length] at h
                show _ = _
                rw [HKO.out, HN1.out, h]; rfl
              have HN : Hid ((L.take (k + 1)).any (fun h => kB h s) = false) := by show _ = _; rw [HS.out, hno.out, HN2.out]; rfl
              have K1 := Lib.hid (KB.out.trans KW2.out)
              go_wp2_with fail
              go_roundw
              case rel => exact ⟨k + 1, by omega, by go_num, HN, K1.out⟩
              case measure => simp [intOf]; omega
    · obtain rfl : k = L.length := by omega
      have HN : Hid (L.any (fun h => kB h s) = false) := by
        have h := hno.out
        rw [List.take_length] at h
        exact h
      have HC := Lib.hid (rclear_c Q b L aL cL css s [.slice sF s.fFrom.length dF, .slice sT s.fTo.length dT] wr (HT.out.nix KW.out) hL (rGSpan_lawful.nix HSS.out KW.out))
      have HR : Hid (y = L.any (fun h => toB h s)) := by show _ = _; rw [HTA.out, HN.out]; rfl
      generalize L.any (fun h => toB h s) = v at *
      have hls := HLS.out wr KW.out
      go_wp2_with fail
      go_fit HC.out
      rintro e w1 ⟨rfl, k1⟩
      clear HC hls x0
      go_wp2_with fail
      go_ret
      exact ⟨ret_bool (by rw [HR.out]; try (cases v <;> rfl)), KA.out.trans (KW.out.trans k1)⟩
end
end Go.Proofs.Ytfagejfcibgigaa
