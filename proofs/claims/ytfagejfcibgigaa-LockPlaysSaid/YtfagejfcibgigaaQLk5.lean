/- LOCK: spans that meet, told by lock's own function; what some lock touches. Printed by mac.py. -/
import Derived.Test.YtfagejfcibgigaaQLkX
namespace Go.Proofs.Ytfagejfcibgigaa
open Go.RowKit

set_option maxRecDepth 100000 in
set_option maxHeartbeats 1000000 in
theorem meet_c {p q : Nat → Prop} (s r : GSpan) (css csr : List Value) (w : World) (hs : rGSpan w p css s) (hr : rGSpan w q csr r) :
    Calls Try.prog 54 #[.agg css.toArray, .agg csr.toArray] w fun e w' => e = .returned (.bool (meetB s r)) ∧ Keep Nix w w' := by
  have hs2 := hs
  have hr2 := hr
  obtain ⟨sF, dF, sT, dT, rfl, h1, -⟩ := rGSpan_open hs
  obtain ⟨rF, eF, rT, eT, rfl, h2, -⟩ := rGSpan_open hr
  have kk : Keep Nix w ((w.alloc (.cells #[.slice sF s.fFrom.length dF, .slice sT s.fTo.length dT] 46)).alloc (.cells #[.slice rF r.fFrom.length eF, .slice rT r.fTo.length eT] 46)) := ((Keep.refl Nix w).alloc _).alloc _
  have row0 : RowIs ((w.alloc (.cells #[.slice sF s.fFrom.length dF, .slice sT s.fTo.length dT] 46)).alloc (.cells #[.slice rF r.fFrom.length eF, .slice rT r.fTo.length eT] 46)) w.heap.size 46 [.slice sF s.fFrom.length dF, .slice sT s.fTo.length dT] := (RowIs.alloc w _ _).keep ((Keep.refl Nix _).alloc _) id
  have row1 : RowIs ((w.alloc (.cells #[.slice sF s.fFrom.length dF, .slice sT s.fTo.length dT] 46)).alloc (.cells #[.slice rF r.fFrom.length eF, .slice rT r.fTo.length eT] 46)) (w.heap.size + 1) 46 [.slice rF r.fFrom.length eF, .slice rT r.fTo.length eT] := by
    have h := RowIs.alloc (w.alloc (.cells #[.slice sF s.fFrom.length dF, .slice sT s.fTo.length dT] 46)) #[.slice rF r.fFrom.length eF, .slice rT r.fTo.length eT] 46
    rw [World.size_alloc] at h
    exact h
  have ls := h1.1.keep kk (fun _ _ h => h)
  have lr := h2.1.keep kk (fun _ _ h => h)
  have hC := cmpB_c rF sF r.fFrom.length eF s.fFrom.length dF r.fFrom s.fFrom ((w.alloc (.cells #[.slice sF s.fFrom.length dF, .slice sT s.fTo.length dT] 46)).alloc (.cells #[.slice rF r.fFrom.length eF, .slice rT r.fTo.length eT] 46)) rfl rfl lr ls
  have hg := cmp_gt r.fFrom s.fFrom
  generalize Lib.compareBytes r.fFrom s.fFrom = m at *
  obtain ⟨y, HY⟩ : ∃ y, Hid (meetB s r = y) := ⟨_, rfl⟩
  rw [HY.out]
  have x0 := row0.cell 0
  have z0 := row1.cell 0
  (try simp only [List.getElem?_cons_zero] at x0 z0)
  have x1 := row0.cell 1
  (try simp only [List.getElem?_cons_succ] at x1); (try simp only [List.getElem?_cons_zero] at x1)
  have z1 := row1.cell 1
  (try simp only [List.getElem?_cons_succ] at z1); (try simp only [List.getElem?_cons_zero] at z1)
  rcases Int.lt_or_le 0 m with t | t
  · have hlt : ltB s.fFrom r.fFrom = true := by rw [← hg]; simpa using t
    clear hg
    have e : Hid (y = (withinF s r.fFrom && withinF r r.fFrom)) := by show _ = _; rw [← HY.out]; unfold meetB fromF; rw [if_pos hlt]
    have hA := in_c s [.slice sF s.fFrom.length dF, .slice sT s.fTo.length dT] rF eF r.fFrom ((w.alloc (.cells #[.slice sF s.fFrom.length dF, .slice sT s.fTo.length dT] 46)).alloc (.cells #[.slice rF r.fFrom.length eF, .slice rT r.fTo.length eT] 46)) (rGSpan_lawful.nix hs2 kk) lr
    have HB : Hid (∀ w2, Keep Nix ((w.alloc (.cells #[.slice sF s.fFrom.length dF, .slice sT s.fTo.length dT] 46)).alloc (.cells #[.slice rF r.fFrom.length eF, .slice rT r.fTo.length eT] 46)) w2 → Calls Try.prog 51 #[.agg #[.slice rF r.fFrom.length eF, .slice rT r.fTo.length eT], .slice rF r.fFrom.length eF] w2 fun e w' => e = .returned (.bool (withinF r r.fFrom)) ∧ Keep Nix w2 w') := fun w2 k2 =>
      in_c r [.slice rF r.fFrom.length eF, .slice rT r.fTo.length eT] rF eF r.fFrom w2 (rGSpan_lawful.nix hr2 (kk.trans k2)) (lr.keep k2 (fun _ _ h => h))
    have HRO : Hid (∀ w2, Keep Nix ((w.alloc (.cells #[.slice sF s.fFrom.length dF, .slice sT s.fTo.length dT] 46)).alloc (.cells #[.slice rF r.fFrom.length eF, .slice rT r.fTo.length eT] 46)) w2 → RowIs w2 (w.heap.size + 1) 46 [.slice rF r.fFrom.length eF, .slice rT r.fTo.length eT]) := fun w2 k2 => row1.keep k2 id
    clear hs hs2 hr hr2 h1 h2 row0 row1 ls lr
    generalize withinF s r.fFrom = v1 at *
    generalize withinF r r.fFrom = v2 at *
    cases v1 with
    | true =>
      go_enter Try.func54, Try.ntmps54
      go_wp2_with fail
      go_fit hC
      rintro e w1 ⟨rfl, rfl⟩
      go_wp2_with fail
      go_fit hA
      rintro e w1 ⟨rfl, k1⟩
      have rowR := HRO.out w1 k1
      clear z0 z1
      have z0 := rowR.cell 0
      (try simp only [List.getElem?_cons_zero] at z0)
      have z1 := rowR.cell 1
      (try simp only [List.getElem?_cons_succ] at z1); (try simp only [List.getElem?_cons_zero] at z1)
      clear rowR
      go_wp2_with fail
      go_fit (HB.out w1 k1)
      rintro e w2 ⟨rfl, k2⟩
      go_wp2_with fail
      go_ret
      exact ⟨ret_bool (by rw [e.out]; rfl), (kk.trans k1).trans k2⟩
    | false =>
      go_enter Try.func54, Try.ntmps54
      go_wp2_with fail
      go_fit hC
      rintro e w1 ⟨rfl, rfl⟩
      go_wp2_with fail
      go_fit hA
      rintro e w1 ⟨rfl, k1⟩
      go_wp2_with fail
      go_ret
      exact ⟨ret_bool (by rw [e.out]; rfl), kk.trans k1⟩
  · have hlt : ltB s.fFrom r.fFrom = false := by rw [← hg]; simpa using t
    have t2 : ¬ 0 < m := by omega
    clear hg
    have e : Hid (y = (withinF s s.fFrom && withinF r s.fFrom)) := by show _ = _; rw [← HY.out]; unfold meetB fromF; rw [if_neg (by rw [hlt]; decide)]
    have hA := in_c s [.slice sF s.fFrom.length dF, .slice sT s.fTo.length dT] sF dF s.fFrom ((w.alloc (.cells #[.slice sF s.fFrom.length dF, .slice sT s.fTo.length dT] 46)).alloc (.cells #[.slice rF r.fFrom.length eF, .slice rT r.fTo.length eT] 46)) (rGSpan_lawful.nix hs2 kk) ls
    have HB : Hid (∀ w2, Keep Nix ((w.alloc (.cells #[.slice sF s.fFrom.length dF, .slice sT s.fTo.length dT] 46)).alloc (.cells #[.slice rF r.fFrom.length eF, .slice rT r.fTo.length eT] 46)) w2 → Calls Try.prog 51 #[.agg #[.slice rF r.fFrom.length eF, .slice rT r.fTo.length eT], .slice sF s.fFrom.length dF] w2 fun e w' => e = .returned (.bool (withinF r s.fFrom)) ∧ Keep Nix w2 w') := fun w2 k2 =>
      in_c r [.slice rF r.fFrom.length eF, .slice rT r.fTo.length eT] sF dF s.fFrom w2 (rGSpan_lawful.nix hr2 (kk.trans k2)) (ls.keep k2 (fun _ _ h => h))
    have HRO : Hid (∀ w2, Keep Nix ((w.alloc (.cells #[.slice sF s.fFrom.length dF, .slice sT s.fTo.length dT] 46)).alloc (.cells #[.slice rF r.fFrom.length eF, .slice rT r.fTo.length eT] 46)) w2 → RowIs w2 (w.heap.size + 1) 46 [.slice rF r.fFrom.length eF, .slice rT r.fTo.length eT]) := fun w2 k2 => row1.keep k2 id
    clear hs hs2 hr hr2 h1 h2 row0 row1 ls lr
    generalize withinF s s.fFrom = v1 at *
    generalize withinF r s.fFrom = v2 at *
    cases v1 with
    | true =>
      go_enter Try.func54, Try.ntmps54
      go_wp2_with fail
      go_fit hC
      rintro e w1 ⟨rfl, rfl⟩
      go_wp2_with fail
      go_fit hA
      rintro e w1 ⟨rfl, k1⟩
      have rowR := HRO.out w1 k1
      clear z0 z1
      have z0 := rowR.cell 0
      (try simp only [List.getElem?_cons_zero] at z0)
      have z1 := rowR.cell 1
      (try simp only [List.getElem?_cons_succ] at z1); (try simp only [List.getElem?_cons_zero] at z1)
      clear rowR
      go_wp2_with fail
      go_fit (HB.out w1 k1)
      rintro e w2 ⟨rfl, k2⟩
      go_wp2_with fail
      go_ret
      exact ⟨ret_bool (by rw [e.out]; rfl), (kk.trans k1).trans k2⟩
    | false =>
      go_enter Try.func54, Try.ntmps54
      go_wp2_with fail
      go_fit hC
      rintro e w1 ⟨rfl, rfl⟩
      go_wp2_with fail
      go_fit hA
      rintro e w1 ⟨rfl, k1⟩
      go_wp2_with fail
      go_ret
      exact ⟨ret_bool (by rw [e.out]; rfl), kk.trans k1⟩
end Go.Proofs.Ytfagejfcibgigaa
