/- ROUTE: New, Group, awake, small; the keys of a span that a group has. Printed by mac.py. -/
import Derived.Test.YtpblmaklbnpbfaaRt5
namespace Go.Proofs.Ytpblmaklbnpbfaa
open Go.RowKit

section
attribute [local go_sem ↓] ldz_Routes
set_option maxRecDepth 100000 in
set_option maxHeartbeats 1000000 in
theorem Group_c {p q : Nat → Prop} (r : GRoutes) (csr : List Value) (a : Option Addr) (cap : Nat) (l : List UInt8) (w : World) (hr : rGRoutes w p csr r) (hb : 1 ≤ r.fBase ∧ r.fBase ≤ 4) (hl : LB w q a cap l) :
    Calls Try.prog 24 #[.agg csr.toArray, .slice a l.length cap] w fun e w' => e = .returned (.int .i64 (groupF r l)) ∧ Keep Nix w w' := by
  have HR := Lib.hid hr
  obtain ⟨aS, cS, aC, cC, rfl, -⟩ := rGRoutes_open hr
  obtain ⟨y, HY⟩ : ∃ y, Hid (groupF r l = y) := ⟨_, rfl⟩
  rw [HY.out]
  have HB := Lib.hid hb
  have kk : Keep Nix w ((w.alloc (.cells #[.int .i64 r.fEpoch, .int .i64 r.fBase, .slice aS r.fSpans.length cS, .int .i64 r.fMoving, .slice aC r.fCut.length cC] 25)).alloc (.cells #[.int .u8 114] 5)) := ((Keep.refl Nix w).alloc _).alloc _
  have row0 : RowIs ((w.alloc (.cells #[.int .i64 r.fEpoch, .int .i64 r.fBase, .slice aS r.fSpans.length cS, .int .i64 r.fMoving, .slice aC r.fCut.length cC] 25)).alloc (.cells #[.int .u8 114] 5)) w.heap.size 25 [.int .i64 r.fEpoch, .int .i64 r.fBase, .slice aS r.fSpans.length cS, .int .i64 r.fMoving, .slice aC r.fCut.length cC] := (RowIs.alloc w _ _).keep ((Keep.refl Nix _).alloc _) id
  have rowA := RowIs.alloc (w.alloc (.cells #[.int .i64 r.fEpoch, .int .i64 r.fBase, .slice aS r.fSpans.length cS, .int .i64 r.fMoving, .slice aC r.fCut.length cC] 25)) #[.int .u8 114] 5
  have LA := LB.row (c := 114) rowA (fun _ => True) trivial
  have hsz : (w.alloc (.cells #[.int .i64 r.fEpoch, .int .i64 r.fBase, .slice aS r.fSpans.length cS, .int .i64 r.fMoving, .slice aC r.fCut.length cC] 25)).heap.size = w.heap.size + 1 := by simp
  rw [hsz] at LA
  have hc1 := prefix_c a (some ⟨w.heap.size + 1, 0, none⟩) l.length cap 1 l 114 ((w.alloc (.cells #[.int .i64 r.fEpoch, .int .i64 r.fBase, .slice aS r.fSpans.length cS, .int .i64 r.fMoving, .slice aC r.fCut.length cC] 25)).alloc (.cells #[.int .u8 114] 5)) rfl hl.2.1 (hl.keep kk).1 LA.1
  clear hr hb rowA LA hsz
  go_enter Try.func24, Try.ntmps24
  go_wp2_with fail
  go_fit hc1
  rintro e w2 ⟨rfl, hw2⟩
  rw [hw2] at kk row0
  clear hc1 hw2
  cases hv : decide (l.head? = some 114) with
  | true =>
    have ldR := Whole.run (P := Try.prog) S_Routes rfl row0
    have HG : Hid (baseF r.fBase l = y) := by
      show _ = _
      rw [← HY.out]
      cases l with
      | nil => simp at hv
      | cons c l =>
        have hc : c = 114 := by simpa using hv
        simp [groupF, hc]
    have hcall := Base_c r [.int .i64 r.fEpoch, .int .i64 r.fBase, .slice aS r.fSpans.length cS, .int .i64 r.fMoving, .slice aC r.fCut.length cC] a cap l w2 (rGRoutes_lawful.nix HR.out kk) HB.out (hl.keep kk)
    rw [HG.out] at hcall
    clear hv row0 hl
    go_wp2_with fail
    go_fit hcall
    rintro e w3 ⟨rfl, k3⟩
    clear hcall
    go_wp2_with fail
    go_ret
    exact ⟨rfl, kk.trans k3⟩
  | false =>
    have k3 : Keep Nix w2 (w2.alloc (.cells #[.int .u8 120] 5)) := (Keep.refl Nix w2).alloc _
    have rowA := RowIs.alloc w2 #[.int .u8 120] 5
    have LA := LB.row (c := 120) rowA (fun _ => True) trivial
    replace row0 := row0.keep k3 id
    replace kk := kk.trans k3
    have hc1 := prefix_c a (some ⟨w2.heap.size, 0, none⟩) l.length cap 1 l 120 (w2.alloc (.cells #[.int .u8 120] 5)) rfl hl.2.1 (hl.keep kk).1 LA.1
    clear rowA LA k3
    have HV := Lib.hid hv
    clear hv
    go_wp2_with fail
    go_fit hc1
    rintro e w4 ⟨rfl, hw4⟩
    rw [hw4] at kk row0
    clear hc1 hw4
    cases hv : decide (l.head? = some 120) with
    | true =>
      have ldR := Whole.run (P := Try.prog) S_Routes rfl row0
      have HG : Hid (entryF l r.fSpans = y) := by
        show _ = _
        rw [← HY.out]
        cases l with
        | nil => simp at hv
        | cons c l =>
          have hc : c = 120 := by simpa using hv
          simp [groupF, hc]
      have hcall := Entry_c r [.int .i64 r.fEpoch, .int .i64 r.fBase, .slice aS r.fSpans.length cS, .int .i64 r.fMoving, .slice aC r.fCut.length cC] a cap l w4 (rGRoutes_lawful.nix HR.out kk) (hl.keep kk)
      rw [HG.out] at hcall
      clear hv row0 hl
      go_wp2_with fail
      go_fit hcall
      rintro e w3 ⟨rfl, k3⟩
      clear hcall
      go_wp2_with fail
      go_ret
      exact ⟨rfl, kk.trans k3⟩
    | false =>
      have HG : Hid (y = 0) := by
        show _ = _
        rw [← HY.out]
        have hv0 := HV.out
        cases l with
        | nil => rfl
        | cons c l =>
          have hc : c ≠ 120 := by simpa using hv
          have hc2 : c ≠ 114 := by simpa using hv0
          simp [groupF, hc, hc2]
      clear hv hl
      go_wp2_with fail
      go_ret
      exact ⟨ret_int HG.out.symm, kk⟩
theorem small_c {p : Nat → Prop} (r : GRoutes) (csr : List Value) (w : World) (hr : rGRoutes w p csr r) :
    Calls Try.prog 8 #[.agg csr.toArray] w fun e w' => e = .returned (.bool (decide ((r.fSpans.length : Int) < 30))) ∧ Keep Nix w w' := by
  obtain ⟨aS, cS, aC, cC, rfl, -⟩ := rGRoutes_open hr
  have kk : Keep Nix w (w.alloc (.cells #[.int .i64 r.fEpoch, .int .i64 r.fBase, .slice aS r.fSpans.length cS, .int .i64 r.fMoving, .slice aC r.fCut.length cC] 25)) := (Keep.refl Nix w).alloc _
  have row0 : RowIs (w.alloc (.cells #[.int .i64 r.fEpoch, .int .i64 r.fBase, .slice aS r.fSpans.length cS, .int .i64 r.fMoving, .slice aC r.fCut.length cC] 25)) w.heap.size 25 [.int .i64 r.fEpoch, .int .i64 r.fBase, .slice aS r.fSpans.length cS, .int .i64 r.fMoving, .slice aC r.fCut.length cC] := RowIs.alloc w _ _
  have y2 := row0.cell 2
  (try simp only [List.getElem?_cons_succ] at y2); (try simp only [List.getElem?_cons_zero] at y2)
  clear hr row0
  go_enter Try.func8, Try.ntmps8
  go_wp2_with fail
  go_ret
  exact ⟨rfl, kk⟩
end
end Go.Proofs.Ytpblmaklbnpbfaa
