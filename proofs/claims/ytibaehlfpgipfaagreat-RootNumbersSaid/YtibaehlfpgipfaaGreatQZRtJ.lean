/- ROUTE: the least group that has no entries, by both. Printed by mac.py. -/
import Derived.Test.YtibaehlfpgipfaaGreatQZRtAll
namespace Go.Proofs.YtibaehlfpgipfaaGreat
open Go.RowKit
def nextG (b : Int) (l : List GOwner) : Nat → Nat → Int
 | 0, _ => 0
 | m + 1, k => if placeI (b + 1 + (k : Int)) l < 0 then b + 1 + (k : Int) else nextG b l m (k + 1)
def rnextF (r : GRoutes) (s : Int) : Int := nextG r.fBase r.fSpans (min s 4).toNat 0
section
attribute [local go_sem ↓] ldz_Routes
set_option maxRecDepth 100000 in
set_option maxHeartbeats 2000000 in
theorem Next_c {p : Nat → Prop} (r : GRoutes) (csr : List Value) (s : Int) (w : World) (hr : rGRoutes w p csr r) (hb : 1 ≤ r.fBase ∧ r.fBase ≤ 4) :
  Calls Tryz.prog 67 #[.agg csr.toArray, .int .i64 s] w fun e w' => e = .returned (.int .i64 (rnextF r s)) ∧ Keep Nix w w' := by
 have HR := Lib.hid hr
 obtain ⟨aS, cS, aC, cC, rfl, -⟩ := rGRoutes_open hr
 obtain ⟨Y, HY⟩ : ∃ y, Hid (rnextF r s = y) := ⟨_, rfl⟩
 rw [HY.out]
 obtain ⟨n, hn⟩ : ∃ n : Nat, (min s 4).toNat = n := ⟨_, rfl⟩
 have HYN : Hid (Y = nextG r.fBase r.fSpans n 0) := by show _ = _; rw [← HY.out, rnextF, hn]
 have hn4 : n ≤ 4 := by omega
 obtain ⟨hb1, hb4⟩ := hb
 have kk : Keep Nix w (w.alloc (.cells #[.int .i64 r.fEpoch, .int .i64 r.fBase, .slice aS r.fSpans.length cS, .int .i64 r.fMoving, .slice aC r.fCut.length cC] 53)) := (Keep.refl Nix w).alloc _
 have row0 : RowIs (w.alloc (.cells #[.int .i64 r.fEpoch, .int .i64 r.fBase, .slice aS r.fSpans.length cS, .int .i64 r.fMoving, .slice aC r.fCut.length cC] 53)) w.heap.size 53 [.int .i64 r.fEpoch, .int .i64 r.fBase, .slice aS r.fSpans.length cS, .int .i64 r.fMoving, .slice aC r.fCut.length cC] := RowIs.alloc w _ _
 clear hr HY
 rcases Int.lt_or_le 4 s with h4 | h4
 ·have HM : Hid (∀ k : Nat, k < n ↔ (k : Int) + 1 ≤ 4) := fun k => by omega
  clear hn
  go_enter Tryz.func67, Tryz.ntmps67
  go_wp2_with fail
  generalize hbs : w.heap.size = bs at *
  go_loopw [5] (fun i wr => ∃ k : Nat, k ≤ n ∧ i = .int .i64 ((k : Int) + 1) ∧ Hid (Y = nextG r.fBase r.fSpans (n - k) k) ∧ RowIs wr bs 53 [.int .i64 r.fEpoch, .int .i64 r.fBase, .slice aS r.fSpans.length cS, .int .i64 r.fMoving, .slice aC r.fCut.length cC] ∧ Keep Nix w wr) (fun i _ => 10 - (intOf i).toNat)
  case atStart => exact ⟨0, by omega, rfl, HYN.out, row0, kk⟩
  case round =>
   clear row0 kk
   obtain ⟨k, hk, rfl, HG, row0, kk⟩ := hrel
   have y1 := row0.cell 1
   (try simp only [List.getElem?_cons_succ] at y1); (try simp only [List.getElem?_cons_zero] at y1)
   have ldR := Whole.run (P := Tryz.prog) S_Routes rfl row0
   by_cases hlt : k < n
   ·have hi := (HM.out k).1 hlt
    have HS : Hid (Y = if placeI (r.fBase + 1 + (k : Int)) r.fSpans < 0 then r.fBase + 1 + (k : Int) else nextG r.fBase r.fSpans (n - (k + 1)) (k + 1)) := by
     show _ = _
     rw [HG.out, show n - k = (n - (k + 1)) + 1 by omega]; rfl
    have he : r.fBase + ((k : Int) + 1) = r.fBase + 1 + (k : Int) := by omega
    have HE := Lib.hid he
    have hw : IntKind.i64.wrap (r.fBase + ((k : Int) + 1)) = r.fBase + ((k : Int) + 1) := by unfold IntKind.wrap; simp [IntKind.bits, IntKind.signed]; omega
    have hw2 : IntKind.i64.wrap ((k : Int) + 1 + 1) = (k : Int) + 1 + 1 := by unfold IntKind.wrap; simp [IntKind.bits, IntKind.signed]; omega
    clear he
    have hcall := place_c r [.int .i64 r.fEpoch, .int .i64 r.fBase, .slice aS r.fSpans.length cS, .int .i64 r.fMoving, .slice aC r.fCut.length cC] (r.fBase + ((k : Int) + 1)) wr (rGRoutes_lawful.nix HR.out kk)
    rw [HE.out] at hcall
    obtain ⟨pl, hpl⟩ : ∃ y, placeI (r.fBase + 1 + (k : Int)) r.fSpans = y := ⟨_, rfl⟩
    rw [hpl] at hcall HS
    clear hpl
    rw [← HE.out] at hcall
    go_wp2_with fail
    go_fit hcall
    rintro e w2 ⟨rfl, k2⟩
    replace row0 := row0.keep k2 id
    replace kk := kk.trans k2
    clear hcall k2 ldR y1
    have y1 := row0.cell 1
    (try simp only [List.getElem?_cons_succ] at y1); (try simp only [List.getElem?_cons_zero] at y1)
    rcases Int.lt_or_le pl 0 with hp | hp
    ·have HQ : Hid (Y = r.fBase + ((k : Int) + 1)) := by show _ = _; rw [HS.out, if_pos hp, HE.out]
     go_wp2_with fail
     go_ret
     exact ⟨ret_int HQ.out.symm, kk⟩
    ·have HQ : Hid (Y = nextG r.fBase r.fSpans (n - (k + 1)) (k + 1)) := by show _ = _; rw [HS.out, if_neg (by omega)]
     go_wp2_with fail
     go_roundw
     case rel => exact ⟨k + 1, by omega, by go_num, HQ.out, row0, kk⟩
     case measure => simp [intOf]; omega
   ·have hi : ¬ ((k : Int) + 1 ≤ 4) := fun h => hlt ((HM.out k).2 h)
    have hi2 : 4 < (k : Int) + 1 := by omega
    have HQ : Hid (Y = 0) := by show _ = _; rw [HG.out, show n - k = 0 by omega]; rfl
    clear hi
    go_wp2_with fail
    go_ret
    exact ⟨ret_int HQ.out.symm, kk⟩
 ·have HM : Hid (∀ k : Nat, k < n ↔ (k : Int) + 1 ≤ s) := fun k => by omega
  clear hn
  go_enter Tryz.func67, Tryz.ntmps67
  go_wp2_with fail
  generalize hbs : w.heap.size = bs at *
  go_loopw [5] (fun i wr => ∃ k : Nat, k ≤ n ∧ i = .int .i64 ((k : Int) + 1) ∧ Hid (Y = nextG r.fBase r.fSpans (n - k) k) ∧ RowIs wr bs 53 [.int .i64 r.fEpoch, .int .i64 r.fBase, .slice aS r.fSpans.length cS, .int .i64 r.fMoving, .slice aC r.fCut.length cC] ∧ Keep Nix w wr) (fun i _ => 10 - (intOf i).toNat)
  case atStart => exact ⟨0, by omega, rfl, HYN.out, row0, kk⟩
  case round =>
   clear row0 kk
   obtain ⟨k, hk, rfl, HG, row0, kk⟩ := hrel
   have y1 := row0.cell 1
   (try simp only [List.getElem?_cons_succ] at y1); (try simp only [List.getElem?_cons_zero] at y1)
   have ldR := Whole.run (P := Tryz.prog) S_Routes rfl row0
   by_cases hlt : k < n
   ·have hi := (HM.out k).1 hlt
    have HS : Hid (Y = if placeI (r.fBase + 1 + (k : Int)) r.fSpans < 0 then r.fBase + 1 + (k : Int) else nextG r.fBase r.fSpans (n - (k + 1)) (k + 1)) := by
     show _ = _
     rw [HG.out, show n - k = (n - (k + 1)) + 1 by omega]; rfl
    have he : r.fBase + ((k : Int) + 1) = r.fBase + 1 + (k : Int) := by omega
    have HE := Lib.hid he
    have hw : IntKind.i64.wrap (r.fBase + ((k : Int) + 1)) = r.fBase + ((k : Int) + 1) := by unfold IntKind.wrap; simp [IntKind.bits, IntKind.signed]; omega
    have hw2 : IntKind.i64.wrap ((k : Int) + 1 + 1) = (k : Int) + 1 + 1 := by unfold IntKind.wrap; simp [IntKind.bits, IntKind.signed]; omega
    clear he
    have hcall := place_c r [.int .i64 r.fEpoch, .int .i64 r.fBase, .slice aS r.fSpans.length cS, .int .i64 r.fMoving, .slice aC r.fCut.length cC] (r.fBase + ((k : Int) + 1)) wr (rGRoutes_lawful.nix HR.out kk)
    rw [HE.out] at hcall
    obtain ⟨pl, hpl⟩ : ∃ y, placeI (r.fBase + 1 + (k : Int)) r.fSpans = y := ⟨_, rfl⟩
    rw [hpl] at hcall HS
    clear hpl
    rw [← HE.out] at hcall
    go_wp2_with fail
    go_fit hcall
    rintro e w2 ⟨rfl, k2⟩
    replace row0 := row0.keep k2 id
    replace kk := kk.trans k2
    clear hcall k2 ldR y1
    have y1 := row0.cell 1
    (try simp only [List.getElem?_cons_succ] at y1); (try simp only [List.getElem?_cons_zero] at y1)
    rcases Int.lt_or_le pl 0 with hp | hp
    ·have HQ : Hid (Y = r.fBase + ((k : Int) + 1)) := by show _ = _; rw [HS.out, if_pos hp, HE.out]
     go_wp2_with fail
     go_ret
     exact ⟨ret_int HQ.out.symm, kk⟩
    ·have HQ : Hid (Y = nextG r.fBase r.fSpans (n - (k + 1)) (k + 1)) := by show _ = _; rw [HS.out, if_neg (by omega)]
     go_wp2_with fail
     go_roundw
     case rel => exact ⟨k + 1, by omega, by go_num, HQ.out, row0, kk⟩
     case measure => simp [intOf]; omega
   ·have hi : ¬ ((k : Int) + 1 ≤ s) := fun h => hlt ((HM.out k).2 h)
    have hi2 : s < (k : Int) + 1 := by omega
    have HQ : Hid (Y = 0) := by show _ = _; rw [HG.out, show n - k = 0 by omega]; rfl
    clear hi
    go_wp2_with fail
    go_ret
    exact ⟨ret_int HQ.out.symm, kk⟩
end
end Go.Proofs.YtibaehlfpgipfaaGreat
