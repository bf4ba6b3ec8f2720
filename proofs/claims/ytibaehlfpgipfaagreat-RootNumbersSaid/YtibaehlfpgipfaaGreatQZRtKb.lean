/- ROUTE: behind. -/
import Derived.Test.YtibaehlfpgipfaaGreatQZRtAll
namespace Go.Proofs.YtibaehlfpgipfaaGreat
open Go.RowKit
def behindF (l : List GOwner) (g : Int) (key : List UInt8) : Bool := !(ownedF l g).fTo.isEmpty && (ltB (ownedF l g).fFrom key && ltB key (ownedF l g).fTo)
section
attribute [local go_sem ↓] ldz_Routes
set_option maxRecDepth 100000 in
set_option maxHeartbeats 2000000 in
theorem behind_c {p q : Nat → Prop} (r : GRoutes) (csr : List Value) (g : Int) (a : Option Addr) (cap : Nat) (l : List UInt8) (w : World) (hr : rGRoutes w p csr r) (hl : LB w q a cap l) :
  Calls Tryz.prog 85 #[.agg csr.toArray, .int .i64 g, .slice a l.length cap] w fun e w' => e = .returned (.bool (behindF r.fSpans g l)) ∧ Keep Nix w w' := by
 have HR := Lib.hid hr
 obtain ⟨aS, cS, aC, cC, rfl, -⟩ := rGRoutes_open hr
 obtain ⟨y, HY⟩ : ∃ y, Hid (behindF r.fSpans g l = y) := ⟨_, rfl⟩
 rw [HY.out]
 have kk : Keep Nix w (w.alloc (.cells #[.int .i64 r.fEpoch, .int .i64 r.fBase, .slice aS r.fSpans.length cS, .int .i64 r.fMoving, .slice aC r.fCut.length cC] 53)) := (Keep.refl Nix w).alloc _
 have row0 : RowIs (w.alloc (.cells #[.int .i64 r.fEpoch, .int .i64 r.fBase, .slice aS r.fSpans.length cS, .int .i64 r.fMoving, .slice aC r.fCut.length cC] 53)) w.heap.size 53 [.int .i64 r.fEpoch, .int .i64 r.fBase, .slice aS r.fSpans.length cS, .int .i64 r.fMoving, .slice aC r.fCut.length cC] := RowIs.alloc w _ _
 obtain ⟨x, hx⟩ : ∃ x, ownedF r.fSpans g = x := ⟨_, rfl⟩
 replace HY : Hid ((!x.fTo.isEmpty && (ltB x.fFrom l && ltB l x.fTo)) = y) := by have := HY.out; unfold behindF at this; rw [hx] at this; exact this
 clear hr
 go_enter Tryz.func85, Tryz.ntmps85
 go_upto_region 1 with fail
 generalize (w.alloc (.cells #[.int .i64 r.fEpoch, .int .i64 r.fBase, .slice aS r.fSpans.length cS, .int .i64 r.fMoving, .slice aC r.fCut.length cC] 53)) = w1 at *
 have ldR := Whole.run (P := Tryz.prog) S_Routes rfl row0
 have hcall := Owned_c r [.int .i64 r.fEpoch, .int .i64 r.fBase, .slice aS r.fSpans.length cS, .int .i64 r.fMoving, .slice aC r.fCut.length cC] g w1 (rGRoutes_lawful.nix HR.out kk)
 rw [hx] at hcall
 clear hx
 go_wp2_with fail
 go_fit hcall
 clear hcall
 rintro e w2 ⟨csx, rfl, rx, k2⟩
 obtain ⟨a1, c1, a2, c2, rfl, L1, L2, -⟩ := rGSpan_open rx
 have k3 : Keep Nix w2 (w2.alloc (.cells #[.slice a1 x.fFrom.length c1, .slice a2 x.fTo.length c2] 32)) := (Keep.refl Nix w2).alloc _
 have rowX : RowIs (w2.alloc (.cells #[.slice a1 x.fFrom.length c1, .slice a2 x.fTo.length c2] 32)) w2.heap.size 32 [.slice a1 x.fFrom.length c1, .slice a2 x.fTo.length c2] := RowIs.alloc w2 _ _
 replace L1 := LB.keep (show LB w2 (NewIn w1 w2) a1 c1 x.fFrom from L1) k3
 replace L2 := LB.keep (show LB w2 (NewIn w1 w2) a2 c2 x.fTo from L2) k3
 have hl3 := ((hl.keep kk).keep k2).keep k3
 replace kk := (kk.trans k2).trans k3
 clear ldR row0 rx k2 k3 hl
 go_upto_region 2 with fail
 generalize w2.alloc (.cells #[.slice a1 x.fFrom.length c1, .slice a2 x.fTo.length c2] 32) = w3 at *
 generalize w2.heap.size = bx at *
 have x0 := rowX.cell 0
 (try simp only [List.getElem?_cons_zero] at x0)
 have x1 := rowX.cell 1
 (try simp only [List.getElem?_cons_succ] at x1); (try simp only [List.getElem?_cons_zero] at x1)
 clear rowX
 have hc1 := cmpB_c a a1 l.length cap x.fFrom.length c1 l x.fFrom w3 rfl rfl hl3.1 L1.1
 have hc2 := cmpB_c a a2 l.length cap x.fTo.length c2 l x.fTo w3 rfl rfl hl3.1 L2.1
 have hg1 := cmp_gt l x.fFrom
 have hl2 := cmp_lt l x.fTo
 generalize Lib.compareBytes l x.fFrom = n1 at hc1 hg1
 generalize Lib.compareBytes l x.fTo = n2 at hc2 hl2
 obtain ⟨v1, h1⟩ : ∃ v, ltB x.fFrom l = v := ⟨_, rfl⟩
 obtain ⟨v2, h2⟩ : ∃ v, ltB l x.fTo = v := ⟨_, rfl⟩
 rw [h1] at hg1
 rw [h2] at hl2
 have H1 := Lib.hid h1
 have H2 := Lib.hid h2
 clear h1 h2 L1 L2 hl3
 by_cases ht : x.fTo = []
 ·have hn := pos0 ht
  have e : Hid (y = false) := by show _ = _; rw [← HY.out, ht]; rfl
  clear ht hg1 hl2 hc1 hc2
  go_wp2_with fail
  go_ret
  exact ⟨ret_bool e.out.symm, kk⟩
 ·have hn := pos1 ht
  have ht' : x.fTo.isEmpty = false := by simpa using ht
  cases v1 with
  | false =>
   have e : Hid (y = false) := by show _ = _; rw [← HY.out, ht', H1.out]; rfl
   have hm : n1 ≤ 0 := by simpa using hg1
   clear ht ht' hg1 hl2 hc2
   go_wp2_with fail
   go_fit hc1
   clear hc1
   rintro e' w' ⟨rfl, rfl⟩
   go_wp2_with fail
   go_ret
   exact ⟨ret_bool e.out.symm, kk⟩
  | true =>
   have e : Hid (y = v2) := by show _ = _; rw [← HY.out, ht', H1.out, H2.out]; rfl
   have hm : 0 < n1 := by simpa using hg1
   clear ht ht' hg1
   go_wp2_with fail
   go_fit hc1
   clear hc1
   rintro e' w' ⟨rfl, rfl⟩
   go_wp2_with fail
   go_fit hc2
   clear hc2
   rintro e' w' ⟨rfl, rfl⟩
   go_wp2_with fail
   go_ret
   exact ⟨ret_bool (by rw [e.out, ← hl2]), kk⟩
end
end Go.Proofs.YtibaehlfpgipfaaGreat
