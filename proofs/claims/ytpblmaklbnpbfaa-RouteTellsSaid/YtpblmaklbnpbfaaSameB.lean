/- COMPARISONS of things that are alike. Printed by gen11.py. -/
import Derived.Test.YtpblmaklbnpbfaaOpens
import Derived.Test.YtpblmaklbnpbfaaHelpI
import Derived.Test.YtpblmaklbnpbfaaSameA
import Derived.Deep.RegionHeld3
namespace Go.Proofs.Ytpblmaklbnpbfaa
open Go.RowKit

set_option maxRecDepth 100000 in
set_option maxHeartbeats 8000000 in
theorem sRoutes_c {p q : Nat → Prop} (w : World) (x : GRoutes) (ca cb : List Value) (ha : rGRoutes w p ca x) (hb : rGRoutes w q cb x) : Calls Try.prog 19 #[.agg ca.toArray, .agg cb.toArray] w fun e w' => e = .returned (.bool true) ∧ Keep Nix w w' := by
  obtain ⟨apSpans, cpSpans, apCut, cpCut, rfl, h0, h1, h2, h3, h4, -⟩ := rGRoutes_open ha
  obtain ⟨aqSpans, cqSpans, aqCut, cqCut, rfl, g0, g1, g2, g3, g4, -⟩ := rGRoutes_open hb
  have hsz : (w.alloc (.cells #[.int .i64 x.fEpoch, .int .i64 x.fBase, .slice apSpans x.fSpans.length cpSpans, .int .i64 x.fMoving, .slice apCut x.fCut.length cpCut] 25)).heap.size = w.heap.size + 1 := by simp
  have rowA : RowIs ((w.alloc (.cells #[.int .i64 x.fEpoch, .int .i64 x.fBase, .slice apSpans x.fSpans.length cpSpans, .int .i64 x.fMoving, .slice apCut x.fCut.length cpCut] 25)).alloc (.cells #[.int .i64 x.fEpoch, .int .i64 x.fBase, .slice aqSpans x.fSpans.length cqSpans, .int .i64 x.fMoving, .slice aqCut x.fCut.length cqCut] 25)) w.heap.size 25 [.int .i64 x.fEpoch, .int .i64 x.fBase, .slice apSpans x.fSpans.length cpSpans, .int .i64 x.fMoving, .slice apCut x.fCut.length cpCut] := (RowIs.alloc w _ _).keep ((Keep.refl Nix _).alloc _) id
  have rowB : RowIs ((w.alloc (.cells #[.int .i64 x.fEpoch, .int .i64 x.fBase, .slice apSpans x.fSpans.length cpSpans, .int .i64 x.fMoving, .slice apCut x.fCut.length cpCut] 25)).alloc (.cells #[.int .i64 x.fEpoch, .int .i64 x.fBase, .slice aqSpans x.fSpans.length cqSpans, .int .i64 x.fMoving, .slice aqCut x.fCut.length cqCut] 25)) (w.heap.size + 1) 25 [.int .i64 x.fEpoch, .int .i64 x.fBase, .slice aqSpans x.fSpans.length cqSpans, .int .i64 x.fMoving, .slice aqCut x.fCut.length cqCut] := by
    rw [← hsz]
    exact RowIs.alloc (w.alloc (.cells #[.int .i64 x.fEpoch, .int .i64 x.fBase, .slice apSpans x.fSpans.length cpSpans, .int .i64 x.fMoving, .slice apCut x.fCut.length cpCut] 25)) _ _
  have kk : Keep Nix w ((w.alloc (.cells #[.int .i64 x.fEpoch, .int .i64 x.fBase, .slice apSpans x.fSpans.length cpSpans, .int .i64 x.fMoving, .slice apCut x.fCut.length cpCut] 25)).alloc (.cells #[.int .i64 x.fEpoch, .int .i64 x.fBase, .slice aqSpans x.fSpans.length cqSpans, .int .i64 x.fMoving, .slice aqCut x.fCut.length cqCut] 25)) := ((Keep.refl Nix w).alloc _).alloc _
  clear hsz ha hb
  clear h0 g0
  clear h1 g1
  replace h2 := (rList_lawful rGOwner_lawful).nix h2 kk
  replace g2 := (rList_lawful rGOwner_lawful).nix g2 kk
  clear h3 g3
  replace h4 := h4.1.keep kk (fun _ _ h => h)
  replace g4 := g4.1.keep kk (fun _ _ h => h)
  go_enter Try.func19, Try.ntmps19
  go_wp2_with fail
  go_fit (sm_Owner _ x.fSpans _ _ _ _ _ _ h2 g2)
  rintro e w1 ⟨rfl, k1⟩
  replace rowA := rowA.keep k1 id
  replace rowB := rowB.keep k1 id
  replace kk := kk.trans k1
  replace h4 := h4.keep k1 (fun _ _ h => h)
  replace g4 := g4.keep k1 (fun _ _ h => h)
  clear k1
  clear h2 g2
  have xa3 : w1.cell? ⟨w.heap.size, 3, none⟩ = some (.int .i64 x.fMoving) := rowA.cell 3
  have xb3 : w1.cell? ⟨w.heap.size + 1, 3, none⟩ = some (.int .i64 x.fMoving) := rowB.cell 3
  have xa4 : w1.cell? ⟨w.heap.size, 4, none⟩ = some (.slice apCut x.fCut.length cpCut) := rowA.cell 4
  have xb4 : w1.cell? ⟨w.heap.size + 1, 4, none⟩ = some (.slice aqCut x.fCut.length cqCut) := rowB.cell 4
  go_wp2_with fail
  clear xa3 xb3 xa4 xb4
  go_fit (bytesT_c _ _ _ _ _ _ x.fCut _ rfl rfl h4 g4)
  rintro e w2' ⟨rfl, rfl⟩
  clear h4 g4
  go_wp2
  go_ret
  exact ⟨by first | rfl | simp, kk⟩
end Go.Proofs.Ytpblmaklbnpbfaa
