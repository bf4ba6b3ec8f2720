/- COMPARISONS of things that are alike. Printed by gen11.py. -/
import Derived.Test.YtfogbbnfedcldaaOpens
import Derived.Test.YtfogbbnfedcldaaSameA
import Derived.Deep.RegionHeld3
namespace Go.Proofs.Ytfogbbnfedcldaa
open Go.RowKit

set_option maxRecDepth 100000 in
set_option maxHeartbeats 8000000 in
theorem cmp_sCatalog_c {p q : Nat → Prop} (w : World) (x : GCatalog) (ca cb : List Value) (ha : rGCatalog w p ca x) (hb : rGCatalog w q cb x) : Calls Try.prog 14 #[.agg ca.toArray, .agg cb.toArray] w fun e w' => e = .returned (.bool true) ∧ Keep Nix w w' := by
  obtain ⟨apTables, cpTables, apIndexes, cpIndexes, rfl, h0, h1, h2, h3, -⟩ := rGCatalog_open ha
  obtain ⟨aqTables, cqTables, aqIndexes, cqIndexes, rfl, g0, g1, g2, g3, -⟩ := rGCatalog_open hb
  have hsz : (w.alloc (.cells #[.int .i64 x.fVersion, .int .i64 x.fNext, .slice apTables x.fTables.length cpTables, .slice apIndexes x.fIndexes.length cpIndexes] 25)).heap.size = w.heap.size + 1 := by simp
  have rowA : RowIs ((w.alloc (.cells #[.int .i64 x.fVersion, .int .i64 x.fNext, .slice apTables x.fTables.length cpTables, .slice apIndexes x.fIndexes.length cpIndexes] 25)).alloc (.cells #[.int .i64 x.fVersion, .int .i64 x.fNext, .slice aqTables x.fTables.length cqTables, .slice aqIndexes x.fIndexes.length cqIndexes] 25)) w.heap.size 25 [.int .i64 x.fVersion, .int .i64 x.fNext, .slice apTables x.fTables.length cpTables, .slice apIndexes x.fIndexes.length cpIndexes] := (RowIs.alloc w _ _).keep ((Keep.refl Nix _).alloc _) id
  have rowB : RowIs ((w.alloc (.cells #[.int .i64 x.fVersion, .int .i64 x.fNext, .slice apTables x.fTables.length cpTables, .slice apIndexes x.fIndexes.length cpIndexes] 25)).alloc (.cells #[.int .i64 x.fVersion, .int .i64 x.fNext, .slice aqTables x.fTables.length cqTables, .slice aqIndexes x.fIndexes.length cqIndexes] 25)) (w.heap.size + 1) 25 [.int .i64 x.fVersion, .int .i64 x.fNext, .slice aqTables x.fTables.length cqTables, .slice aqIndexes x.fIndexes.length cqIndexes] := by
    rw [← hsz]
    exact RowIs.alloc (w.alloc (.cells #[.int .i64 x.fVersion, .int .i64 x.fNext, .slice apTables x.fTables.length cpTables, .slice apIndexes x.fIndexes.length cpIndexes] 25)) _ _
  have kk : Keep Nix w ((w.alloc (.cells #[.int .i64 x.fVersion, .int .i64 x.fNext, .slice apTables x.fTables.length cpTables, .slice apIndexes x.fIndexes.length cpIndexes] 25)).alloc (.cells #[.int .i64 x.fVersion, .int .i64 x.fNext, .slice aqTables x.fTables.length cqTables, .slice aqIndexes x.fIndexes.length cqIndexes] 25)) := ((Keep.refl Nix w).alloc _).alloc _
  clear hsz ha hb
  clear h0 g0
  clear h1 g1
  replace h2 := (rList_lawful rGTable_lawful).nix h2 kk
  replace g2 := (rList_lawful rGTable_lawful).nix g2 kk
  replace h3 := (rList_lawful rGIndex_lawful).nix h3 kk
  replace g3 := (rList_lawful rGIndex_lawful).nix g3 kk
  go_enter Try.func14, Try.ntmps14
  go_wp2_with fail
  go_fit (sm_Table _ x.fTables _ _ _ _ _ _ h2 g2)
  rintro e w1 ⟨rfl, k1⟩
  replace rowA := rowA.keep k1 id
  replace rowB := rowB.keep k1 id
  replace kk := kk.trans k1
  replace h3 := (rList_lawful rGIndex_lawful).nix h3 k1
  replace g3 := (rList_lawful rGIndex_lawful).nix g3 k1
  clear k1
  clear h2 g2
  have xa3 : w1.cell? ⟨w.heap.size, 3, none⟩ = some (.slice apIndexes x.fIndexes.length cpIndexes) := rowA.cell 3
  have xb3 : w1.cell? ⟨w.heap.size + 1, 3, none⟩ = some (.slice aqIndexes x.fIndexes.length cqIndexes) := rowB.cell 3
  go_wp2_with fail
  clear xa3 xb3
  go_fit (sm_Index _ x.fIndexes _ _ _ _ _ _ h3 g3)
  rintro e w2 ⟨rfl, k1⟩
  replace rowA := rowA.keep k1 id
  replace rowB := rowB.keep k1 id
  replace kk := kk.trans k1
  clear k1
  clear h3 g3
  go_wp2
  go_ret
  exact ⟨by first | rfl | simp, kk⟩
end Go.Proofs.Ytfogbbnfedcldaa
