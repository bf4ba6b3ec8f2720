/- ROOT: Run: the kinds that hand on. Printed by mac.py. -/
import Derived.Test.YtibaehlfpgipfaaGreatQRo9
namespace Go.Proofs.YtibaehlfpgipfaaGreat
open Go.RowKit

section
attribute [local go_sem ↓] stz_Reply ldz_Command
set_option maxRecDepth 100000 in
set_option maxHeartbeats 4000000 in
theorem run_change (O : Nat → Prop) (g n : Nat) (R : RootS) (ccs : List Value) (k : Int) (Y : GReply × RootS) (w : World) (H : IsRoot w O g n R) (hk : ccs[0]? = some (.int .i64 k)) (hk4 : k = 14 ∨ k = 15 ∨ k = 16 ∨ k = 17) (hcl : ccs.length = 25)
    (hch : ∀ w', Keep Nix w w' → Calls Tryz.prog 25 #[.pointer (some ⟨g, 0, none⟩), .agg ccs.toArray] w' (RunPost w' O g n Y)) :
    Calls Tryz.prog 9 #[.pointer (some ⟨g, 0, none⟩), .agg ccs.toArray] w (RunPost w O g n Y) := by
  have hinfo : (Tryz.prog.info? 55).map (·.size) = some 15 := by kernel_rfl
  have H0 := Lib.hid H.lt
  have kB : Keep Nix w (((w.alloc (.cells ccs.toArray 43))).alloc (.cells #[.int .i64 0, .int .u64 0, .int .i64 0, .bool false, .slice none 0 0, .slice none 0 0, .int .i64 0, .int .i64 0, .slice none 0 0, .slice none 0 0, .int .i64 0, .int .i64 0, .slice none 0 0, .int .i64 0, .slice none 0 0] 55)) := ((Keep.refl Nix w).alloc _).alloc _
  have row0 : RowIs (((w.alloc (.cells ccs.toArray 43))).alloc (.cells #[.int .i64 0, .int .u64 0, .int .i64 0, .bool false, .slice none 0 0, .slice none 0 0, .int .i64 0, .int .i64 0, .slice none 0 0, .slice none 0 0, .int .i64 0, .int .i64 0, .slice none 0 0, .int .i64 0, .slice none 0 0] 55)) w.heap.size 43 ccs := by have := (RowIs.alloc w ccs.toArray 43).keep ((Keep.refl Nix _).alloc (.cells #[.int .i64 0, .int .u64 0, .int .i64 0, .bool false, .slice none 0 0, .slice none 0 0, .int .i64 0, .int .i64 0, .slice none 0 0, .slice none 0 0, .int .i64 0, .int .i64 0, .slice none 0 0, .int .i64 0, .slice none 0 0] 55)) id; simpa using this
  have rowZ : RowIs (((w.alloc (.cells ccs.toArray 43))).alloc (.cells #[.int .i64 0, .int .u64 0, .int .i64 0, .bool false, .slice none 0 0, .slice none 0 0, .int .i64 0, .int .i64 0, .slice none 0 0, .slice none 0 0, .int .i64 0, .int .i64 0, .slice none 0 0, .int .i64 0, .slice none 0 0] 55)) (w.heap.size + 1) 55 [.int .i64 0, .int .u64 0, .int .i64 0, .bool false, .slice none 0 0, .slice none 0 0, .int .i64 0, .int .i64 0, .slice none 0 0, .slice none 0 0, .int .i64 0, .int .i64 0, .slice none 0 0, .int .i64 0, .slice none 0 0] := RowIs.alloc_at (w.alloc (.cells ccs.toArray 43)) _ (by simp) _ _
  have HZ := Lib.hid rowZ
  have hlt3 : Hid (w.heap.size + 1 < ((((w.alloc (.cells ccs.toArray 43))).alloc (.cells #[.int .i64 0, .int .u64 0, .int .i64 0, .bool false, .slice none 0 0, .slice none 0 0, .int .i64 0, .int .i64 0, .slice none 0 0, .slice none 0 0, .int .i64 0, .int .i64 0, .slice none 0 0, .int .i64 0, .slice none 0 0] 55))).heap.size) := by show _ < _; simp
  have K3 := Lib.hid kB
  have HC := Lib.hid (hch (((w.alloc (.cells ccs.toArray 43))).alloc (.cells #[.int .i64 0, .int .u64 0, .int .i64 0, .bool false, .slice none 0 0, .slice none 0 0, .int .i64 0, .int .i64 0, .slice none 0 0, .slice none 0 0, .int .i64 0, .int .i64 0, .slice none 0 0, .int .i64 0, .slice none 0 0] 55)) kB)
  clear hch H
  rcases hk4 with rfl | rfl | rfl | rfl
  · have x0 := (row0.cell 0).trans hk
    have ld0 := Whole.run (P := Tryz.prog) S_Command hcl row0
    clear row0 hk rowZ kB
    go_enter Tryz.func9, Tryz.ntmps9
    go_wp2_with fail
    clear x0 ld0
    go_fit HC.out
    rintro e w4 ⟨cs, O', R', rfl, hr, hR, H4, h5, h6, k4⟩
    have rowZ4 := HZ.out.keep k4 (fun h => by have := H0.out _ h; omega)
    have hst := store_run (P := Tryz.prog) (cs := cs) S_Reply rowZ4 rfl (rGReply_lawful.len hr) (rGReply_ones hr)
    have HZR := Lib.hid (rowZ4.setRow cs)
    have HR := Lib.hid hr
    have HRR := Lib.hid hR
    have H4' := Lib.hid H4
    have H5 := Lib.hid h5
    have H6 := Lib.hid h6
    have K4 := Lib.hid k4
    clear hr hR H4 h5 h6 k4 rowZ4 HC
    go_wp2_with fail
    refine bodyPost_ret (results_cell_row (by rfl) _ _ _ _ _ _ _ (by rfl) HZR.out Tryz.underlying55 (by rfl) (hinfo.trans (by rw [List.size_toArray, rGReply_lawful.len HR.out]))) rfl ?_
    exact RunPost.stored K3.out H0.out (by omega) hlt3.out HR.out HRR.out H4'.out H5.out H6.out K4.out
  · have x0 := (row0.cell 0).trans hk
    have ld0 := Whole.run (P := Tryz.prog) S_Command hcl row0
    clear row0 hk rowZ kB
    go_enter Tryz.func9, Tryz.ntmps9
    go_wp2_with fail
    clear x0 ld0
    go_fit HC.out
    rintro e w4 ⟨cs, O', R', rfl, hr, hR, H4, h5, h6, k4⟩
    have rowZ4 := HZ.out.keep k4 (fun h => by have := H0.out _ h; omega)
    have hst := store_run (P := Tryz.prog) (cs := cs) S_Reply rowZ4 rfl (rGReply_lawful.len hr) (rGReply_ones hr)
    have HZR := Lib.hid (rowZ4.setRow cs)
    have HR := Lib.hid hr
    have HRR := Lib.hid hR
    have H4' := Lib.hid H4
    have H5 := Lib.hid h5
    have H6 := Lib.hid h6
    have K4 := Lib.hid k4
    clear hr hR H4 h5 h6 k4 rowZ4 HC
    go_wp2_with fail
    refine bodyPost_ret (results_cell_row (by rfl) _ _ _ _ _ _ _ (by rfl) HZR.out Tryz.underlying55 (by rfl) (hinfo.trans (by rw [List.size_toArray, rGReply_lawful.len HR.out]))) rfl ?_
    exact RunPost.stored K3.out H0.out (by omega) hlt3.out HR.out HRR.out H4'.out H5.out H6.out K4.out
  · have x0 := (row0.cell 0).trans hk
    have ld0 := Whole.run (P := Tryz.prog) S_Command hcl row0
    clear row0 hk rowZ kB
    go_enter Tryz.func9, Tryz.ntmps9
    go_wp2_with fail
    clear x0 ld0
    go_fit HC.out
    rintro e w4 ⟨cs, O', R', rfl, hr, hR, H4, h5, h6, k4⟩
    have rowZ4 := HZ.out.keep k4 (fun h => by have := H0.out _ h; omega)
    have hst := store_run (P := Tryz.prog) (cs := cs) S_Reply rowZ4 rfl (rGReply_lawful.len hr) (rGReply_ones hr)
    have HZR := Lib.hid (rowZ4.setRow cs)
    have HR := Lib.hid hr
    have HRR := Lib.hid hR
    have H4' := Lib.hid H4
    have H5 := Lib.hid h5
    have H6 := Lib.hid h6
    have K4 := Lib.hid k4
    clear hr hR H4 h5 h6 k4 rowZ4 HC
    go_wp2_with fail
    refine bodyPost_ret (results_cell_row (by rfl) _ _ _ _ _ _ _ (by rfl) HZR.out Tryz.underlying55 (by rfl) (hinfo.trans (by rw [List.size_toArray, rGReply_lawful.len HR.out]))) rfl ?_
    exact RunPost.stored K3.out H0.out (by omega) hlt3.out HR.out HRR.out H4'.out H5.out H6.out K4.out
  · have x0 := (row0.cell 0).trans hk
    have ld0 := Whole.run (P := Tryz.prog) S_Command hcl row0
    clear row0 hk rowZ kB
    go_enter Tryz.func9, Tryz.ntmps9
    go_wp2_with fail
    clear x0 ld0
    go_fit HC.out
    rintro e w4 ⟨cs, O', R', rfl, hr, hR, H4, h5, h6, k4⟩
    have rowZ4 := HZ.out.keep k4 (fun h => by have := H0.out _ h; omega)
    have hst := store_run (P := Tryz.prog) (cs := cs) S_Reply rowZ4 rfl (rGReply_lawful.len hr) (rGReply_ones hr)
    have HZR := Lib.hid (rowZ4.setRow cs)
    have HR := Lib.hid hr
    have HRR := Lib.hid hR
    have H4' := Lib.hid H4
    have H5 := Lib.hid h5
    have H6 := Lib.hid h6
    have K4 := Lib.hid k4
    clear hr hR H4 h5 h6 k4 rowZ4 HC
    go_wp2_with fail
    refine bodyPost_ret (results_cell_row (by rfl) _ _ _ _ _ _ _ (by rfl) HZR.out Tryz.underlying55 (by rfl) (hinfo.trans (by rw [List.size_toArray, rGReply_lawful.len HR.out]))) rfl ?_
    exact RunPost.stored K3.out H0.out (by omega) hlt3.out HR.out HRR.out H4'.out H5.out H6.out K4.out
set_option maxRecDepth 100000 in
set_option maxHeartbeats 4000000 in
theorem run_move (O : Nat → Prop) (g n : Nat) (R : RootS) (ccs : List Value) (k : Int) (Y : GReply × RootS) (w : World) (H : IsRoot w O g n R) (hk : ccs[0]? = some (.int .i64 k)) (hk4 : k = 18 ∨ k = 19) (hcl : ccs.length = 25)
    (hch : ∀ w', Keep Nix w w' → Calls Tryz.prog 26 #[.pointer (some ⟨g, 0, none⟩), .agg ccs.toArray] w' (RunPost w' O g n Y)) :
    Calls Tryz.prog 9 #[.pointer (some ⟨g, 0, none⟩), .agg ccs.toArray] w (RunPost w O g n Y) := by
  have hinfo : (Tryz.prog.info? 55).map (·.size) = some 15 := by kernel_rfl
  have H0 := Lib.hid H.lt
  have kB : Keep Nix w (((w.alloc (.cells ccs.toArray 43))).alloc (.cells #[.int .i64 0, .int .u64 0, .int .i64 0, .bool false, .slice none 0 0, .slice none 0 0, .int .i64 0, .int .i64 0, .slice none 0 0, .slice none 0 0, .int .i64 0, .int .i64 0, .slice none 0 0, .int .i64 0, .slice none 0 0] 55)) := ((Keep.refl Nix w).alloc _).alloc _
  have row0 : RowIs (((w.alloc (.cells ccs.toArray 43))).alloc (.cells #[.int .i64 0, .int .u64 0, .int .i64 0, .bool false, .slice none 0 0, .slice none 0 0, .int .i64 0, .int .i64 0, .slice none 0 0, .slice none 0 0, .int .i64 0, .int .i64 0, .slice none 0 0, .int .i64 0, .slice none 0 0] 55)) w.heap.size 43 ccs := by have := (RowIs.alloc w ccs.toArray 43).keep ((Keep.refl Nix _).alloc (.cells #[.int .i64 0, .int .u64 0, .int .i64 0, .bool false, .slice none 0 0, .slice none 0 0, .int .i64 0, .int .i64 0, .slice none 0 0, .slice none 0 0, .int .i64 0, .int .i64 0, .slice none 0 0, .int .i64 0, .slice none 0 0] 55)) id; simpa using this
  have rowZ : RowIs (((w.alloc (.cells ccs.toArray 43))).alloc (.cells #[.int .i64 0, .int .u64 0, .int .i64 0, .bool false, .slice none 0 0, .slice none 0 0, .int .i64 0, .int .i64 0, .slice none 0 0, .slice none 0 0, .int .i64 0, .int .i64 0, .slice none 0 0, .int .i64 0, .slice none 0 0] 55)) (w.heap.size + 1) 55 [.int .i64 0, .int .u64 0, .int .i64 0, .bool false, .slice none 0 0, .slice none 0 0, .int .i64 0, .int .i64 0, .slice none 0 0, .slice none 0 0, .int .i64 0, .int .i64 0, .slice none 0 0, .int .i64 0, .slice none 0 0] := RowIs.alloc_at (w.alloc (.cells ccs.toArray 43)) _ (by simp) _ _
  have HZ := Lib.hid rowZ
  have hlt3 : Hid (w.heap.size + 1 < ((((w.alloc (.cells ccs.toArray 43))).alloc (.cells #[.int .i64 0, .int .u64 0, .int .i64 0, .bool false, .slice none 0 0, .slice none 0 0, .int .i64 0, .int .i64 0, .slice none 0 0, .slice none 0 0, .int .i64 0, .int .i64 0, .slice none 0 0, .int .i64 0, .slice none 0 0] 55))).heap.size) := by show _ < _; simp
  have K3 := Lib.hid kB
  have HC := Lib.hid (hch (((w.alloc (.cells ccs.toArray 43))).alloc (.cells #[.int .i64 0, .int .u64 0, .int .i64 0, .bool false, .slice none 0 0, .slice none 0 0, .int .i64 0, .int .i64 0, .slice none 0 0, .slice none 0 0, .int .i64 0, .int .i64 0, .slice none 0 0, .int .i64 0, .slice none 0 0] 55)) kB)
  clear hch H
  rcases hk4 with rfl | rfl
  · have x0 := (row0.cell 0).trans hk
    have ld0 := Whole.run (P := Tryz.prog) S_Command hcl row0
    clear row0 hk rowZ kB
    go_enter Tryz.func9, Tryz.ntmps9
    go_wp2_with fail
    clear x0 ld0
    go_fit HC.out
    rintro e w4 ⟨cs, O', R', rfl, hr, hR, H4, h5, h6, k4⟩
    have rowZ4 := HZ.out.keep k4 (fun h => by have := H0.out _ h; omega)
    have hst := store_run (P := Tryz.prog) (cs := cs) S_Reply rowZ4 rfl (rGReply_lawful.len hr) (rGReply_ones hr)
    have HZR := Lib.hid (rowZ4.setRow cs)
    have HR := Lib.hid hr
    have HRR := Lib.hid hR
    have H4' := Lib.hid H4
    have H5 := Lib.hid h5
    have H6 := Lib.hid h6
    have K4 := Lib.hid k4
    clear hr hR H4 h5 h6 k4 rowZ4 HC
    go_wp2_with fail
    refine bodyPost_ret (results_cell_row (by rfl) _ _ _ _ _ _ _ (by rfl) HZR.out Tryz.underlying55 (by rfl) (hinfo.trans (by rw [List.size_toArray, rGReply_lawful.len HR.out]))) rfl ?_
    exact RunPost.stored K3.out H0.out (by omega) hlt3.out HR.out HRR.out H4'.out H5.out H6.out K4.out
  · have x0 := (row0.cell 0).trans hk
    have ld0 := Whole.run (P := Tryz.prog) S_Command hcl row0
    clear row0 hk rowZ kB
    go_enter Tryz.func9, Tryz.ntmps9
    go_wp2_with fail
    clear x0 ld0
    go_fit HC.out
    rintro e w4 ⟨cs, O', R', rfl, hr, hR, H4, h5, h6, k4⟩
    have rowZ4 := HZ.out.keep k4 (fun h => by have := H0.out _ h; omega)
    have hst := store_run (P := Tryz.prog) (cs := cs) S_Reply rowZ4 rfl (rGReply_lawful.len hr) (rGReply_ones hr)
    have HZR := Lib.hid (rowZ4.setRow cs)
    have HR := Lib.hid hr
    have HRR := Lib.hid hR
    have H4' := Lib.hid H4
    have H5 := Lib.hid h5
    have H6 := Lib.hid h6
    have K4 := Lib.hid k4
    clear hr hR H4 h5 h6 k4 rowZ4 HC
    go_wp2_with fail
    refine bodyPost_ret (results_cell_row (by rfl) _ _ _ _ _ _ _ (by rfl) HZR.out Tryz.underlying55 (by rfl) (hinfo.trans (by rw [List.size_toArray, rGReply_lawful.len HR.out]))) rfl ?_
    exact RunPost.stored K3.out H0.out (by omega) hlt3.out HR.out HRR.out H4'.out H5.out H6.out K4.out
set_option maxRecDepth 100000 in
set_option maxHeartbeats 4000000 in
theorem run_ask (O : Nat → Prop) (g n : Nat) (R : RootS) (ccs : List Value) (txn : Int) (w : World) (H : IsRoot w O g n R) (hk : ccs[0]? = some (.int .i64 13)) (hk2 : ccs[2]? = some (.int .u64 txn)) (hn : n < 1000000) (ht : isU64 txn) (ho : R.order.length ≤ 90000) :
    Calls Tryz.prog 9 #[.pointer (some ⟨g, 0, none⟩), .agg ccs.toArray] w (RunPost w O g n (repG (decideF R txn false).1 0 (decideF R txn false).2.1, (decideF R txn false).2.2)) := by
  have hinfo : (Tryz.prog.info? 55).map (·.size) = some 15 := by kernel_rfl
  have H0 := Lib.hid H.lt
  have kB : Keep Nix w (((w.alloc (.cells ccs.toArray 43))).alloc (.cells #[.int .i64 0, .int .u64 0, .int .i64 0, .bool false, .slice none 0 0, .slice none 0 0, .int .i64 0, .int .i64 0, .slice none 0 0, .slice none 0 0, .int .i64 0, .int .i64 0, .slice none 0 0, .int .i64 0, .slice none 0 0] 55)) := ((Keep.refl Nix w).alloc _).alloc _
  have row0 : RowIs (((w.alloc (.cells ccs.toArray 43))).alloc (.cells #[.int .i64 0, .int .u64 0, .int .i64 0, .bool false, .slice none 0 0, .slice none 0 0, .int .i64 0, .int .i64 0, .slice none 0 0, .slice none 0 0, .int .i64 0, .int .i64 0, .slice none 0 0, .int .i64 0, .slice none 0 0] 55)) w.heap.size 43 ccs := by have := (RowIs.alloc w ccs.toArray 43).keep ((Keep.refl Nix _).alloc (.cells #[.int .i64 0, .int .u64 0, .int .i64 0, .bool false, .slice none 0 0, .slice none 0 0, .int .i64 0, .int .i64 0, .slice none 0 0, .slice none 0 0, .int .i64 0, .int .i64 0, .slice none 0 0, .int .i64 0, .slice none 0 0] 55)) id; simpa using this
  have rowZ : RowIs (((w.alloc (.cells ccs.toArray 43))).alloc (.cells #[.int .i64 0, .int .u64 0, .int .i64 0, .bool false, .slice none 0 0, .slice none 0 0, .int .i64 0, .int .i64 0, .slice none 0 0, .slice none 0 0, .int .i64 0, .int .i64 0, .slice none 0 0, .int .i64 0, .slice none 0 0] 55)) (w.heap.size + 1) 55 [.int .i64 0, .int .u64 0, .int .i64 0, .bool false, .slice none 0 0, .slice none 0 0, .int .i64 0, .int .i64 0, .slice none 0 0, .slice none 0 0, .int .i64 0, .int .i64 0, .slice none 0 0, .int .i64 0, .slice none 0 0] := RowIs.alloc_at (w.alloc (.cells ccs.toArray 43)) _ (by simp) _ _
  have HZ := Lib.hid rowZ
  have hlt3 : Hid (w.heap.size + 1 < ((((w.alloc (.cells ccs.toArray 43))).alloc (.cells #[.int .i64 0, .int .u64 0, .int .i64 0, .bool false, .slice none 0 0, .slice none 0 0, .int .i64 0, .int .i64 0, .slice none 0 0, .slice none 0 0, .int .i64 0, .int .i64 0, .slice none 0 0, .int .i64 0, .slice none 0 0] 55))).heap.size) := by show _ < _; simp
  have K3 := Lib.hid kB
  have HC := Lib.hid (decide_c O g n R txn false (((w.alloc (.cells ccs.toArray 43))).alloc (.cells #[.int .i64 0, .int .u64 0, .int .i64 0, .bool false, .slice none 0 0, .slice none 0 0, .int .i64 0, .int .i64 0, .slice none 0 0, .slice none 0 0, .int .i64 0, .int .i64 0, .slice none 0 0, .int .i64 0, .slice none 0 0] 55)) (H.nix kB) hn ht ho)
  have x0 := (row0.cell 0).trans hk
  have x2 := (row0.cell 2).trans hk2
  generalize (repG (decideF R txn false).1 0 (decideF R txn false).2.1, (decideF R txn false).2.2) = Y at *
  clear row0 hk rowZ kB
  go_enter Tryz.func9, Tryz.ntmps9
  go_wp2_with fail
  clear x0 x2
  go_fit HC.out
  rintro e w4 ⟨cs, O', R', rfl, hr, hR, H4, h5, h6, k4⟩
  have rowZ4 := HZ.out.keep k4 (fun h => by have := H0.out _ h; omega)
  have hst := store_run (P := Tryz.prog) (cs := cs) S_Reply rowZ4 rfl (rGReply_lawful.len hr) (rGReply_ones hr)
  have HZR := Lib.hid (rowZ4.setRow cs)
  have HR := Lib.hid hr
  have HRR := Lib.hid hR
  have H4' := Lib.hid H4
  have H5 := Lib.hid h5
  have H6 := Lib.hid h6
  have K4 := Lib.hid k4
  clear hr hR H4 h5 h6 k4 rowZ4 HC
  go_wp2_with fail
  refine bodyPost_ret (results_cell_row (by rfl) _ _ _ _ _ _ _ (by rfl) HZR.out Tryz.underlying55 (by rfl) (hinfo.trans (by rw [List.size_toArray, rGReply_lawful.len HR.out]))) rfl ?_
  exact RunPost.stored K3.out H0.out (by omega) hlt3.out HR.out HRR.out H4'.out H5.out H6.out K4.out
def repE (e : Int) : GReply := repG e 0 0
set_option maxRecDepth 100000 in
set_option maxHeartbeats 4000000 in
theorem run_none (O : Nat → Prop) (g n : Nat) (R : RootS) (ccs : List Value) (k : Int) (w : World) (H : IsRoot w O g n R) (hk : ccs[0]? = some (.int .i64 k)) (hk4 : k < 11 ∨ 20 < k) :
    Calls Tryz.prog 9 #[.pointer (some ⟨g, 0, none⟩), .agg ccs.toArray] w (RunPost w O g n (repG 1 0 0, R)) := by
  have hinfo : (Tryz.prog.info? 55).map (·.size) = some 15 := by kernel_rfl
  have H0 := Lib.hid H.lt
  have kB : Keep Nix w (((w.alloc (.cells ccs.toArray 43))).alloc (.cells #[.int .i64 0, .int .u64 0, .int .i64 0, .bool false, .slice none 0 0, .slice none 0 0, .int .i64 0, .int .i64 0, .slice none 0 0, .slice none 0 0, .int .i64 0, .int .i64 0, .slice none 0 0, .int .i64 0, .slice none 0 0] 55)) := ((Keep.refl Nix w).alloc _).alloc _
  have row0 : RowIs (((w.alloc (.cells ccs.toArray 43))).alloc (.cells #[.int .i64 0, .int .u64 0, .int .i64 0, .bool false, .slice none 0 0, .slice none 0 0, .int .i64 0, .int .i64 0, .slice none 0 0, .slice none 0 0, .int .i64 0, .int .i64 0, .slice none 0 0, .int .i64 0, .slice none 0 0] 55)) w.heap.size 43 ccs := by have := (RowIs.alloc w ccs.toArray 43).keep ((Keep.refl Nix _).alloc (.cells #[.int .i64 0, .int .u64 0, .int .i64 0, .bool false, .slice none 0 0, .slice none 0 0, .int .i64 0, .int .i64 0, .slice none 0 0, .slice none 0 0, .int .i64 0, .int .i64 0, .slice none 0 0, .int .i64 0, .slice none 0 0] 55)) id; simpa using this
  have rowZ : RowIs (((w.alloc (.cells ccs.toArray 43))).alloc (.cells #[.int .i64 0, .int .u64 0, .int .i64 0, .bool false, .slice none 0 0, .slice none 0 0, .int .i64 0, .int .i64 0, .slice none 0 0, .slice none 0 0, .int .i64 0, .int .i64 0, .slice none 0 0, .int .i64 0, .slice none 0 0] 55)) (w.heap.size + 1) 55 [.int .i64 0, .int .u64 0, .int .i64 0, .bool false, .slice none 0 0, .slice none 0 0, .int .i64 0, .int .i64 0, .slice none 0 0, .slice none 0 0, .int .i64 0, .int .i64 0, .slice none 0 0, .int .i64 0, .slice none 0 0] := RowIs.alloc_at (w.alloc (.cells ccs.toArray 43)) _ (by simp) _ _
  have HZ := Lib.hid rowZ
  have hlt3 : Hid (w.heap.size + 1 < ((((w.alloc (.cells ccs.toArray 43))).alloc (.cells #[.int .i64 0, .int .u64 0, .int .i64 0, .bool false, .slice none 0 0, .slice none 0 0, .int .i64 0, .int .i64 0, .slice none 0 0, .slice none 0 0, .int .i64 0, .int .i64 0, .slice none 0 0, .int .i64 0, .slice none 0 0] 55))).heap.size) := by show _ < _; simp
  have K3 := Lib.hid kB
  have HX := Lib.hid (H.nix kB)
  have x0 := (row0.cell 0).trans hk
  have q1 : (k == 11) = false := by simp; omega
  have q2 : (k == 12) = false := by simp; omega
  have q3 : (k == 13) = false := by simp; omega
  have q4 : (k == 14) = false := by simp; omega
  have q5 : (k == 15) = false := by simp; omega
  have q6 : (k == 16) = false := by simp; omega
  have q7 : (k == 17) = false := by simp; omega
  have q8 : (k == 18) = false := by simp; omega
  have q9 : (k == 19) = false := by simp; omega
  have qa : (k == 20) = false := by simp; omega
  have hst := store_run (P := Tryz.prog) (cs := repV 1 0 0) S_Reply rowZ rfl rfl rfl
  unfold repV at hst
  have kS : Keep (· = w.heap.size + 1) (((w.alloc (.cells ccs.toArray 43))).alloc (.cells #[.int .i64 0, .int .u64 0, .int .i64 0, .bool false, .slice none 0 0, .slice none 0 0, .int .i64 0, .int .i64 0, .slice none 0 0, .slice none 0 0, .int .i64 0, .int .i64 0, .slice none 0 0, .int .i64 0, .slice none 0 0] 55)) (((((w.alloc (.cells ccs.toArray 43))).alloc (.cells #[.int .i64 0, .int .u64 0, .int .i64 0, .bool false, .slice none 0 0, .slice none 0 0, .int .i64 0, .int .i64 0, .slice none 0 0, .slice none 0 0, .int .i64 0, .int .i64 0, .slice none 0 0, .int .i64 0, .slice none 0 0] 55))).setRow (w.heap.size + 1) (repV 1 0 0).toArray) := (Keep.refl (· = w.heap.size + 1) _).setRow (fun _ => rfl) _
  have HZR := Lib.hid (rowZ.setRow (repV 1 0 0))
  have HKS := Lib.hid kS
  clear row0 hk rowZ kB kS hk4
  go_enter Tryz.func9, Tryz.ntmps9
  go_wp2_with fail
  refine bodyPost_ret (results_cell_row (by rfl) _ _ _ _ _ _ _ (by rfl) HZR.out Tryz.underlying55 (by rfl) hinfo) rfl ?_
  have i0 : isI64 0 := ⟨by decide, by decide⟩
  exact ⟨repV 1 0 0, O, fun _ => False, rfl, repV_R _ _ ⟨by decide, by decide⟩ ⟨by decide, by decide⟩ i0, fun b h => h.elim, (HX.out.keep HKS.out (fun b hb e => by have := H0.out b hb; omega)).more (Nat.le_succ n), fun b h => .inl h, fun b h => h, (K3.out.nix (S := O)).then HKS.out (fun i hi e => by omega)⟩
end
end Go.Proofs.YtibaehlfpgipfaaGreat
