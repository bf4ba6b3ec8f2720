/- ROOT: Run: a decision is asked for. Printed by mac.py. -/
import Derived.Test.YtibaehlfpgipfaaGreatQRo6
namespace Go.Proofs.YtibaehlfpgipfaaGreat
open Go.RowKit

theorem IsRoot.last {w : World} {O : Nat → Prop} {g n : Nat} {R : RootS} (H : IsRoot w O g n R) : (lastC R).fVersion + 1 = (R.cats.length : Int) := by
  have hpos : 0 < R.cats.length := List.length_pos_iff.2 H.ok.ex
  obtain ⟨m, hm⟩ : ∃ m, R.cats.length = m + 1 := ⟨R.cats.length - 1, by omega⟩
  have hmlt : m < R.cats.length := by omega
  have hlast : lastC R = R.cats[m] := by
    unfold lastC
    rw [List.getLast?_eq_getElem?, hm, Nat.add_sub_cancel, List.getElem?_eq_getElem hmlt]
    rfl
  have := H.ok.ver m _ (List.getElem?_eq_getElem hmlt)
  rw [hlast, this, hm]
  omega
def goodB (R : RootS) (x : Int) (f : Bool) : Bool := f && (decide (x = (lastC R).fVersion) || decide (x = (lastC R).fVersion - 1))
theorem RunPost.into {w w2 w' : World} {O : Nat → Prop} {g n : Nat} {y : GReply × RootS} {e : Ending} (h : RunPost w2 O g n y e w') (k : Keep Nix w w2) : RunPost w O g n y e w' := by
  obtain ⟨cs, O', R', h1, h2, h3, h4, h5, h6, h7⟩ := h
  have hs := k.size
  exact ⟨cs, O', R', h1, h2, fun b hb => ⟨by have := (h3 b hb).1; omega, (h3 b hb).2⟩, h4, fun b hb => (h5 b hb).imp id (fun h => by omega), h6, (k.nix (S := O)).then h7 (fun _ _ h => h)⟩
theorem RunPost.stored {w w3 w4 : World} {O O' R' : Nat → Prop} {g n b0 : Nat} {y : GReply × RootS} {cs : List Value} (k : Keep Nix w w3) (hO : ∀ b, O b → b < w.heap.size) (hb0 : w.heap.size ≤ b0) (hb1 : b0 < w3.heap.size)
    (hr : rGReply w4 R' cs y.1) (hR : ∀ b, R' b → w3.heap.size ≤ b ∧ b < w4.heap.size ∧ ¬ O' b) (H4 : IsRoot w4 O' g (n + 1) y.2) (h5 : ∀ b, O' b → O b ∨ w3.heap.size ≤ b) (h6 : ∀ b, O b → O' b) (k4 : Keep O w3 w4) :
    RunPost w O g n y (.returned (.agg cs.toArray)) (w4.setRow b0 cs.toArray) := by
  have kS : Keep (· = b0) w4 (w4.setRow b0 cs.toArray) := (Keep.refl (· = b0) w4).setRow (fun _ => rfl) _
  have h1 := k.size
  have h2 := k4.size
  have h3 := kS.size
  refine ⟨cs, O', R', rfl, rGReply_lawful.keep hr kS (fun b hb e => by have := (hR b hb).1; omega), fun b hb => ⟨by have := (hR b hb).1; omega, by have := (hR b hb).2.1; omega, (hR b hb).2.2⟩, H4.keep kS (fun b hb e => ?_), fun b hb => (h5 b hb).imp id (fun h => by omega), h6, ((k.nix (S := O)).then k4 (fun _ _ h => h)).then kS (fun i hi e => by omega)⟩
  rcases h5 b hb with h | h
  · have := hO b h; omega
  · omega
theorem cat_ver (v : Int) (a b c : Value) (w : World) : (Instr.field 50 (.agg #[.int .i64 v, a, b, c]) 0).run Tryz.prog w = .ok (.int .i64 v) w := by kernel_rfl
section
attribute [local go_sem ↓] stz_Reply
attribute [local go_sem] cat_ver
set_option maxRecDepth 100000 in
set_option maxHeartbeats 4000000 in
theorem run_decide (O : Nat → Prop) (g n : Nat) (R : RootS) (ccs : List Value) (txn x : Int) (f : Bool) (w : World) (H : IsRoot w O g n R) (hk : ccs[0]? = some (.int .i64 12)) (hk2 : ccs[2]? = some (.int .u64 txn)) (hk3 : ccs[3]? = some (.int .i64 x)) (hk6 : ccs[6]? = some (.bool f)) (hn : n < 1000000) (ht : isU64 txn) (ho : R.order.length ≤ 90000) :
    Calls Tryz.prog 9 #[.pointer (some ⟨g, 0, none⟩), .agg ccs.toArray] w (RunPost w O g n (repG (decideF R txn (goodB R x f)).1 0 (decideF R txn (goodB R x f)).2.1, (decideF R txn (goodB R x f)).2.2)) := by
  have hinfo : (Tryz.prog.info? 55).map (·.size) = some 15 := by kernel_rfl
  have H0 := Lib.hid H.lt
  have hlast := H.last
  have hlen := H.ok.len.1
  have hpos : 0 < R.cats.length := List.length_pos_iff.2 H.ok.ex
  have kB : Keep Nix w (((w.alloc (.cells ccs.toArray 43))).alloc (.cells #[.int .i64 0, .int .u64 0, .int .i64 0, .bool false, .slice none 0 0, .slice none 0 0, .int .i64 0, .int .i64 0, .slice none 0 0, .slice none 0 0, .int .i64 0, .int .i64 0, .slice none 0 0, .int .i64 0, .slice none 0 0] 55)) := ((Keep.refl Nix w).alloc _).alloc _
  have row0 : RowIs (((w.alloc (.cells ccs.toArray 43))).alloc (.cells #[.int .i64 0, .int .u64 0, .int .i64 0, .bool false, .slice none 0 0, .slice none 0 0, .int .i64 0, .int .i64 0, .slice none 0 0, .slice none 0 0, .int .i64 0, .int .i64 0, .slice none 0 0, .int .i64 0, .slice none 0 0] 55)) w.heap.size 43 ccs := by have := (RowIs.alloc w ccs.toArray 43).keep ((Keep.refl Nix _).alloc (.cells #[.int .i64 0, .int .u64 0, .int .i64 0, .bool false, .slice none 0 0, .slice none 0 0, .int .i64 0, .int .i64 0, .slice none 0 0, .slice none 0 0, .int .i64 0, .int .i64 0, .slice none 0 0, .int .i64 0, .slice none 0 0] 55)) id; simpa using this
  have rowZ : RowIs (((w.alloc (.cells ccs.toArray 43))).alloc (.cells #[.int .i64 0, .int .u64 0, .int .i64 0, .bool false, .slice none 0 0, .slice none 0 0, .int .i64 0, .int .i64 0, .slice none 0 0, .slice none 0 0, .int .i64 0, .int .i64 0, .slice none 0 0, .int .i64 0, .slice none 0 0] 55)) (w.heap.size + 1) 55 [.int .i64 0, .int .u64 0, .int .i64 0, .bool false, .slice none 0 0, .slice none 0 0, .int .i64 0, .int .i64 0, .slice none 0 0, .slice none 0 0, .int .i64 0, .int .i64 0, .slice none 0 0, .int .i64 0, .slice none 0 0] := RowIs.alloc_at (w.alloc (.cells ccs.toArray 43)) _ (by simp) _ _
  have x0 : ((((w.alloc (.cells ccs.toArray 43))).alloc (.cells #[.int .i64 0, .int .u64 0, .int .i64 0, .bool false, .slice none 0 0, .slice none 0 0, .int .i64 0, .int .i64 0, .slice none 0 0, .slice none 0 0, .int .i64 0, .int .i64 0, .slice none 0 0, .int .i64 0, .slice none 0 0] 55))).cell? ⟨w.heap.size, 0, none⟩ = some (.int .i64 12) := (row0.cell 0).trans hk
  have HZ := Lib.hid rowZ
  have HR0 := Lib.hid row0
  have HK := Lib.hid hk2
  have HK3 := Lib.hid hk3
  have HK6 := Lib.hid hk6
  have hsz : Hid (((((w.alloc (.cells ccs.toArray 43))).alloc (.cells #[.int .i64 0, .int .u64 0, .int .i64 0, .bool false, .slice none 0 0, .slice none 0 0, .int .i64 0, .int .i64 0, .slice none 0 0, .slice none 0 0, .int .i64 0, .int .i64 0, .slice none 0 0, .int .i64 0, .slice none 0 0] 55))).heap.size = w.heap.size + 1 + 1) := by show _ = _; simp
  have HC := Lib.hid (catalog_c O g n R (((w.alloc (.cells ccs.toArray 43))).alloc (.cells #[.int .i64 0, .int .u64 0, .int .i64 0, .bool false, .slice none 0 0, .slice none 0 0, .int .i64 0, .int .i64 0, .slice none 0 0, .slice none 0 0, .int .i64 0, .int .i64 0, .slice none 0 0, .int .i64 0, .slice none 0 0] 55)) (H.nix kB))
  have H2 := Lib.hid (H.nix kB)
  clear rowZ row0 hk hk2 hk3 hk6 H
  go_enter Tryz.func9, Tryz.ntmps9
  go_wp2_with fail
  go_fit HC.out
  rintro e w3 ⟨cn, rfl, rn, k3⟩
  clear HC x0
  have row0 := HR0.out.keep k3 id
  have HZ := Lib.hid (HZ.out.keep k3 id)
  have H3 := Lib.hid (H2.out.nix k3)
  have K3 := Lib.hid (kB.trans k3)
  have hlt3 : Hid (w.heap.size + 1 < w3.heap.size) := by show _ < _; have := k3.size; have := hsz.out; omega
  obtain ⟨aT, cT, aI, cI, rfl, -⟩ := rGCatalog_open rn
  have x2 : w3.cell? ⟨w.heap.size, 2, none⟩ = some (.int .u64 txn) := (row0.cell 2).trans HK.out
  have x3 : w3.cell? ⟨w.heap.size, 3, none⟩ = some (.int .i64 x) := (row0.cell 3).trans HK3.out
  have x6 : w3.cell? ⟨w.heap.size, 6, none⟩ = some (.bool f) := (row0.cell 6).trans HK6.out
  clear HR0 row0 rn k3 kB
  obtain ⟨Y, hY⟩ : ∃ Y, Hid (decideF R txn (goodB R x f) = Y) := ⟨_, rfl⟩
  have hG : Hid (goodB R x f = (f && (decide (x = (lastC R).fVersion) || decide (x = (lastC R).fVersion - 1)))) := rfl
  generalize goodB R x f = q at *
  have hw : IntKind.i64.wrap ((lastC R).fVersion - 1) = (lastC R).fVersion - 1 := by rw [IntKind.wrap_i64]; omega
  generalize (lastC R).fVersion = v at *
  clear hlast
  cases f with
  | false =>
    have e : q = false := by rw [hG.out]; rfl
    subst e
    have HC := Lib.hid (decide_c O g n R txn false w3 H3.out hn ht ho)
    rw [hY.out] at HC
    go_wp2_with fail
    go_fit HC.out
    rintro e w4 ⟨cs, O', R', rfl, hr, hR, H4, h5, h6, k4⟩
    have rowZ4 := HZ.out.keep k4 (fun h => by have := H0.out _ h; omega)
    have hst := store_run (P := Tryz.prog) (cs := cs) S_Reply rowZ4 rfl (rGReply_lawful.len hr) (rGReply_ones hr)
    have HZR := Lib.hid (rowZ4.setRow cs)
    have HR := Lib.hid hr
    have HRR := Lib.hid hR
    have H4' := Lib.hid H4
    have H5 := Lib.hid h5
    have H6 := Lib.hid h6
    have K4 := Lib.hid k4
    clear hr hR H4 h5 h6 k4 rowZ4 HC
    go_wp2_with fail
    refine bodyPost_ret (results_cell_row (by rfl) _ _ _ _ _ _ _ (by rfl) HZR.out Tryz.underlying55 (by rfl) (hinfo.trans (by rw [List.size_toArray, rGReply_lawful.len HR.out]))) rfl ?_
    rw [hY.out]
    exact RunPost.stored K3.out H0.out (by omega) hlt3.out HR.out HRR.out H4'.out H5.out H6.out K4.out
  | true =>
    by_cases hx : x = v
    · have e : q = true := by rw [hG.out]; simp [hx]
      subst e
      have q1 : (x == v) = true := by simp [hx]
      clear hx
      have HC := Lib.hid (decide_c O g n R txn true w3 H3.out hn ht ho)
      rw [hY.out] at HC
      go_wp2_with fail
      go_fit HC.out
      rintro e w4 ⟨cs, O', R', rfl, hr, hR, H4, h5, h6, k4⟩
      have rowZ4 := HZ.out.keep k4 (fun h => by have := H0.out _ h; omega)
      have hst := store_run (P := Tryz.prog) (cs := cs) S_Reply rowZ4 rfl (rGReply_lawful.len hr) (rGReply_ones hr)
      have HZR := Lib.hid (rowZ4.setRow cs)
      have HR := Lib.hid hr
      have HRR := Lib.hid hR
      have H4' := Lib.hid H4
      have H5 := Lib.hid h5
      have H6 := Lib.hid h6
      have K4 := Lib.hid k4
      clear hr hR H4 h5 h6 k4 rowZ4 HC
      go_wp2_with fail
      refine bodyPost_ret (results_cell_row (by rfl) _ _ _ _ _ _ _ (by rfl) HZR.out Tryz.underlying55 (by rfl) (hinfo.trans (by rw [List.size_toArray, rGReply_lawful.len HR.out]))) rfl ?_
      rw [hY.out]
      exact RunPost.stored K3.out H0.out (by omega) hlt3.out HR.out HRR.out H4'.out H5.out H6.out K4.out
    · have q1 : (x == v) = false := by simp [hx]
      by_cases hx2 : x = v - 1
      · have e : q = true := by rw [hG.out]; simp [hx2]
        subst e
        have q2 : (x == v - 1) = true := by simp [hx2]
        clear hx hx2
        have HC := Lib.hid (decide_c O g n R txn true w3 H3.out hn ht ho)
        rw [hY.out] at HC
        go_wp2_with fail
        go_fit HC.out
        rintro e w4 ⟨cs, O', R', rfl, hr, hR, H4, h5, h6, k4⟩
        have rowZ4 := HZ.out.keep k4 (fun h => by have := H0.out _ h; omega)
        have hst := store_run (P := Tryz.prog) (cs := cs) S_Reply rowZ4 rfl (rGReply_lawful.len hr) (rGReply_ones hr)
        have HZR := Lib.hid (rowZ4.setRow cs)
        have HR := Lib.hid hr
        have HRR := Lib.hid hR
        have H4' := Lib.hid H4
        have H5 := Lib.hid h5
        have H6 := Lib.hid h6
        have K4 := Lib.hid k4
        clear hr hR H4 h5 h6 k4 rowZ4 HC
        go_wp2_with fail
        refine bodyPost_ret (results_cell_row (by rfl) _ _ _ _ _ _ _ (by rfl) HZR.out Tryz.underlying55 (by rfl) (hinfo.trans (by rw [List.size_toArray, rGReply_lawful.len HR.out]))) rfl ?_
        rw [hY.out]
        exact RunPost.stored K3.out H0.out (by omega) hlt3.out HR.out HRR.out H4'.out H5.out H6.out K4.out
      · have e : q = false := by rw [hG.out]; simp [hx, hx2]
        subst e
        have q2 : (x == v - 1) = false := by simp [hx2]
        clear hx hx2
        have HC := Lib.hid (decide_c O g n R txn false w3 H3.out hn ht ho)
        rw [hY.out] at HC
        go_wp2_with fail
        go_fit HC.out
        rintro e w4 ⟨cs, O', R', rfl, hr, hR, H4, h5, h6, k4⟩
        have rowZ4 := HZ.out.keep k4 (fun h => by have := H0.out _ h; omega)
        have hst := store_run (P := Tryz.prog) (cs := cs) S_Reply rowZ4 rfl (rGReply_lawful.len hr) (rGReply_ones hr)
        have HZR := Lib.hid (rowZ4.setRow cs)
        have HR := Lib.hid hr
        have HRR := Lib.hid hR
        have H4' := Lib.hid H4
        have H5 := Lib.hid h5
        have H6 := Lib.hid h6
        have K4 := Lib.hid k4
        clear hr hR H4 h5 h6 k4 rowZ4 HC
        go_wp2_with fail
        refine bodyPost_ret (results_cell_row (by rfl) _ _ _ _ _ _ _ (by rfl) HZR.out Tryz.underlying55 (by rfl) (hinfo.trans (by rw [List.size_toArray, rGReply_lawful.len HR.out]))) rfl ?_
        rw [hY.out]
        exact RunPost.stored K3.out H0.out (by omega) hlt3.out HR.out HRR.out H4'.out H5.out H6.out K4.out
end
end Go.Proofs.YtibaehlfpgipfaaGreat
