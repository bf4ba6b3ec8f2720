/- THE LAW WireCalls, walked. -/
import Derived.Test.YtabgbleldbapbaaOutC
import Derived.Test.YtabgbleldbapbaaOutD
import Derived.Test.YtabgbleldbapbaaAsks
import Derived.Test.YtabgbleldbapbaaWhole
import Derived.Deep.RegionHeld3
import Derived.Lib.SlBytesConst
namespace Go.Proofs.Ytabgbleldbapbaa
open Go.RowKit

def SomeBool (w : World) (e : Ending) (w' : World) : Prop := ∃ b, e = .returned (.bool b) ∧ Keep Nix w w'
set_option maxRecDepth 100000 in
set_option maxHeartbeats 4000000 in
theorem command_c (w : World) (p : Nat → Prop) (x : GCommand) (cs : List Value) (hx : rGCommand w p cs x) : Calls Try.prog 12 #[.agg cs.toArray] w (SomeBool w) := by
  obtain ⟨aKey, cKey, aSpanFrom, cSpanFrom, aSpanTo, cSpanTo, aPairs, cPairs, aSeens, cSeens, aWrites, cWrites, aTableColumns, cTableColumns, aTableKey, cTableKey, aIndexColumns, cIndexColumns, rfl, -⟩ := rGCommand_open hx
  clear hx
  go_enter Try.func12, Try.ntmps12
  go_wp2
  all_goals
    go_ret
    exact ⟨_, rfl, (Keep.refl _ _).alloc _⟩
theorem S_Call : StructT Try.prog 43 3 := ⟨⟨_, Try.underlying43⟩, by kernel_rfl⟩
theorem ld_Call (a : Act) (dst : Option Tmp) (x : Operand) (ty : TypeId) (pos : String) (after : Array Edge) (guard : Option (Nat × Bool)) : execOp a.eval { dst := dst, op := .load 43 x, type := ty, pos := pos, after := after, guard := guard } = wholeSem 43 (a.eval x) := rfl
theorem S_Command : StructT Try.prog 50 25 := ⟨⟨_, Try.underlying50⟩, by kernel_rfl⟩
theorem ld_Command (a : Act) (dst : Option Tmp) (x : Operand) (ty : TypeId) (pos : String) (after : Array Edge) (guard : Option (Nat × Bool)) : execOp a.eval { dst := dst, op := .load 50 x, type := ty, pos := pos, after := after, guard := guard } = wholeSem 50 (a.eval x) := rfl
theorem S_Reply : StructT Try.prog 57 15 := ⟨⟨_, Try.underlying57⟩, by kernel_rfl⟩
theorem ld_Reply (a : Act) (dst : Option Tmp) (x : Operand) (ty : TypeId) (pos : String) (after : Array Edge) (guard : Option (Nat × Bool)) : execOp a.eval { dst := dst, op := .load 57 x, type := ty, pos := pos, after := after, guard := guard } = wholeSem 57 (a.eval x) := rfl
attribute [local go_sem ↓] ld_Call ld_Command ld_Reply
namespace wireCalls
set_option maxRecDepth 100000 in
set_option maxHeartbeats 8000000 in
theorem walk' (W : World) (c : GCall) (csc : List Value) (hc : rGCall W (· < W.heap.size) csc c) (hbc : (encGCall c).length ≤ far) (d : GCommand) (csd : List Value) (hd : rGCommand W (· < W.heap.size) csd d) (hbd : (encGCommand d).length ≤ far) (r : GReply) (csr : List Value) (hr : rGReply W (· < W.heap.size) csr r) (hbr : (encGReply r).length ≤ far) :
    Calls Try.prog 4 #[.agg csc.toArray, .agg csd.toArray, .agg csr.toArray] W fun e w' => e = .returned (.bool true) ∧ Keep Nix W w' := by
  have hlc := Lib.hid (rGCall_lawful.len hc)
  have hld := Lib.hid (rGCommand_lawful.len hd)
  have hlr := Lib.hid (rGReply_lawful.len hr)
  obtain ⟨aPairs, cPairs, aTxns, cTxns, aCatalogTables, cCatalogTables, aCatalogIndexes, cCatalogIndexes, aRoutesSpans, cRoutesSpans, aRoutesCut, cRoutesCut, e0, z0, z1, z2, z4, z5, z6, z7, -⟩ := rGReply_open hr
  have nT : r.fCatalog.fTables.length ≤ 140737488351232 ∧ r.fCatalog.fIndexes.length ≤ 140737488351232 := by
    obtain ⟨_, _, _, _, -, -, -, y2, y3, -⟩ := rGCatalog_open z6
    have h2 := (rList_len y2).2.2
    have h3 := (rList_len y3).2.2
    have := far_len
    omega
  obtain ⟨nT1, nT2⟩ := nT
  have HR := Lib.hid e0
  clear e0 z0 z1 z2 z4 z5 z6 z7
  have row0 : RowIs (((W.alloc (.cells csc.toArray 43)).alloc (.cells csd.toArray 50)).alloc (.cells csr.toArray 57)) (W.heap.size) 43 csc := by
    exact ((RowIs.alloc W _ _).keep ((Keep.refl Nix _).alloc _) id).keep ((Keep.refl Nix _).alloc _) id
  have row1 : RowIs (((W.alloc (.cells csc.toArray 43)).alloc (.cells csd.toArray 50)).alloc (.cells csr.toArray 57)) (W.heap.size + 1) 50 csd := by
    have hsz : (W.alloc (.cells csc.toArray 43)).heap.size = W.heap.size + 1 := by simp
    rw [← hsz]
    exact (RowIs.alloc (W.alloc (.cells csc.toArray 43)) _ _).keep ((Keep.refl Nix _).alloc _) id
  have row2 : RowIs (((W.alloc (.cells csc.toArray 43)).alloc (.cells csd.toArray 50)).alloc (.cells csr.toArray 57)) (W.heap.size + 1 + 1) 57 csr := by
    have hsz : ((W.alloc (.cells csc.toArray 43)).alloc (.cells csd.toArray 50)).heap.size = W.heap.size + 1 + 1 := by simp
    rw [← hsz]
    exact RowIs.alloc ((W.alloc (.cells csc.toArray 43)).alloc (.cells csd.toArray 50)) _ _
  have kk : Keep Nix W (((W.alloc (.cells csc.toArray 43)).alloc (.cells csd.toArray 50)).alloc (.cells csr.toArray 57)) := (((Keep.refl Nix W).alloc _).alloc _).alloc _
  replace hc := rGCall_lawful.nix hc kk
  replace hd := rGCommand_lawful.nix hd kk
  replace hr := rGReply_lawful.nix hr kk
  have wd : (wholeSem 50 (.pointer (some ⟨W.heap.size + 1, 0, none⟩))).run Try.prog (((W.alloc (.cells csc.toArray 43)).alloc (.cells csd.toArray 50)).alloc (.cells csr.toArray 57)) = .ok (.value (.agg csd.toArray)) (((W.alloc (.cells csc.toArray 43)).alloc (.cells csd.toArray 50)).alloc (.cells csr.toArray 57)) := Whole.row S_Command hld.out row1
  go_enter Try.func4, Try.ntmps4
  go_wp2_with fail
  clear wd
  go_fit (command_c _ _ d _ hd)
  rintro e w1 ⟨bb, rfl, k1⟩
  replace row0 := row0.keep k1 id; replace row1 := row1.keep k1 id; replace row2 := row2.keep k1 id; replace hc := rGCall_lawful.nix hc k1; replace hd := rGCommand_lawful.nix hd k1; replace hr := rGReply_lawful.nix hr k1; replace kk := kk.trans k1
  clear k1
  have x4 : w1.cell? ⟨W.heap.size + 1 + 1, 4, none⟩ = some (.slice aPairs r.fPairs.length cPairs) := by rw [row2.cell, HR.out]; rfl
  have x5 : w1.cell? ⟨W.heap.size + 1 + 1, 5, none⟩ = some (.slice aTxns r.fTxns.length cTxns) := by rw [row2.cell, HR.out]; rfl
  have x8 : w1.cell? ⟨W.heap.size + 1 + 1, 8, none⟩ = some (.slice aCatalogTables r.fCatalog.fTables.length cCatalogTables) := by rw [row2.cell, HR.out]; rfl
  have x9 : w1.cell? ⟨W.heap.size + 1 + 1, 9, none⟩ = some (.slice aCatalogIndexes r.fCatalog.fIndexes.length cCatalogIndexes) := by rw [row2.cell, HR.out]; rfl
  have x12 : w1.cell? ⟨W.heap.size + 1 + 1, 12, none⟩ = some (.slice aRoutesSpans r.fRoutes.fSpans.length cRoutesSpans) := by rw [row2.cell, HR.out]; rfl
  have fin : ∀ (w2 : World), Keep Nix W w2 → Calls Try.prog 6 #[] w2 fun e w' => e = .returned (.bool true) ∧ Keep Nix W w' := fun w2 k2 => (wawake_c w2).mono fun e w' ⟨he, hk⟩ => ⟨he, k2.trans hk⟩
  have HF := Lib.hid fin
  clear fin
  cases bb
  case false =>
    go_wp2_with fail
    go_fit (HF.out _ kk)
    rintro e w2 ⟨rfl, k2⟩
    go_wp2
    go_ret
    exact ⟨rfl, k2⟩
  rcases Int.lt_or_le (300 : Int) (r.fPairs.length) with t1 | t1
  · go_wp2_with fail
    go_fit (HF.out _ kk)
    rintro e w2 ⟨rfl, k2⟩
    go_wp2
    go_ret
    exact ⟨rfl, k2⟩
  have d1 : decide ((300 : Int) < (r.fPairs.length : Int)) = false := decide_eq_false (by omega)
  clear t1
  rcases Int.lt_or_le (60 : Int) (r.fCatalog.fTables.length + r.fCatalog.fIndexes.length) with t2 | t2
  · go_wp2_with fail
    go_fit (HF.out _ kk)
    rintro e w2 ⟨rfl, k2⟩
    go_wp2
    go_ret
    exact ⟨rfl, k2⟩
  have d2 : decide ((60 : Int) < (r.fCatalog.fTables.length : Int) + (r.fCatalog.fIndexes.length : Int)) = false := decide_eq_false (by omega)
  clear t2
  rcases Int.lt_or_le (300 : Int) (r.fTxns.length) with t3 | t3
  · go_wp2_with fail
    go_fit (HF.out _ kk)
    rintro e w2 ⟨rfl, k2⟩
    go_wp2
    go_ret
    exact ⟨rfl, k2⟩
  have d3 : decide ((300 : Int) < (r.fTxns.length : Int)) = false := decide_eq_false (by omega)
  clear t3
  rcases Int.lt_or_le (60 : Int) (r.fRoutes.fSpans.length) with t4 | t4
  · go_wp2_with fail
    go_fit (HF.out _ kk)
    rintro e w2 ⟨rfl, k2⟩
    go_wp2
    go_ret
    exact ⟨rfl, k2⟩
  have d4 : decide ((60 : Int) < (r.fRoutes.fSpans.length : Int)) = false := decide_eq_false (by omega)
  clear t4
  go_wp2_with fail
  clear x4 x5 x8 x9 x12 d1 d2 d3 d4 nT1 nT2
  · replace kk := kk.drew
    replace row0 := row0.same (w' := w1.drew)
    replace row1 := row1.same (w' := w1.drew)
    replace row2 := row2.same (w' := w1.drew)
    replace hc := rGCall_lawful.nix hc ((Keep.refl Nix _).drew)
    replace hd := rGCommand_lawful.nix hd ((Keep.refl Nix _).drew)
    replace hr := rGReply_lawful.nix hr ((Keep.refl Nix _).drew)
    go_region_held3 (fun w' => (wholeSem 43 (.pointer (some ⟨W.heap.size, 0, none⟩))).run Try.prog w' = .ok (.value (.agg csc.toArray)) w' ∧ (wholeSem 50 (.pointer (some ⟨W.heap.size + 1, 0, none⟩))).run Try.prog w' = .ok (.value (.agg csd.toArray)) w' ∧ (wholeSem 57 (.pointer (some ⟨W.heap.size + 1 + 1, 0, none⟩))).run Try.prog w' = .ok (.value (.agg csr.toArray)) w') (first | exact ⟨Whole.row S_Call hlc.out row0, Whole.row S_Command hld.out row1, Whole.row S_Reply hlr.out row2⟩)
      (first
        | (go_at_call 6; go_fit (wawake_c _); rintro e w1 ⟨rfl, k1⟩; replace row0 := row0.keep k1 id; replace row1 := row1.keep k1 id; replace row2 := row2.keep k1 id; replace hc := rGCall_lawful.nix hc k1; replace hd := rGCommand_lawful.nix hd k1; replace hr := rGReply_lawful.nix hr k1; replace kk := kk.trans k1; clear k1)
        | (go_at_call 13; go_fit (wTCall_c _ (· < W.heap.size) (fun b hb => Nat.lt_of_lt_of_le hb kk.size) c _ hc hbc); rintro e w1 ⟨aa, ca, rfl, own, k1⟩; replace row0 := row0.keep k1 id; replace row1 := row1.keep k1 id; replace row2 := row2.keep k1 id; replace hc := rGCall_lawful.nix hc k1; replace hd := rGCommand_lawful.nix hd k1; replace hr := rGReply_lawful.nix hr k1; replace kk := kk.trans k1; have l1 := Lies.of_owned own; clear own; clear k1)
        | (go_at_call 14; go_fit (oTCall_c _ (· < W.heap.size) (fun b hb => Nat.lt_of_lt_of_le hb kk.size) c _ hc hbc); rintro e w1 ⟨ab, cb, rfl, own, k1⟩; replace row0 := row0.keep k1 id; replace row1 := row1.keep k1 id; replace row2 := row2.keep k1 id; replace hc := rGCall_lawful.nix hc k1; replace hd := rGCommand_lawful.nix hd k1; replace hr := rGReply_lawful.nix hr k1; replace kk := kk.trans k1; replace l1 := l1.keep k1 (fun _ _ h => h); have l2 := Lies.of_owned own; clear own; clear k1)
        | (go_at_call 15; go_fit (wTCommand_c _ (· < W.heap.size) (fun b hb => Nat.lt_of_lt_of_le hb kk.size) d _ hd hbd); rintro e w1 ⟨aa, ca, rfl, own, k1⟩; replace row0 := row0.keep k1 id; replace row1 := row1.keep k1 id; replace row2 := row2.keep k1 id; replace hc := rGCall_lawful.nix hc k1; replace hd := rGCommand_lawful.nix hd k1; replace hr := rGReply_lawful.nix hr k1; replace kk := kk.trans k1; have l1 := Lies.of_owned own; clear own; clear k1)
        | (go_at_call 16; go_fit (oTCommand_c _ (· < W.heap.size) (fun b hb => Nat.lt_of_lt_of_le hb kk.size) d _ hd hbd); rintro e w1 ⟨ab, cb, rfl, own, k1⟩; replace row0 := row0.keep k1 id; replace row1 := row1.keep k1 id; replace row2 := row2.keep k1 id; replace hc := rGCall_lawful.nix hc k1; replace hd := rGCommand_lawful.nix hd k1; replace hr := rGReply_lawful.nix hr k1; replace kk := kk.trans k1; replace l1 := l1.keep k1 (fun _ _ h => h); have l2 := Lies.of_owned own; clear own; clear k1)
        | (go_at_call 17; go_fit (wTReply_c _ (· < W.heap.size) (fun b hb => Nat.lt_of_lt_of_le hb kk.size) r _ hr hbr); rintro e w1 ⟨aa, ca, rfl, own, k1⟩; replace row0 := row0.keep k1 id; replace row1 := row1.keep k1 id; replace row2 := row2.keep k1 id; replace hc := rGCall_lawful.nix hc k1; replace hd := rGCommand_lawful.nix hd k1; replace hr := rGReply_lawful.nix hr k1; replace kk := kk.trans k1; have l1 := Lies.of_owned own; clear own; clear k1)
        | (go_at_call 18; go_fit (oTReply_c _ (· < W.heap.size) (fun b hb => Nat.lt_of_lt_of_le hb kk.size) r _ hr hbr); rintro e w1 ⟨ab, cb, rfl, own, k1⟩; replace row0 := row0.keep k1 id; replace row1 := row1.keep k1 id; replace row2 := row2.keep k1 id; replace hc := rGCall_lawful.nix hc k1; replace hd := rGCommand_lawful.nix hd k1; replace hr := rGReply_lawful.nix hr k1; replace kk := kk.trans k1; replace l1 := l1.keep k1 (fun _ _ h => h); have l2 := Lies.of_owned own; clear own; clear k1)
        | (go_at_call 7; go_fit (bytesT_c _ _ _ _ _ _ _ _ rfl rfl l1 l2); rintro e w1 ⟨rfl, rfl⟩; clear l1 l2))
    all_goals
      go_wp2
      go_ret
      exact ⟨rfl, by first | exact kk | exact kk.same⟩
theorem walk (W : World) (v0 v1 v2 : Value) (h0 : Arg Try.prog W 1048576 43 v0) (h1 : Arg Try.prog W 1048576 50 v1) (h2 : Arg Try.prog W 1048576 57 v2) :
    Calls Try.prog 4 #[v0, v1, v2] W fun e w' => e = .returned (.bool true) ∧ Keep Nix W w' := by
  obtain ⟨cs0, rfl, r0⟩ := h0.struct Try.underlying43
  obtain ⟨x0, g0, s0⟩ := redGCall r0
  have b0 : (encGCall x0).length ≤ far := by have := encGCall_len x0; unfold far; omega
  obtain ⟨cs1, rfl, r1⟩ := h1.struct Try.underlying50
  obtain ⟨x1, g1, s1⟩ := redGCommand r1
  have b1 : (encGCommand x1).length ≤ far := by have := encGCommand_len x1; unfold far; omega
  obtain ⟨cs2, rfl, r2⟩ := h2.struct Try.underlying57
  obtain ⟨x2, g2, s2⟩ := redGReply r2
  have b2 : (encGReply x2).length ≤ far := by have := encGReply_len x2; unfold far; omega
  exact walk' W x0 cs0 g0 b0 x1 cs1 g1 b1 x2 cs2 g2 b2
end wireCalls
end Go.Proofs.Ytabgbleldbapbaa
