/- THE LAW WireBack, walked. Printed by gen15.py. -/
import Derived.Test.YtabgbleldbapbaaGreatTakA
import Derived.Test.YtabgbleldbapbaaGreatTakC
import Derived.Test.YtabgbleldbapbaaGreatSameB
import Derived.Test.YtabgbleldbapbaaGreatGoods
import Derived.Test.YtabgbleldbapbaaGreatOutT
import Derived.Test.YtabgbleldbapbaaGreatMod
import Derived.Lib.SlBytesConst
namespace Go.Proofs.YtabgbleldbapbaaGreat
open Go.RowKit

theorem Lies.mark (w : World) (cs : Array Value) (t : TypeId) (m : Nat × Nat) (p : Nat → Prop) (hp : p w.heap.size) : Lies (w.alloc (.cells cs t m)) p (some ⟨w.heap.size, 0, none⟩) cs.toList :=
  fun _ => ⟨w.heap.size, 0, rfl, hp, by simp, fun j u hu => (cell_of_row _ w.heap.size _ cs t m (heap_alloc_new _ _)).trans (by rw [Nat.zero_add]; simpa using hu)⟩
set_option maxRecDepth 100000 in
theorem wawake_c (w : World) : Calls Tryz.prog 5 #[] w fun e w' => e = .returned (.bool true) ∧ Keep Nix w w' := by
  have kc := fun (w : World) (C : Array Value) (n c : Nat) => Lib.run_convert_bytes_const (P := Tryz.prog) w 22 5 C n c Tryz.underlying22 Tryz.underlying5
  go_enter Tryz.func5, Tryz.ntmps5
  go_wp2_with fail
  have hx : rGCall (w.alloc (.cells #[.int .u8 97] 5 (1, 2))) (fun b => b = w.heap.size) [.int .u64 1, .int .u64 2, .slice (some ⟨w.heap.size, 0, none⟩) 1 1] ⟨1, 2, [97]⟩ :=
    ⟨[_], [_], [_], rfl, ⟨rfl, rfl⟩, ⟨rfl, rfl⟩, some ⟨w.heap.size, 0, none⟩, 1, rfl, Lies.mark w #[.int .u8 97] _ _ _ rfl, by decide, by decide⟩
  have hlen : (encGCall ⟨1, 2, [97]⟩).length ≤ far := by decide +kernel
  go_fit (wTCall_c _ (fun b => b = w.heap.size) (fun b hb => by simp; omega) ⟨1, 2, [97]⟩ _ hx hlen)
  rintro e w1 ⟨a, cap, rfl, own, k⟩
  have ee : encGCall ⟨1, 2, [97]⟩ = [1, 2, 1, 97] := by decide +kernel
  rw [ee] at own ⊢
  obtain ⟨b, rfl, _, _, hc⟩ := cells_of_owned own (by simp)
  have c0 := hc 0 _ rfl
  have c1 := hc 1 _ rfl
  have c2 := hc 2 _ rfl
  have c3 := hc 3 _ rfl
  have kk : Keep Nix w w1 := ((Keep.refl Nix w).alloc _).trans k
  clear hc own ee hx k
  simp only [bv] at c0 c1 c2 c3
  go_wp2
  go_ret
  exact ⟨rfl, kk⟩
def SomeBool (w : World) (e : Ending) (w' : World) : Prop := ∃ b, e = .returned (.bool b) ∧ Keep Nix w w'
set_option maxRecDepth 100000 in
set_option maxHeartbeats 4000000 in
theorem command_c (w : World) (p : Nat → Prop) (x : GCommand) (cs : List Value) (hx : rGCommand w p cs x) : Calls Tryz.prog 24 #[.agg cs.toArray] w (SomeBool w) := by
  obtain ⟨aKey, cKey, aSpanFrom, cSpanFrom, aSpanTo, cSpanTo, aPairs, cPairs, aSeens, cSeens, aWrites, cWrites, aTableColumns, cTableColumns, aTableKey, cTableKey, aIndexColumns, cIndexColumns, rfl, -⟩ := rGCommand_open hx
  clear hx
  go_enter Tryz.func24, Tryz.ntmps24
  go_wp2
  all_goals
    go_ret
    exact ⟨_, rfl, (Keep.refl _ _).alloc _⟩
namespace wireBack
theorem encU_pos (v : Int) : 1 ≤ (encU v).length := (numB_len _).2
theorem encI_pos (v : Int) : 1 ≤ (encI v).length := (numB_len _).2
theorem encGCall_pos (x : GCall) : 1 ≤ (encGCall x).length := by have := encU_pos x.fClient; simp only [encGCall, List.length_append]; omega
theorem encGCommand_pos (x : GCommand) : 1 ≤ (encGCommand x).length := by have := encI_pos x.fKind; simp only [encGCommand, List.length_append]; omega
theorem encGReply_pos (x : GReply) : 1 ≤ (encGReply x).length := by have := encI_pos x.fErr; simp only [encGReply, List.length_append]; omega
theorem encGAsk_pos (x : GAsk) : 1 ≤ (encGAsk x).length := by have := encI_pos x.fKind; simp only [encGAsk, List.length_append]; omega
theorem ldz_Call (a : Act) (dst : Option Tmp) (x : Operand) (ty : TypeId) (pos : String) (after : Array Edge) (guard : Option (Nat × Bool)) : execOp a.eval { dst := dst, op := .load 27 x, type := ty, pos := pos, after := after, guard := guard } = wholeSem 27 (a.eval x) := rfl
theorem ldz_Command (a : Act) (dst : Option Tmp) (x : Operand) (ty : TypeId) (pos : String) (after : Array Edge) (guard : Option (Nat × Bool)) : execOp a.eval { dst := dst, op := .load 43 x, type := ty, pos := pos, after := after, guard := guard } = wholeSem 43 (a.eval x) := rfl
theorem ldz_Reply (a : Act) (dst : Option Tmp) (x : Operand) (ty : TypeId) (pos : String) (after : Array Edge) (guard : Option (Nat × Bool)) : execOp a.eval { dst := dst, op := .load 55 x, type := ty, pos := pos, after := after, guard := guard } = wholeSem 55 (a.eval x) := rfl
theorem ldz_Ask (a : Act) (dst : Option Tmp) (x : Operand) (ty : TypeId) (pos : String) (after : Array Edge) (guard : Option (Nat × Bool)) : execOp a.eval { dst := dst, op := .load 62 x, type := ty, pos := pos, after := after, guard := guard } = wholeSem 62 (a.eval x) := rfl
attribute [local go_sem ↓] ldz_Call st_Call ldz_Command st_Command ldz_Reply st_Reply ldz_Ask st_Ask
attribute [local go_sem ↓] cv_up cv_down rm_uint
theorem ne_len {l : List UInt8} (h : 1 ≤ l.length) : (((l.length : Int) == 0) = false) := beq_eq_false_iff_ne.2 (by omega)
def max4 (x y z u : Int) : Int := max (max (max x y) z) u
theorem run_max4 {P : Program} {w : World} (ts : Array TypeId) (t : TypeId) (x y z u : Int) : (Builtin.max_ ts t #[.int .i64 x, .int .i64 y, .int .i64 z, .int .i64 u]).run P w = .ok (.int .i64 (max4 x y z u)) w := by
  have h : ∀ a b : Int, (if b > a then b else a) = max a b := fun a b => by rw [Int.max_def]; split <;> split <;> omega
  simp [Builtin.max_, Builtin.max2, h, max4]
attribute [local go_sem] run_max4
theorem cut_mod (u n : Nat) (h : 0 < n) : u % n < n := Nat.mod_lt _ h
set_option maxRecDepth 100000 in
set_option maxHeartbeats 16000000 in
theorem walk' (W : World) (c : GCall) (csc : List Value) (hc : rGCall W (· < W.heap.size) csc c) (hbc : (encGCall c).length ≤ far) (d : GCommand) (csd : List Value) (hd : rGCommand W (· < W.heap.size) csd d) (hbd : (encGCommand d).length ≤ far) (r : GReply) (csr : List Value) (hr : rGReply W (· < W.heap.size) csr r) (hbr : (encGReply r).length ≤ far) (a : GAsk) (csa : List Value) (ha : rGAsk W (· < W.heap.size) csa a) (hba : (encGAsk a).length ≤ far) (cut : Int) :
    Calls Tryz.prog 4 #[.agg csc.toArray, .agg csd.toArray, .agg csr.toArray, .agg csa.toArray, .int .i64 cut] W fun e w' => e = .returned (.bool true) ∧ Keep Nix W w' := by
  have hlc := Lib.hid (rGCall_lawful.len hc)
  have hld := Lib.hid (rGCommand_lawful.len hd)
  have hlr := Lib.hid (rGReply_lawful.len hr)
  have hla := Lib.hid (rGAsk_lawful.len ha)
  obtain ⟨aPairs, cPairs, aTxns, cTxns, aCatalogTables, cCatalogTables, aCatalogIndexes, cCatalogIndexes, aRoutesSpans, cRoutesSpans, aRoutesCut, cRoutesCut, e0, z0, z1, z2, z4, z5, z6, z7, -⟩ := rGReply_open hr
  have nT : r.fCatalog.fTables.length ≤ 140737488351232 ∧ r.fCatalog.fIndexes.length ≤ 140737488351232 := by
    obtain ⟨_, _, _, _, -, -, -, y2, y3, -⟩ := rGCatalog_open z6
    have h2 := (rList_len y2).2.2
    have h3 := (rList_len y3).2.2
    have := far_len
    omega
  obtain ⟨nT1, nT2⟩ := nT
  have HR := Lib.hid e0
  clear e0 z0 z1 z2 z4 z5 z6 z7
  obtain ⟨aOps, cOps, aTableColumns, cTableColumns, aTableKey, cTableKey, aIndexColumns, cIndexColumns, aKey, cKey, e0, z0, z1, z2, z3, z4, z5, z6, -⟩ := rGAsk_open ha
  have HA := Lib.hid e0
  clear e0 z0 z1 z2 z3 z4 z5 z6
  have row0 : RowIs ((((W.alloc (.cells csc.toArray 27)).alloc (.cells csd.toArray 43)).alloc (.cells csr.toArray 55)).alloc (.cells csa.toArray 62)) (W.heap.size) 27 csc := by
    exact (((RowIs.alloc W _ _).keep ((Keep.refl Nix _).alloc _) id).keep ((Keep.refl Nix _).alloc _) id).keep ((Keep.refl Nix _).alloc _) id
  have row1 : RowIs ((((W.alloc (.cells csc.toArray 27)).alloc (.cells csd.toArray 43)).alloc (.cells csr.toArray 55)).alloc (.cells csa.toArray 62)) (W.heap.size + 1) 43 csd := by
    have hsz : (W.alloc (.cells csc.toArray 27)).heap.size = W.heap.size + 1 := by simp
    rw [← hsz]
    exact ((RowIs.alloc (W.alloc (.cells csc.toArray 27)) _ _).keep ((Keep.refl Nix _).alloc _) id).keep ((Keep.refl Nix _).alloc _) id
  have row2 : RowIs ((((W.alloc (.cells csc.toArray 27)).alloc (.cells csd.toArray 43)).alloc (.cells csr.toArray 55)).alloc (.cells csa.toArray 62)) (W.heap.size + 1 + 1) 55 csr := by
    have hsz : ((W.alloc (.cells csc.toArray 27)).alloc (.cells csd.toArray 43)).heap.size = W.heap.size + 1 + 1 := by simp
    rw [← hsz]
    exact (RowIs.alloc ((W.alloc (.cells csc.toArray 27)).alloc (.cells csd.toArray 43)) _ _).keep ((Keep.refl Nix _).alloc _) id
  have row3 : RowIs ((((W.alloc (.cells csc.toArray 27)).alloc (.cells csd.toArray 43)).alloc (.cells csr.toArray 55)).alloc (.cells csa.toArray 62)) (W.heap.size + 1 + 1 + 1) 62 csa := by
    have hsz : (((W.alloc (.cells csc.toArray 27)).alloc (.cells csd.toArray 43)).alloc (.cells csr.toArray 55)).heap.size = W.heap.size + 1 + 1 + 1 := by simp
    rw [← hsz]
    exact RowIs.alloc (((W.alloc (.cells csc.toArray 27)).alloc (.cells csd.toArray 43)).alloc (.cells csr.toArray 55)) _ _
  have kk : Keep Nix W ((((W.alloc (.cells csc.toArray 27)).alloc (.cells csd.toArray 43)).alloc (.cells csr.toArray 55)).alloc (.cells csa.toArray 62)) := ((((Keep.refl Nix W).alloc _).alloc _).alloc _).alloc _
  replace hc := rGCall_lawful.nix hc kk
  replace hd := rGCommand_lawful.nix hd kk
  replace hr := rGReply_lawful.nix hr kk
  replace ha := rGAsk_lawful.nix ha kk
  have wd : (wholeSem 43 (.pointer (some ⟨W.heap.size + 1, 0, none⟩))).run Tryz.prog ((((W.alloc (.cells csc.toArray 27)).alloc (.cells csd.toArray 43)).alloc (.cells csr.toArray 55)).alloc (.cells csa.toArray 62)) = .ok (.value (.agg csd.toArray)) ((((W.alloc (.cells csc.toArray 27)).alloc (.cells csd.toArray 43)).alloc (.cells csr.toArray 55)).alloc (.cells csa.toArray 62)) := Whole.row S_Command hld.out row1
  go_enter Tryz.func4, Tryz.ntmps4
  go_wp2_with fail
  clear wd
  go_fit (command_c _ _ d _ hd)
  rintro e w1 ⟨bb, rfl, k1⟩
  replace row0 := row0.keep k1 id
  replace row1 := row1.keep k1 id
  replace row2 := row2.keep k1 id
  replace row3 := row3.keep k1 id
  replace hc := rGCall_lawful.nix hc k1
  replace hd := rGCommand_lawful.nix hd k1
  replace hr := rGReply_lawful.nix hr k1
  replace ha := rGAsk_lawful.nix ha k1
  replace kk := kk.trans k1
  clear k1
  have x4 : w1.cell? ⟨W.heap.size + 1 + 1, 4, none⟩ = some (.slice aPairs r.fPairs.length cPairs) := by rw [row2.cell, HR.out]; rfl
  have x5 : w1.cell? ⟨W.heap.size + 1 + 1, 5, none⟩ = some (.slice aTxns r.fTxns.length cTxns) := by rw [row2.cell, HR.out]; rfl
  have x8 : w1.cell? ⟨W.heap.size + 1 + 1, 8, none⟩ = some (.slice aCatalogTables r.fCatalog.fTables.length cCatalogTables) := by rw [row2.cell, HR.out]; rfl
  have x9 : w1.cell? ⟨W.heap.size + 1 + 1, 9, none⟩ = some (.slice aCatalogIndexes r.fCatalog.fIndexes.length cCatalogIndexes) := by rw [row2.cell, HR.out]; rfl
  have x12 : w1.cell? ⟨W.heap.size + 1 + 1, 12, none⟩ = some (.slice aRoutesSpans r.fRoutes.fSpans.length cRoutesSpans) := by rw [row2.cell, HR.out]; rfl
  have y1 : w1.cell? ⟨W.heap.size + 1 + 1 + 1, 1, none⟩ = some (.slice aOps a.fOps.length cOps) := by rw [row3.cell, HA.out]; rfl
  have fin : ∀ (w2 : World), Keep Nix W w2 → Calls Tryz.prog 5 #[] w2 fun e w' => e = .returned (.bool true) ∧ Keep Nix W w' := fun w2 k2 => (wawake_c w2).mono fun e w' ⟨he, hk⟩ => ⟨he, k2.trans hk⟩
  have HF := Lib.hid fin
  clear fin
  cases bb
  case false =>
    go_wp2_with fail
    go_fit (HF.out _ kk)
    rintro e w2 ⟨rfl, k2⟩
    go_wp2
    go_ret
    exact ⟨rfl, k2⟩
  rcases Int.lt_or_le (300 : Int) ((r.fPairs.length : Int)) with t0 | t0
  · go_wp2_with fail
    go_fit (HF.out _ kk)
    rintro e w2 ⟨rfl, k2⟩
    go_wp2
    go_ret
    exact ⟨rfl, k2⟩
  have d0 : decide ((300 : Int) < (r.fPairs.length : Int)) = false := decide_eq_false (by omega)
  clear t0
  rcases Int.lt_or_le (60 : Int) ((r.fCatalog.fTables.length : Int) + (r.fCatalog.fIndexes.length : Int)) with t1 | t1
  · go_wp2_with fail
    go_fit (HF.out _ kk)
    rintro e w2 ⟨rfl, k2⟩
    go_wp2
    go_ret
    exact ⟨rfl, k2⟩
  have d1 : decide ((60 : Int) < (r.fCatalog.fTables.length : Int) + (r.fCatalog.fIndexes.length : Int)) = false := decide_eq_false (by omega)
  clear t1
  rcases Int.lt_or_le (300 : Int) ((r.fTxns.length : Int)) with t2 | t2
  · go_wp2_with fail
    go_fit (HF.out _ kk)
    rintro e w2 ⟨rfl, k2⟩
    go_wp2
    go_ret
    exact ⟨rfl, k2⟩
  have d2 : decide ((300 : Int) < (r.fTxns.length : Int)) = false := decide_eq_false (by omega)
  clear t2
  rcases Int.lt_or_le (60 : Int) ((a.fOps.length : Int)) with t3 | t3
  · go_wp2_with fail
    go_fit (HF.out _ kk)
    rintro e w2 ⟨rfl, k2⟩
    go_wp2
    go_ret
    exact ⟨rfl, k2⟩
  have d3 : decide ((60 : Int) < (a.fOps.length : Int)) = false := decide_eq_false (by omega)
  clear t3
  rcases Int.lt_or_le (60 : Int) ((r.fRoutes.fSpans.length : Int)) with t4 | t4
  · go_wp2_with fail
    go_fit (HF.out _ kk)
    rintro e w2 ⟨rfl, k2⟩
    go_wp2
    go_ret
    exact ⟨rfl, k2⟩
  have d4 : decide ((60 : Int) < (r.fRoutes.fSpans.length : Int)) = false := decide_eq_false (by omega)
  clear t4
  go_wp2_with fail
  clear x4 x5 x8 x9 x12 y1 d0 d1 d2 d3 d4 nT1 nT2 HR HA
  refine wp_region_held_drew (S := (fun w' => (wholeSem 27 (.pointer (some ⟨W.heap.size, 0, none⟩))).run Tryz.prog w' = .ok (.value (.agg csc.toArray)) w' ∧ (wholeSem 43 (.pointer (some ⟨W.heap.size + 1, 0, none⟩))).run Tryz.prog w' = .ok (.value (.agg csd.toArray)) w' ∧ (wholeSem 55 (.pointer (some ⟨W.heap.size + 1 + 1, 0, none⟩))).run Tryz.prog w' = .ok (.value (.agg csr.toArray)) w' ∧ (wholeSem 62 (.pointer (some ⟨W.heap.size + 1 + 1 + 1, 0, none⟩))).run Tryz.prog w' = .ok (.value (.agg csa.toArray)) w')) (by kernel_rfl) ⟨Whole.row S_Call hlc.out row0.same, Whole.row S_Command hld.out row1.same, Whole.row S_Reply hlr.out row2.same, Whole.row S_Ask hla.out row3.same⟩ (fun hHeld => ?_)
  refine wpAnyH_take (i := 0) (v := ?_) rfl (by kernel_rfl) (by kernel_rfl) (by kernel_rfl) (fun _ _ _ h => h) (Or.inl ⟨by rfl, ?_⟩) hHeld ?_
  rotate_left
  · intro w' hSw
    (try dsimp only at hSw)
    (try simp only [List.getElem_toArray]); (try simp only [List.getElem_cons_succ]); (try simp only [List.getElem_cons_zero])
    go_simp
    try with_reducible rfl
  (try simp only [Act.put]); (try simp only [List.setIfInBounds_toArray]); (try simp only [List.set_cons_succ]); (try simp only [List.set_cons_zero])
  refine wpAnyH_take (i := 2) (v := ?_) rfl (by kernel_rfl) (by kernel_rfl) (by kernel_rfl) (fun _ _ _ h => h) (Or.inl ⟨by rfl, ?_⟩) hHeld ?_
  rotate_left
  · intro w' hSw
    (try dsimp only at hSw)
    (try simp only [List.getElem_toArray]); (try simp only [List.getElem_cons_succ]); (try simp only [List.getElem_cons_zero])
    go_simp
    try with_reducible rfl
  (try simp only [Act.put]); (try simp only [List.setIfInBounds_toArray]); (try simp only [List.set_cons_succ]); (try simp only [List.set_cons_zero])
  refine wpAnyH_take (i := 4) (v := ?_) rfl (by kernel_rfl) (by kernel_rfl) (by kernel_rfl) (fun _ _ _ h => h) (Or.inl ⟨by rfl, ?_⟩) hHeld ?_
  rotate_left
  · intro w' hSw
    (try dsimp only at hSw)
    (try simp only [List.getElem_toArray]); (try simp only [List.getElem_cons_succ]); (try simp only [List.getElem_cons_zero])
    go_simp
    try with_reducible rfl
  (try simp only [Act.put]); (try simp only [List.setIfInBounds_toArray]); (try simp only [List.set_cons_succ]); (try simp only [List.set_cons_zero])
  refine wpAnyH_take (i := 6) (v := ?_) rfl (by kernel_rfl) (by kernel_rfl) (by kernel_rfl) (fun _ _ _ h => h) (Or.inl ⟨by rfl, ?_⟩) hHeld ?_
  rotate_left
  · intro w' hSw
    (try dsimp only at hSw)
    (try simp only [List.getElem_toArray]); (try simp only [List.getElem_cons_succ]); (try simp only [List.getElem_cons_zero])
    go_simp
    try with_reducible rfl
  (try simp only [Act.put]); (try simp only [List.setIfInBounds_toArray]); (try simp only [List.set_cons_succ]); (try simp only [List.set_cons_zero])
  refine wpAnyH_ready (rs := [1]) (by kernel_rfl) (by simp) ?_
  refine AllReadyH.cons rfl (fun K hK => ?_) AllReadyH.nil
  go_simp
  replace row0 := row0.same (w' := w1.drew)
  replace row1 := row1.same (w' := w1.drew)
  replace row2 := row2.same (w' := w1.drew)
  replace row3 := row3.same (w' := w1.drew)
  replace hc := rGCall_lawful.nix hc ((Keep.refl Nix _).drew)
  replace hd := rGCommand_lawful.nix hd ((Keep.refl Nix _).drew)
  replace hr := rGReply_lawful.nix hr ((Keep.refl Nix _).drew)
  replace ha := rGAsk_lawful.nix ha ((Keep.refl Nix _).drew)
  replace kk := kk.drew
  go_fit (wTCall_c _ (· < W.heap.size) (fun b hb => Nat.lt_of_lt_of_le hb kk.size) c _ hc hbc)
  rintro e v0 ⟨ac, kc, rfl, own, k1⟩
  replace row0 := row0.keep k1 id
  replace row1 := row1.keep k1 id
  replace row2 := row2.keep k1 id
  replace row3 := row3.keep k1 id
  replace hc := rGCall_lawful.nix hc k1
  replace hd := rGCommand_lawful.nix hd k1
  replace hr := rGReply_lawful.nix hr k1
  replace ha := rGAsk_lawful.nix ha k1
  replace kk := kk.trans k1
  have lc := Lies.of_owned own
  have hpc := (owned_bounds own).2.1
  clear own k1
  go_wp2_with fail
  refine hK.out _ _ ⟨Whole.row S_Call hlc.out row0, Whole.row S_Command hld.out row1, Whole.row S_Reply hlr.out row2, Whole.row S_Ask hla.out row3⟩ (fun hHeld => ?_)
  clear hK K
  (try simp only [Act.put]); (try simp only [List.setIfInBounds_toArray]); (try simp only [List.set_cons_succ]); (try simp only [List.set_cons_zero])
  refine wpAnyH_ready (rs := [3]) (by kernel_rfl) (by simp) ?_
  refine AllReadyH.cons rfl (fun K hK => ?_) AllReadyH.nil
  go_simp
  go_fit (wTCommand_c _ (· < W.heap.size) (fun b hb => Nat.lt_of_lt_of_le hb kk.size) d _ hd hbd)
  rintro e v1 ⟨ad, kd, rfl, own, k1⟩
  replace row0 := row0.keep k1 id
  replace row1 := row1.keep k1 id
  replace row2 := row2.keep k1 id
  replace row3 := row3.keep k1 id
  replace hc := rGCall_lawful.nix hc k1
  replace hd := rGCommand_lawful.nix hd k1
  replace hr := rGReply_lawful.nix hr k1
  replace ha := rGAsk_lawful.nix ha k1
  replace kk := kk.trans k1
  replace lc := lc.keep k1 (fun _ _ h => h)
  have ld := Lies.of_owned own
  have hpd := (owned_bounds own).2.1
  clear own k1
  go_wp2_with fail
  refine hK.out _ _ ⟨Whole.row S_Call hlc.out row0, Whole.row S_Command hld.out row1, Whole.row S_Reply hlr.out row2, Whole.row S_Ask hla.out row3⟩ (fun hHeld => ?_)
  clear hK K
  (try simp only [Act.put]); (try simp only [List.setIfInBounds_toArray]); (try simp only [List.set_cons_succ]); (try simp only [List.set_cons_zero])
  refine wpAnyH_ready (rs := [5]) (by kernel_rfl) (by simp) ?_
  refine AllReadyH.cons rfl (fun K hK => ?_) AllReadyH.nil
  go_simp
  go_fit (wTReply_c _ (· < W.heap.size) (fun b hb => Nat.lt_of_lt_of_le hb kk.size) r _ hr hbr)
  rintro e v2 ⟨ar, kr, rfl, own, k1⟩
  replace row0 := row0.keep k1 id
  replace row1 := row1.keep k1 id
  replace row2 := row2.keep k1 id
  replace row3 := row3.keep k1 id
  replace hc := rGCall_lawful.nix hc k1
  replace hd := rGCommand_lawful.nix hd k1
  replace hr := rGReply_lawful.nix hr k1
  replace ha := rGAsk_lawful.nix ha k1
  replace kk := kk.trans k1
  replace lc := lc.keep k1 (fun _ _ h => h)
  replace ld := ld.keep k1 (fun _ _ h => h)
  have lr := Lies.of_owned own
  have hpr := (owned_bounds own).2.1
  clear own k1
  go_wp2_with fail
  refine hK.out _ _ ⟨Whole.row S_Call hlc.out row0, Whole.row S_Command hld.out row1, Whole.row S_Reply hlr.out row2, Whole.row S_Ask hla.out row3⟩ (fun hHeld => ?_)
  clear hK K
  (try simp only [Act.put]); (try simp only [List.setIfInBounds_toArray]); (try simp only [List.set_cons_succ]); (try simp only [List.set_cons_zero])
  refine wpAnyH_ready (rs := [7]) (by kernel_rfl) (by simp) ?_
  refine AllReadyH.cons rfl (fun K hK => ?_) AllReadyH.nil
  go_simp
  go_fit (wTAsk_c _ (· < W.heap.size) (fun b hb => Nat.lt_of_lt_of_le hb kk.size) a _ ha hba)
  rintro e v3 ⟨aa, ka, rfl, own, k1⟩
  replace row0 := row0.keep k1 id
  replace row1 := row1.keep k1 id
  replace row2 := row2.keep k1 id
  replace row3 := row3.keep k1 id
  replace hc := rGCall_lawful.nix hc k1
  replace hd := rGCommand_lawful.nix hd k1
  replace hr := rGReply_lawful.nix hr k1
  replace ha := rGAsk_lawful.nix ha k1
  replace kk := kk.trans k1
  replace lc := lc.keep k1 (fun _ _ h => h)
  replace ld := ld.keep k1 (fun _ _ h => h)
  replace lr := lr.keep k1 (fun _ _ h => h)
  have la := Lies.of_owned own
  have hpa := (owned_bounds own).2.1
  clear own k1
  go_wp2_with fail
  refine hK.out _ _ ⟨Whole.row S_Call hlc.out row0, Whole.row S_Command hld.out row1, Whole.row S_Reply hlr.out row2, Whole.row S_Ask hla.out row3⟩ (fun hHeld => ?_)
  clear hK K
  (try simp only [Act.put]); (try simp only [List.setIfInBounds_toArray]); (try simp only [List.set_cons_succ]); (try simp only [List.set_cons_zero])
  refine wpAnyH_take (i := 8) (v := ?_) rfl (by kernel_rfl) (by kernel_rfl) (by kernel_rfl) (fun _ _ _ h => h) (Or.inl ⟨by rfl, ?_⟩) hHeld ?_
  rotate_left
  · intro w' hSw
    (try dsimp only at hSw)
    go_simp
    try with_reducible rfl
  (try simp only [Act.put]); (try simp only [List.setIfInBounds_toArray]); (try simp only [List.set_cons_succ]); (try simp only [List.set_cons_zero])
  refine wpAnyH_take (i := 9) (v := ?_) rfl (by kernel_rfl) (by kernel_rfl) (by kernel_rfl) (fun _ _ _ h => h) (Or.inl ⟨by rfl, ?_⟩) hHeld ?_
  rotate_left
  · intro w' hSw
    (try dsimp only at hSw)
    go_simp
    try with_reducible rfl
  (try simp only [Act.put]); (try simp only [List.setIfInBounds_toArray]); (try simp only [List.set_cons_succ]); (try simp only [List.set_cons_zero])
  refine wpAnyH_take (i := 10) (v := ?_) rfl (by kernel_rfl) (by kernel_rfl) (by kernel_rfl) (fun _ _ _ h => h) (Or.inl ⟨by rfl, ?_⟩) hHeld ?_
  rotate_left
  · intro w' hSw
    (try dsimp only at hSw)
    go_simp
    try with_reducible rfl
  (try simp only [Act.put]); (try simp only [List.setIfInBounds_toArray]); (try simp only [List.set_cons_succ]); (try simp only [List.set_cons_zero])
  refine wpAnyH_take (i := 11) (v := ?_) rfl (by kernel_rfl) (by kernel_rfl) (by kernel_rfl) (fun _ _ _ h => h) (Or.inl ⟨by rfl, ?_⟩) hHeld ?_
  rotate_left
  · intro w' hSw
    (try dsimp only at hSw)
    go_simp
    try with_reducible rfl
  (try simp only [Act.put]); (try simp only [List.setIfInBounds_toArray]); (try simp only [List.set_cons_succ]); (try simp only [List.set_cons_zero])
  refine wpAnyH_done (by kernel_rfl) ?_ _
  clear hHeld
  obtain ⟨xc, HXc⟩ : ∃ x : List UInt8, Hid (encGCall c = x) := ⟨_, rfl⟩
  rw [HXc.out] at lc hbc hpc ⊢
  obtain ⟨xd, HXd⟩ : ∃ x : List UInt8, Hid (encGCommand d = x) := ⟨_, rfl⟩
  rw [HXd.out] at ld hbd hpd ⊢
  obtain ⟨xr, HXr⟩ : ∃ x : List UInt8, Hid (encGReply r = x) := ⟨_, rfl⟩
  rw [HXr.out] at lr hbr hpr ⊢
  obtain ⟨xa, HXa⟩ : ∃ x : List UInt8, Hid (encGAsk a = x) := ⟨_, rfl⟩
  rw [HXa.out] at la hba hpa ⊢
  have h1c : 1 ≤ xc.length := by rw [← HXc.out]; exact encGCall_pos c
  have e1c := ne_len h1c
  have h1d : 1 ≤ xd.length := by rw [← HXd.out]; exact encGCommand_pos d
  have e1d := ne_len h1d
  have h1r : 1 ≤ xr.length := by rw [← HXr.out]; exact encGReply_pos r
  have e1r := ne_len h1r
  have h1a : 1 ≤ xa.length := by rw [← HXa.out]; exact encGAsk_pos a
  have e1a := ne_len h1a
  have ttc := wTakeCall_c ac xc.length kc xc _ rfl lc (by unfold far at hbc; omega)
  have HTc : Hid (∀ hk : okGCall c, takeP pGCall zGCall xc = (c, 0)) := by
    show ∀ hk : okGCall c, _
    intro hk
    rw [← HXc.out]; exact good_GCall.take_back _ c hk
  go_wp2_with fail
  skip
  go_fit ttc
  clear ttc
  generalize takeP pGCall zGCall xc = yc at HTc ⊢
  rintro e u0 ⟨ctc, rfl, htc, ho, k1⟩
  replace row0 := row0.keep k1 id
  replace row1 := row1.keep k1 id
  replace row2 := row2.keep k1 id
  replace row3 := row3.keep k1 id
  replace hc := rGCall_lawful.nix hc k1
  replace hd := rGCommand_lawful.nix hd k1
  replace hr := rGReply_lawful.nix hr k1
  replace ha := rGAsk_lawful.nix ha k1
  replace kk := kk.trans k1
  replace lc := lc.keep k1 (fun _ _ h => h)
  replace ld := ld.keep k1 (fun _ _ h => h)
  replace lr := lr.keep k1 (fun _ _ h => h)
  replace la := la.keep k1 (fun _ _ h => h)
  have hltc := Lib.hid (wGCall_lawful.len htc)
  have hst := store_run (P := Tryz.prog) (cs := ctc) S_Call (RowIs.alloc u0 #[.int .u64 0, .int .u64 0, .slice none 0 0] 27) rfl hltc.out ho
  have rtc := (RowIs.alloc u0 #[.int .u64 0, .int .u64 0, .slice none 0 0] 27).setRow ctc
  have kV : Keep Nix u0 ((u0.alloc (.cells #[.int .u64 0, .int .u64 0, .slice none 0 0] 27)).setRow u0.heap.size ctc.toArray) := ((Keep.refl Nix u0).alloc (.cells #[.int .u64 0, .int .u64 0, .slice none 0 0] 27)).setRow (fun h => absurd h (Nat.lt_irrefl _)) ctc.toArray
  clear k1 ho
  replace row0 := row0.keep kV id
  replace row1 := row1.keep kV id
  replace row2 := row2.keep kV id
  replace row3 := row3.keep kV id
  replace hc := rGCall_lawful.nix hc kV
  replace hd := rGCommand_lawful.nix hd kV
  replace hr := rGReply_lawful.nix hr kV
  replace ha := rGAsk_lawful.nix ha kV
  replace kk := kk.trans kV
  replace lc := lc.keep kV (fun _ _ h => h)
  replace ld := ld.keep kV (fun _ _ h => h)
  replace lr := lr.keep kV (fun _ _ h => h)
  replace la := la.keep kV (fun _ _ h => h)
  replace htc := wGCall_lawful.nix htc kV
  clear kV
  have ttd := wTakeCommand_c ad xd.length kd xd _ rfl ld (by unfold far at hbd; omega)
  have HTd : Hid (∀ hk : okGCommand d, takeP pGCommand zGCommand xd = (d, 0)) := by
    show ∀ hk : okGCommand d, _
    intro hk
    rw [← HXd.out]; exact good_GCommand.take_back _ d hk
  go_wp2_with fail
  clear hst
  go_fit ttd
  clear ttd
  generalize takeP pGCommand zGCommand xd = yd at HTd ⊢
  rintro e u1 ⟨ctd, rfl, htd, ho, k1⟩
  replace row0 := row0.keep k1 id
  replace row1 := row1.keep k1 id
  replace row2 := row2.keep k1 id
  replace row3 := row3.keep k1 id
  replace hc := rGCall_lawful.nix hc k1
  replace hd := rGCommand_lawful.nix hd k1
  replace hr := rGReply_lawful.nix hr k1
  replace ha := rGAsk_lawful.nix ha k1
  replace kk := kk.trans k1
  replace lc := lc.keep k1 (fun _ _ h => h)
  replace ld := ld.keep k1 (fun _ _ h => h)
  replace lr := lr.keep k1 (fun _ _ h => h)
  replace la := la.keep k1 (fun _ _ h => h)
  replace rtc := rtc.keep k1 id
  replace htc := wGCall_lawful.nix htc k1
  have hltd := Lib.hid (wGCommand_lawful.len htd)
  have hst := store_run (P := Tryz.prog) (cs := ctd) S_Command (RowIs.alloc u1 #[.int .i64 0, .int .i64 0, .int .u64 0, .int .i64 0, .int .i64 0, .int .i64 0, .bool false, .slice none 0 0, .slice none 0 0, .slice none 0 0, .slice none 0 0, .slice none 0 0, .slice none 0 0, .int .i64 0, .string { data := #[] }, .slice none 0 0, .slice none 0 0, .int .i64 0, .int .i64 0, .string { data := #[] }, .slice none 0 0, .bool false, .int .i64 0, .bool false, .string { data := #[] }] 43) rfl hltd.out ho
  have rtd := (RowIs.alloc u1 #[.int .i64 0, .int .i64 0, .int .u64 0, .int .i64 0, .int .i64 0, .int .i64 0, .bool false, .slice none 0 0, .slice none 0 0, .slice none 0 0, .slice none 0 0, .slice none 0 0, .slice none 0 0, .int .i64 0, .string { data := #[] }, .slice none 0 0, .slice none 0 0, .int .i64 0, .int .i64 0, .string { data := #[] }, .slice none 0 0, .bool false, .int .i64 0, .bool false, .string { data := #[] }] 43).setRow ctd
  have kV : Keep Nix u1 ((u1.alloc (.cells #[.int .i64 0, .int .i64 0, .int .u64 0, .int .i64 0, .int .i64 0, .int .i64 0, .bool false, .slice none 0 0, .slice none 0 0, .slice none 0 0, .slice none 0 0, .slice none 0 0, .slice none 0 0, .int .i64 0, .string { data := #[] }, .slice none 0 0, .slice none 0 0, .int .i64 0, .int .i64 0, .string { data := #[] }, .slice none 0 0, .bool false, .int .i64 0, .bool false, .string { data := #[] }] 43)).setRow u1.heap.size ctd.toArray) := ((Keep.refl Nix u1).alloc (.cells #[.int .i64 0, .int .i64 0, .int .u64 0, .int .i64 0, .int .i64 0, .int .i64 0, .bool false, .slice none 0 0, .slice none 0 0, .slice none 0 0, .slice none 0 0, .slice none 0 0, .slice none 0 0, .int .i64 0, .string { data := #[] }, .slice none 0 0, .slice none 0 0, .int .i64 0, .int .i64 0, .string { data := #[] }, .slice none 0 0, .bool false, .int .i64 0, .bool false, .string { data := #[] }] 43)).setRow (fun h => absurd h (Nat.lt_irrefl _)) ctd.toArray
  clear k1 ho
  replace row0 := row0.keep kV id
  replace row1 := row1.keep kV id
  replace row2 := row2.keep kV id
  replace row3 := row3.keep kV id
  replace hc := rGCall_lawful.nix hc kV
  replace hd := rGCommand_lawful.nix hd kV
  replace hr := rGReply_lawful.nix hr kV
  replace ha := rGAsk_lawful.nix ha kV
  replace kk := kk.trans kV
  replace lc := lc.keep kV (fun _ _ h => h)
  replace ld := ld.keep kV (fun _ _ h => h)
  replace lr := lr.keep kV (fun _ _ h => h)
  replace la := la.keep kV (fun _ _ h => h)
  replace rtc := rtc.keep kV id
  replace htc := wGCall_lawful.nix htc kV
  replace htd := wGCommand_lawful.nix htd kV
  clear kV
  have ttr := wTakeReply_c ar xr.length kr xr _ rfl lr (by unfold far at hbr; omega)
  have HTr : Hid (∀ hk : okGReply r, takeP pGReply zGReply xr = (r, 0)) := by
    show ∀ hk : okGReply r, _
    intro hk
    rw [← HXr.out]; exact good_GReply.take_back _ r hk
  go_wp2_with fail
  clear hst
  go_fit ttr
  clear ttr
  generalize takeP pGReply zGReply xr = yr at HTr ⊢
  rintro e u2 ⟨ctr, rfl, htr, ho, k1⟩
  replace row0 := row0.keep k1 id
  replace row1 := row1.keep k1 id
  replace row2 := row2.keep k1 id
  replace row3 := row3.keep k1 id
  replace hc := rGCall_lawful.nix hc k1
  replace hd := rGCommand_lawful.nix hd k1
  replace hr := rGReply_lawful.nix hr k1
  replace ha := rGAsk_lawful.nix ha k1
  replace kk := kk.trans k1
  replace lc := lc.keep k1 (fun _ _ h => h)
  replace ld := ld.keep k1 (fun _ _ h => h)
  replace lr := lr.keep k1 (fun _ _ h => h)
  replace la := la.keep k1 (fun _ _ h => h)
  replace rtc := rtc.keep k1 id
  replace htc := wGCall_lawful.nix htc k1
  replace rtd := rtd.keep k1 id
  replace htd := wGCommand_lawful.nix htd k1
  have hltr := Lib.hid (wGReply_lawful.len htr)
  have hst := store_run (P := Tryz.prog) (cs := ctr) S_Reply (RowIs.alloc u2 #[.int .i64 0, .int .u64 0, .int .i64 0, .bool false, .slice none 0 0, .slice none 0 0, .int .i64 0, .int .i64 0, .slice none 0 0, .slice none 0 0, .int .i64 0, .int .i64 0, .slice none 0 0, .int .i64 0, .slice none 0 0] 55) rfl hltr.out ho
  have rtr := (RowIs.alloc u2 #[.int .i64 0, .int .u64 0, .int .i64 0, .bool false, .slice none 0 0, .slice none 0 0, .int .i64 0, .int .i64 0, .slice none 0 0, .slice none 0 0, .int .i64 0, .int .i64 0, .slice none 0 0, .int .i64 0, .slice none 0 0] 55).setRow ctr
  have kV : Keep Nix u2 ((u2.alloc (.cells #[.int .i64 0, .int .u64 0, .int .i64 0, .bool false, .slice none 0 0, .slice none 0 0, .int .i64 0, .int .i64 0, .slice none 0 0, .slice none 0 0, .int .i64 0, .int .i64 0, .slice none 0 0, .int .i64 0, .slice none 0 0] 55)).setRow u2.heap.size ctr.toArray) := ((Keep.refl Nix u2).alloc (.cells #[.int .i64 0, .int .u64 0, .int .i64 0, .bool false, .slice none 0 0, .slice none 0 0, .int .i64 0, .int .i64 0, .slice none 0 0, .slice none 0 0, .int .i64 0, .int .i64 0, .slice none 0 0, .int .i64 0, .slice none 0 0] 55)).setRow (fun h => absurd h (Nat.lt_irrefl _)) ctr.toArray
  clear k1 ho
  replace row0 := row0.keep kV id
  replace row1 := row1.keep kV id
  replace row2 := row2.keep kV id
  replace row3 := row3.keep kV id
  replace hc := rGCall_lawful.nix hc kV
  replace hd := rGCommand_lawful.nix hd kV
  replace hr := rGReply_lawful.nix hr kV
  replace ha := rGAsk_lawful.nix ha kV
  replace kk := kk.trans kV
  replace lc := lc.keep kV (fun _ _ h => h)
  replace ld := ld.keep kV (fun _ _ h => h)
  replace lr := lr.keep kV (fun _ _ h => h)
  replace la := la.keep kV (fun _ _ h => h)
  replace rtc := rtc.keep kV id
  replace htc := wGCall_lawful.nix htc kV
  replace rtd := rtd.keep kV id
  replace htd := wGCommand_lawful.nix htd kV
  replace htr := wGReply_lawful.nix htr kV
  clear kV
  have tta := wTakeAsk_c aa xa.length ka xa _ rfl la (by unfold far at hba; omega)
  have HTa : Hid (∀ hk : okGAsk a, takeP pGAsk zGAsk xa = (a, 0)) := by
    show ∀ hk : okGAsk a, _
    intro hk
    rw [← HXa.out]; exact good_GAsk.take_back _ a hk
  go_wp2_with fail
  clear hst
  go_fit tta
  clear tta
  generalize takeP pGAsk zGAsk xa = ya at HTa ⊢
  rintro e u3 ⟨cta, rfl, hta, ho, k1⟩
  replace row0 := row0.keep k1 id
  replace row1 := row1.keep k1 id
  replace row2 := row2.keep k1 id
  replace row3 := row3.keep k1 id
  replace hc := rGCall_lawful.nix hc k1
  replace hd := rGCommand_lawful.nix hd k1
  replace hr := rGReply_lawful.nix hr k1
  replace ha := rGAsk_lawful.nix ha k1
  replace kk := kk.trans k1
  replace lc := lc.keep k1 (fun _ _ h => h)
  replace ld := ld.keep k1 (fun _ _ h => h)
  replace lr := lr.keep k1 (fun _ _ h => h)
  replace la := la.keep k1 (fun _ _ h => h)
  replace rtc := rtc.keep k1 id
  replace htc := wGCall_lawful.nix htc k1
  replace rtd := rtd.keep k1 id
  replace htd := wGCommand_lawful.nix htd k1
  replace rtr := rtr.keep k1 id
  replace htr := wGReply_lawful.nix htr k1
  have hlta := Lib.hid (wGAsk_lawful.len hta)
  have hst := store_run (P := Tryz.prog) (cs := cta) S_Ask (RowIs.alloc u3 #[.int .i64 0, .slice none 0 0, .int .i64 0, .string { data := #[] }, .slice none 0 0, .slice none 0 0, .int .i64 0, .int .i64 0, .string { data := #[] }, .slice none 0 0, .bool false, .int .i64 0, .bool false, .string { data := #[] }, .int .i64 0, .slice none 0 0] 62) rfl hlta.out ho
  have rta := (RowIs.alloc u3 #[.int .i64 0, .slice none 0 0, .int .i64 0, .string { data := #[] }, .slice none 0 0, .slice none 0 0, .int .i64 0, .int .i64 0, .string { data := #[] }, .slice none 0 0, .bool false, .int .i64 0, .bool false, .string { data := #[] }, .int .i64 0, .slice none 0 0] 62).setRow cta
  have kV : Keep Nix u3 ((u3.alloc (.cells #[.int .i64 0, .slice none 0 0, .int .i64 0, .string { data := #[] }, .slice none 0 0, .slice none 0 0, .int .i64 0, .int .i64 0, .string { data := #[] }, .slice none 0 0, .bool false, .int .i64 0, .bool false, .string { data := #[] }, .int .i64 0, .slice none 0 0] 62)).setRow u3.heap.size cta.toArray) := ((Keep.refl Nix u3).alloc (.cells #[.int .i64 0, .slice none 0 0, .int .i64 0, .string { data := #[] }, .slice none 0 0, .slice none 0 0, .int .i64 0, .int .i64 0, .string { data := #[] }, .slice none 0 0, .bool false, .int .i64 0, .bool false, .string { data := #[] }, .int .i64 0, .slice none 0 0] 62)).setRow (fun h => absurd h (Nat.lt_irrefl _)) cta.toArray
  clear k1 ho
  replace row0 := row0.keep kV id
  replace row1 := row1.keep kV id
  replace row2 := row2.keep kV id
  replace row3 := row3.keep kV id
  replace hc := rGCall_lawful.nix hc kV
  replace hd := rGCommand_lawful.nix hd kV
  replace hr := rGReply_lawful.nix hr kV
  replace ha := rGAsk_lawful.nix ha kV
  replace kk := kk.trans kV
  replace lc := lc.keep kV (fun _ _ h => h)
  replace ld := ld.keep kV (fun _ _ h => h)
  replace lr := lr.keep kV (fun _ _ h => h)
  replace la := la.keep kV (fun _ _ h => h)
  replace rtc := rtc.keep kV id
  replace htc := wGCall_lawful.nix htc kV
  replace rtd := rtd.keep kV id
  replace htd := wGCommand_lawful.nix htd kV
  replace rtr := rtr.keep kV id
  replace htr := wGReply_lawful.nix htr kV
  replace hta := wGAsk_lawful.nix hta kV
  clear kV
  go_wp2_with fail
  clear hst
  go_fit (wawake_c _)
  rintro e w2 ⟨rfl, k1⟩
  replace row0 := row0.keep k1 id
  replace row1 := row1.keep k1 id
  replace row2 := row2.keep k1 id
  replace row3 := row3.keep k1 id
  replace hc := rGCall_lawful.nix hc k1
  replace hd := rGCommand_lawful.nix hd k1
  replace hr := rGReply_lawful.nix hr k1
  replace ha := rGAsk_lawful.nix ha k1
  replace kk := kk.trans k1
  replace lc := lc.keep k1 (fun _ _ h => h)
  replace ld := ld.keep k1 (fun _ _ h => h)
  replace lr := lr.keep k1 (fun _ _ h => h)
  replace la := la.keep k1 (fun _ _ h => h)
  replace rtc := rtc.keep k1 id
  replace htc := wGCall_lawful.nix htc k1
  replace rtd := rtd.keep k1 id
  replace htd := wGCommand_lawful.nix htd k1
  replace rtr := rtr.keep k1 id
  replace htr := wGReply_lawful.nix htr k1
  replace rta := rta.keep k1 id
  replace hta := wGAsk_lawful.nix hta k1
  clear k1
  rcases Int.lt_or_le (5000 : Int) (xc.length : Int) with t5 | t5
  · have hm : decide ((5000 : Int) < max4 (xc.length : Int) (xd.length : Int) (xr.length : Int) (xa.length : Int)) = true := decide_eq_true (by unfold max4; omega)
    clear t5
    go_wp2_with fail
    go_ret
    exact ⟨rfl, kk⟩
  have s5c : xc.length ≤ 5000 := by omega
  clear t5
  rcases Int.lt_or_le (5000 : Int) (xd.length : Int) with t5 | t5
  · have hm : decide ((5000 : Int) < max4 (xc.length : Int) (xd.length : Int) (xr.length : Int) (xa.length : Int)) = true := decide_eq_true (by unfold max4; omega)
    clear t5
    go_wp2_with fail
    go_ret
    exact ⟨rfl, kk⟩
  have s5d : xd.length ≤ 5000 := by omega
  clear t5
  rcases Int.lt_or_le (5000 : Int) (xr.length : Int) with t5 | t5
  · have hm : decide ((5000 : Int) < max4 (xc.length : Int) (xd.length : Int) (xr.length : Int) (xa.length : Int)) = true := decide_eq_true (by unfold max4; omega)
    clear t5
    go_wp2_with fail
    go_ret
    exact ⟨rfl, kk⟩
  have s5r : xr.length ≤ 5000 := by omega
  clear t5
  rcases Int.lt_or_le (5000 : Int) (xa.length : Int) with t5 | t5
  · have hm : decide ((5000 : Int) < max4 (xc.length : Int) (xd.length : Int) (xr.length : Int) (xa.length : Int)) = true := decide_eq_true (by unfold max4; omega)
    clear t5
    go_wp2_with fail
    go_ret
    exact ⟨rfl, kk⟩
  have s5a : xa.length ≤ 5000 := by omega
  clear t5
  have hm : decide ((5000 : Int) < max4 (xc.length : Int) (xd.length : Int) (xr.length : Int) (xa.length : Int)) = false := decide_eq_false (by unfold max4; omega)
  have hkc := (ok_GCall _ _ _ c hc (by rw [HXc.out]; omega)).1
  have hyc := HTc.out hkc
  subst hyc
  clear HTc
  clear hkc
  have hkd := (ok_GCommand _ _ _ d hd (by rw [HXd.out]; omega)).1
  have hyd := HTd.out hkd
  subst hyd
  clear HTd
  have HCd : Hid (∀ m, m < xd.length → (takeP pGCommand zGCommand (xd.take m)).2 = 8) := by
    show ∀ m, _
    rw [← HXd.out]; exact fun m hm => good_GCommand.take_cut _ d m hkd hm
  clear hkd
  have hkr := (ok_GReply _ _ _ r hr (by rw [HXr.out]; omega)).1
  have hyr := HTr.out hkr
  subst hyr
  clear HTr
  have HCr : Hid (∀ m, m < xr.length → (takeP pGReply zGReply (xr.take m)).2 = 8) := by
    show ∀ m, _
    rw [← HXr.out]; exact fun m hm => good_GReply.take_cut _ r m hkr hm
  clear hkr
  have hka := (ok_GAsk _ _ _ a ha (by rw [HXa.out]; omega)).1
  have hya := HTa.out hka
  subst hya
  clear HTa
  clear hka
  obtain ⟨cd, md, hmd, f1, f2, f3, f4⟩ := round_facts cut xd.length h1d (by unfold maxLen; omega)
  have hbd0 : (md : Int) ≤ (xd.length : Int) := by omega
  have hbd2 : (md : Int) ≤ (kd : Int) := by omega
  have hbd1 : (0 : Int) ≤ (md : Int) := by omega
  go_wp2_with fail
  skip
  clear f1 f2 f3 f4 hm
  have led : (xd.take md).length = md := by rw [List.length_take]; omega
  have lld := ld.take md
  rw [← List.map_take] at lld
  have tt := wTakeCommand_c ad md kd (xd.take md) _ led lld (by omega)
  have H8 := Lib.hid (HCd.out md hmd)
  clear HCd lld led
  generalize takeP pGCommand zGCommand (xd.take md) = yy at tt H8
  obtain ⟨ym, y8⟩ := yy
  have hym : y8 = 8 := H8.out
  subst hym
  clear H8
  go_fit tt
  clear tt
  rintro e q0 ⟨cm, rfl, hM, ho, k1⟩
  replace row0 := row0.keep k1 id
  replace row1 := row1.keep k1 id
  replace row2 := row2.keep k1 id
  replace row3 := row3.keep k1 id
  replace hc := rGCall_lawful.nix hc k1
  replace hd := rGCommand_lawful.nix hd k1
  replace hr := rGReply_lawful.nix hr k1
  replace ha := rGAsk_lawful.nix ha k1
  replace kk := kk.trans k1
  replace lc := lc.keep k1 (fun _ _ h => h)
  replace ld := ld.keep k1 (fun _ _ h => h)
  replace lr := lr.keep k1 (fun _ _ h => h)
  replace la := la.keep k1 (fun _ _ h => h)
  replace rtc := rtc.keep k1 id
  replace htc := wGCall_lawful.nix htc k1
  replace rtd := rtd.keep k1 id
  replace htd := wGCommand_lawful.nix htd k1
  replace rtr := rtr.keep k1 id
  replace htr := wGReply_lawful.nix htr k1
  replace rta := rta.keep k1 id
  replace hta := wGAsk_lawful.nix hta k1
  have hst := store_run (P := Tryz.prog) (cs := cm) S_Command (RowIs.alloc q0 #[.int .i64 0, .int .i64 0, .int .u64 0, .int .i64 0, .int .i64 0, .int .i64 0, .bool false, .slice none 0 0, .slice none 0 0, .slice none 0 0, .slice none 0 0, .slice none 0 0, .slice none 0 0, .int .i64 0, .string { data := #[] }, .slice none 0 0, .slice none 0 0, .int .i64 0, .int .i64 0, .string { data := #[] }, .slice none 0 0, .bool false, .int .i64 0, .bool false, .string { data := #[] }] 43) rfl (wGCommand_lawful.len hM) ho
  have kV : Keep Nix q0 ((q0.alloc (.cells #[.int .i64 0, .int .i64 0, .int .u64 0, .int .i64 0, .int .i64 0, .int .i64 0, .bool false, .slice none 0 0, .slice none 0 0, .slice none 0 0, .slice none 0 0, .slice none 0 0, .slice none 0 0, .int .i64 0, .string { data := #[] }, .slice none 0 0, .slice none 0 0, .int .i64 0, .int .i64 0, .string { data := #[] }, .slice none 0 0, .bool false, .int .i64 0, .bool false, .string { data := #[] }] 43)).setRow q0.heap.size cm.toArray) := ((Keep.refl Nix q0).alloc (.cells #[.int .i64 0, .int .i64 0, .int .u64 0, .int .i64 0, .int .i64 0, .int .i64 0, .bool false, .slice none 0 0, .slice none 0 0, .slice none 0 0, .slice none 0 0, .slice none 0 0, .slice none 0 0, .int .i64 0, .string { data := #[] }, .slice none 0 0, .slice none 0 0, .int .i64 0, .int .i64 0, .string { data := #[] }, .slice none 0 0, .bool false, .int .i64 0, .bool false, .string { data := #[] }] 43)).setRow (fun h => absurd h (Nat.lt_irrefl _)) cm.toArray
  clear hM k1 ho
  replace row0 := row0.keep kV id
  replace row1 := row1.keep kV id
  replace row2 := row2.keep kV id
  replace row3 := row3.keep kV id
  replace hc := rGCall_lawful.nix hc kV
  replace hd := rGCommand_lawful.nix hd kV
  replace hr := rGReply_lawful.nix hr kV
  replace ha := rGAsk_lawful.nix ha kV
  replace kk := kk.trans kV
  replace lc := lc.keep kV (fun _ _ h => h)
  replace ld := ld.keep kV (fun _ _ h => h)
  replace lr := lr.keep kV (fun _ _ h => h)
  replace la := la.keep kV (fun _ _ h => h)
  replace rtc := rtc.keep kV id
  replace htc := wGCall_lawful.nix htc kV
  replace rtd := rtd.keep kV id
  replace htd := wGCommand_lawful.nix htd kV
  replace rtr := rtr.keep kV id
  replace htr := wGReply_lawful.nix htr kV
  replace rta := rta.keep kV id
  replace hta := wGAsk_lawful.nix hta kV
  clear kV hbd0 hbd1 hbd2 hmd
  obtain ⟨cr, mr, hmr, f1, f2, f3, f4⟩ := round_facts cut xr.length h1r (by unfold maxLen; omega)
  have hbr0 : (mr : Int) ≤ (xr.length : Int) := by omega
  have hbr2 : (mr : Int) ≤ (kr : Int) := by omega
  have hbr1 : (0 : Int) ≤ (mr : Int) := by omega
  go_wp2_with fail
  clear hst
  clear f1 f2 f3 f4
  have ler : (xr.take mr).length = mr := by rw [List.length_take]; omega
  have llr := lr.take mr
  rw [← List.map_take] at llr
  have tt := wTakeReply_c ar mr kr (xr.take mr) _ ler llr (by omega)
  have H8 := Lib.hid (HCr.out mr hmr)
  clear HCr llr ler
  generalize takeP pGReply zGReply (xr.take mr) = yy at tt H8
  obtain ⟨ym, y8⟩ := yy
  have hym : y8 = 8 := H8.out
  subst hym
  clear H8
  go_fit tt
  clear tt
  rintro e q1 ⟨cm, rfl, hM, ho, k1⟩
  replace row0 := row0.keep k1 id
  replace row1 := row1.keep k1 id
  replace row2 := row2.keep k1 id
  replace row3 := row3.keep k1 id
  replace hc := rGCall_lawful.nix hc k1
  replace hd := rGCommand_lawful.nix hd k1
  replace hr := rGReply_lawful.nix hr k1
  replace ha := rGAsk_lawful.nix ha k1
  replace kk := kk.trans k1
  replace lc := lc.keep k1 (fun _ _ h => h)
  replace ld := ld.keep k1 (fun _ _ h => h)
  replace lr := lr.keep k1 (fun _ _ h => h)
  replace la := la.keep k1 (fun _ _ h => h)
  replace rtc := rtc.keep k1 id
  replace htc := wGCall_lawful.nix htc k1
  replace rtd := rtd.keep k1 id
  replace htd := wGCommand_lawful.nix htd k1
  replace rtr := rtr.keep k1 id
  replace htr := wGReply_lawful.nix htr k1
  replace rta := rta.keep k1 id
  replace hta := wGAsk_lawful.nix hta k1
  have hst := store_run (P := Tryz.prog) (cs := cm) S_Reply (RowIs.alloc q1 #[.int .i64 0, .int .u64 0, .int .i64 0, .bool false, .slice none 0 0, .slice none 0 0, .int .i64 0, .int .i64 0, .slice none 0 0, .slice none 0 0, .int .i64 0, .int .i64 0, .slice none 0 0, .int .i64 0, .slice none 0 0] 55) rfl (wGReply_lawful.len hM) ho
  have kV : Keep Nix q1 ((q1.alloc (.cells #[.int .i64 0, .int .u64 0, .int .i64 0, .bool false, .slice none 0 0, .slice none 0 0, .int .i64 0, .int .i64 0, .slice none 0 0, .slice none 0 0, .int .i64 0, .int .i64 0, .slice none 0 0, .int .i64 0, .slice none 0 0] 55)).setRow q1.heap.size cm.toArray) := ((Keep.refl Nix q1).alloc (.cells #[.int .i64 0, .int .u64 0, .int .i64 0, .bool false, .slice none 0 0, .slice none 0 0, .int .i64 0, .int .i64 0, .slice none 0 0, .slice none 0 0, .int .i64 0, .int .i64 0, .slice none 0 0, .int .i64 0, .slice none 0 0] 55)).setRow (fun h => absurd h (Nat.lt_irrefl _)) cm.toArray
  clear hM k1 ho
  replace row0 := row0.keep kV id
  replace row1 := row1.keep kV id
  replace row2 := row2.keep kV id
  replace row3 := row3.keep kV id
  replace hc := rGCall_lawful.nix hc kV
  replace hd := rGCommand_lawful.nix hd kV
  replace hr := rGReply_lawful.nix hr kV
  replace ha := rGAsk_lawful.nix ha kV
  replace kk := kk.trans kV
  replace lc := lc.keep kV (fun _ _ h => h)
  replace ld := ld.keep kV (fun _ _ h => h)
  replace lr := lr.keep kV (fun _ _ h => h)
  replace la := la.keep kV (fun _ _ h => h)
  replace rtc := rtc.keep kV id
  replace htc := wGCall_lawful.nix htc kV
  replace rtd := rtd.keep kV id
  replace htd := wGCommand_lawful.nix htd kV
  replace rtr := rtr.keep kV id
  replace htr := wGReply_lawful.nix htr kV
  replace rta := rta.keep kV id
  replace hta := wGAsk_lawful.nix hta kV
  clear kV hbr0 hbr1 hbr2 hmr
  have lA := Whole.row (P := Tryz.prog) S_Call hlc.out row0
  have lB := Whole.row (P := Tryz.prog) S_Call hltc.out rtc
  unfold Whole at lA lB
  go_wp2_with fail
  clear lA lB hst
  go_fit (sCall_c _ c _ ctc hc (wGCall_to htc))
  rintro e z0 ⟨rfl, k1⟩
  replace row0 := row0.keep k1 id
  replace row1 := row1.keep k1 id
  replace row2 := row2.keep k1 id
  replace row3 := row3.keep k1 id
  replace hc := rGCall_lawful.nix hc k1
  replace hd := rGCommand_lawful.nix hd k1
  replace hr := rGReply_lawful.nix hr k1
  replace ha := rGAsk_lawful.nix ha k1
  replace kk := kk.trans k1
  replace lc := lc.keep k1 (fun _ _ h => h)
  replace ld := ld.keep k1 (fun _ _ h => h)
  replace lr := lr.keep k1 (fun _ _ h => h)
  replace la := la.keep k1 (fun _ _ h => h)
  replace rtc := rtc.keep k1 id
  replace htc := wGCall_lawful.nix htc k1
  replace rtd := rtd.keep k1 id
  replace htd := wGCommand_lawful.nix htd k1
  replace rtr := rtr.keep k1 id
  replace htr := wGReply_lawful.nix htr k1
  replace rta := rta.keep k1 id
  replace hta := wGAsk_lawful.nix hta k1
  clear k1
  have lA := Whole.row (P := Tryz.prog) S_Command hld.out row1
  have lB := Whole.row (P := Tryz.prog) S_Command hltd.out rtd
  unfold Whole at lA lB
  go_wp2_with fail
  clear lA lB 
  go_fit (sCommand_c _ d _ ctd hd (wGCommand_to htd))
  rintro e z1 ⟨rfl, k1⟩
  replace row0 := row0.keep k1 id
  replace row1 := row1.keep k1 id
  replace row2 := row2.keep k1 id
  replace row3 := row3.keep k1 id
  replace hc := rGCall_lawful.nix hc k1
  replace hd := rGCommand_lawful.nix hd k1
  replace hr := rGReply_lawful.nix hr k1
  replace ha := rGAsk_lawful.nix ha k1
  replace kk := kk.trans k1
  replace lc := lc.keep k1 (fun _ _ h => h)
  replace ld := ld.keep k1 (fun _ _ h => h)
  replace lr := lr.keep k1 (fun _ _ h => h)
  replace la := la.keep k1 (fun _ _ h => h)
  replace rtc := rtc.keep k1 id
  replace htc := wGCall_lawful.nix htc k1
  replace rtd := rtd.keep k1 id
  replace htd := wGCommand_lawful.nix htd k1
  replace rtr := rtr.keep k1 id
  replace htr := wGReply_lawful.nix htr k1
  replace rta := rta.keep k1 id
  replace hta := wGAsk_lawful.nix hta k1
  clear k1
  have lA := Whole.row (P := Tryz.prog) S_Reply hlr.out row2
  have lB := Whole.row (P := Tryz.prog) S_Reply hltr.out rtr
  unfold Whole at lA lB
  go_wp2_with fail
  clear lA lB 
  go_fit (sReply_c _ r _ ctr hr (wGReply_to htr))
  rintro e z2 ⟨rfl, k1⟩
  replace row0 := row0.keep k1 id
  replace row1 := row1.keep k1 id
  replace row2 := row2.keep k1 id
  replace row3 := row3.keep k1 id
  replace hc := rGCall_lawful.nix hc k1
  replace hd := rGCommand_lawful.nix hd k1
  replace hr := rGReply_lawful.nix hr k1
  replace ha := rGAsk_lawful.nix ha k1
  replace kk := kk.trans k1
  replace lc := lc.keep k1 (fun _ _ h => h)
  replace ld := ld.keep k1 (fun _ _ h => h)
  replace lr := lr.keep k1 (fun _ _ h => h)
  replace la := la.keep k1 (fun _ _ h => h)
  replace rtc := rtc.keep k1 id
  replace htc := wGCall_lawful.nix htc k1
  replace rtd := rtd.keep k1 id
  replace htd := wGCommand_lawful.nix htd k1
  replace rtr := rtr.keep k1 id
  replace htr := wGReply_lawful.nix htr k1
  replace rta := rta.keep k1 id
  replace hta := wGAsk_lawful.nix hta k1
  clear k1
  have lA := Whole.row (P := Tryz.prog) S_Ask hla.out row3
  have lB := Whole.row (P := Tryz.prog) S_Ask hlta.out rta
  unfold Whole at lA lB
  go_wp2_with fail
  clear lA lB 
  go_fit (sAsk_c _ a _ cta ha (wGAsk_to hta))
  rintro e z3 ⟨rfl, k1⟩
  replace row0 := row0.keep k1 id
  replace row1 := row1.keep k1 id
  replace row2 := row2.keep k1 id
  replace row3 := row3.keep k1 id
  replace hc := rGCall_lawful.nix hc k1
  replace hd := rGCommand_lawful.nix hd k1
  replace hr := rGReply_lawful.nix hr k1
  replace ha := rGAsk_lawful.nix ha k1
  replace kk := kk.trans k1
  replace lc := lc.keep k1 (fun _ _ h => h)
  replace ld := ld.keep k1 (fun _ _ h => h)
  replace lr := lr.keep k1 (fun _ _ h => h)
  replace la := la.keep k1 (fun _ _ h => h)
  replace rtc := rtc.keep k1 id
  replace htc := wGCall_lawful.nix htc k1
  replace rtd := rtd.keep k1 id
  replace htd := wGCommand_lawful.nix htd k1
  replace rtr := rtr.keep k1 id
  replace htr := wGReply_lawful.nix htr k1
  replace rta := rta.keep k1 id
  replace hta := wGAsk_lawful.nix hta k1
  clear k1
  go_wp2_with fail
  go_ret
  exact ⟨rfl, kk⟩
theorem walk (W : World) (v0 v1 v2 v3 v4 : Value)(h0 : Arg Tryz.prog W 1048576 27 v0) (h1 : Arg Tryz.prog W 1048576 43 v1) (h2 : Arg Tryz.prog W 1048576 55 v2) (h3 : Arg Tryz.prog W 1048576 62 v3) (h4 : Arg Tryz.prog W 1048576 3 v4) :
    Calls Tryz.prog 4 #[v0, v1, v2, v3, v4] W fun e w' => e = .returned (.bool true) ∧ Keep Nix W w' := by
  obtain ⟨cs0, rfl, r0⟩ := h0.struct Tryz.underlying27
  obtain ⟨x0, g0, s0⟩ := redGCall r0
  have b0 : (encGCall x0).length ≤ far := by have := encGCall_len x0; unfold far; omega
  obtain ⟨cs1, rfl, r1⟩ := h1.struct Tryz.underlying43
  obtain ⟨x1, g1, s1⟩ := redGCommand r1
  have b1 : (encGCommand x1).length ≤ far := by have := encGCommand_len x1; unfold far; omega
  obtain ⟨cs2, rfl, r2⟩ := h2.struct Tryz.underlying55
  obtain ⟨x2, g2, s2⟩ := redGReply r2
  have b2 : (encGReply x2).length ≤ far := by have := encGReply_len x2; unfold far; omega
  obtain ⟨cs3, rfl, r3⟩ := h3.struct Tryz.underlying62
  obtain ⟨x3, g3, s3⟩ := redGAsk r3
  have b3 : (encGAsk x3).length ≤ far := by have := encGAsk_len x3; unfold far; omega
  obtain ⟨u, rfl, -⟩ := h4.int Tryz.underlying3
  exact walk' W x0 cs0 g0 b0 x1 cs1 g1 b1 x2 cs2 g2 b2 x3 cs3 g3 b3 u
end wireBack
end Go.Proofs.YtabgbleldbapbaaGreat
