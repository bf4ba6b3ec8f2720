/- ROOT: a nil root: each of its methods; the law RootNil. Printed by mac.py. -/
import Derived.Test.YtibaehlfpgipfaaGreatQRoB
import Derived.Test.YtibaehlfpgipfaaGreatQSameB
import Derived.Test.YtibaehlfpgipfaaGreatQOutT
import Derived.Test.YtibaehlfpgipfaaGreatQOutD
import Derived.Test.YtibaehlfpgipfaaGreatQTakA
namespace Go.Proofs.YtibaehlfpgipfaaGreat
open Go.RowKit

def zC : GCatalog := ⟨0, 0, [], []⟩
def zR : GRoutes := ⟨0, 0, [], 0, []⟩
theorem i0 : isI64 0 := ⟨by decide, by decide⟩
theorem zC_R (w : World) (p : Nat → Prop) : rGCatalog w p [.int .i64 0, .int .i64 0, .slice none 0 0, .slice none 0 0] zC := rGCatalog_mk w p (x := zC) i0 i0 (nil_R _ _) (nil_R _ _)
theorem zR_R (w : World) (p : Nat → Prop) : rGRoutes w p [.int .i64 0, .int .i64 0, .slice none 0 0, .int .i64 0, .slice none 0 0] zR := rGRoutes_mk w p (x := zR) i0 i0 (nil_R _ _) i0 ⟨Lies.nil _ _ _, Nat.le_refl _, Nat.zero_le _⟩
section
attribute [local go_sem ↓] stz_Reply stz_Catalog stz_Routes stz_Command ldz_Command ldz_Catalog
set_option maxRecDepth 100000 in
theorem catNil_c (v : Int) (w : World) : Calls Tryz.prog 12 #[.pointer none, .int .i64 v] w fun e w' => e = .returned (.tuple #[.agg ([.int .i64 0, .int .i64 0, .slice none 0 0, .slice none 0 0] : List Value).toArray, .bool false]) ∧ Keep Nix w w' := by
  have hinfo : (Tryz.prog.info? 50).map (·.size) = some 4 := by kernel_rfl
  have rowZ : RowIs (w.alloc (.cells #[.int .i64 0, .int .i64 0, .slice none 0 0, .slice none 0 0] 50)) w.heap.size 50 [.int .i64 0, .int .i64 0, .slice none 0 0, .slice none 0 0] := RowIs.alloc w _ _
  have hst := store_run (P := Tryz.prog) (cs := [.int .i64 0, .int .i64 0, .slice none 0 0, .slice none 0 0]) S_Catalog rowZ rfl rfl rfl
  have HZR := Lib.hid (rowZ.setRow [.int .i64 0, .int .i64 0, .slice none 0 0, .slice none 0 0])
  have kS := Lib.hid (((Keep.refl Nix w).alloc (.cells #[.int .i64 0, .int .i64 0, .slice none 0 0, .slice none 0 0] 50)).setRow (g := w.heap.size) (fun h => absurd h (Nat.lt_irrefl _)) ([.int .i64 0, .int .i64 0, .slice none 0 0, .slice none 0 0] : List Value).toArray)
  clear rowZ
  go_enter Tryz.func12, Tryz.ntmps12
  go_wp2_with fail
  refine bodyPost_ret (results_cell_row2 (by rfl) _ _ _ _ _ _ _ (by rfl) HZR.out Tryz.underlying50 (by rfl) hinfo) rfl ?_
  exact ⟨rfl, kS.out⟩
set_option maxRecDepth 100000 in
theorem routesNil_c (w : World) : Calls Tryz.prog 15 #[.pointer none] w fun e w' => e = .returned (.agg ([.int .i64 0, .int .i64 0, .slice none 0 0, .int .i64 0, .slice none 0 0] : List Value).toArray) ∧ Keep Nix w w' := by
  have hinfo : (Tryz.prog.info? 53).map (·.size) = some 5 := by kernel_rfl
  have rowZ : RowIs (w.alloc (.cells #[.int .i64 0, .int .i64 0, .slice none 0 0, .int .i64 0, .slice none 0 0] 53)) w.heap.size 53 [.int .i64 0, .int .i64 0, .slice none 0 0, .int .i64 0, .slice none 0 0] := RowIs.alloc w _ _
  have hst := store_run (P := Tryz.prog) (cs := [.int .i64 0, .int .i64 0, .slice none 0 0, .int .i64 0, .slice none 0 0]) S_Routes rowZ rfl rfl rfl
  have HZR := Lib.hid (rowZ.setRow [.int .i64 0, .int .i64 0, .slice none 0 0, .int .i64 0, .slice none 0 0])
  have kS := Lib.hid (((Keep.refl Nix w).alloc (.cells #[.int .i64 0, .int .i64 0, .slice none 0 0, .int .i64 0, .slice none 0 0] 53)).setRow (g := w.heap.size) (fun h => absurd h (Nat.lt_irrefl _)) ([.int .i64 0, .int .i64 0, .slice none 0 0, .int .i64 0, .slice none 0 0] : List Value).toArray)
  clear rowZ
  go_enter Tryz.func15, Tryz.ntmps15
  go_wp2_with fail
  refine bodyPost_ret (results_cell_row (by rfl) _ _ _ _ _ _ _ (by rfl) HZR.out Tryz.underlying53 (by rfl) hinfo) rfl ?_
  exact ⟨rfl, kS.out⟩
theorem decidedNil_c (t : Int) (w : World) : Calls Tryz.prog 17 #[.pointer none, .int .u64 t] w fun e w' => e = .returned (.tuple #[.int .i64 0, .bool false]) ∧ w = w' := by
  go_enter Tryz.func17, Tryz.ntmps17
  go_wp2_with fail
  refine bodyPost_ret (results_tmp2 rfl _ _ _) rfl ?_
  exact ⟨rfl, rfl⟩
set_option maxRecDepth 100000 in
theorem orderNil_c (w : World) : Calls Tryz.prog 21 #[.pointer none] w fun e w' => e = .returned (.slice none 0 0) ∧ w = w' := by
  go_enter Tryz.func21, Tryz.ntmps21
  go_wp2_with fail
  go_ret
  exact ⟨rfl, rfl⟩
set_option maxRecDepth 100000 in
theorem rsaveNil_c (w : World) : Calls Tryz.prog 10 #[.pointer none] w fun e w' => e = .returned (.slice none 0 0) ∧ w = w' := by
  go_enter Tryz.func10, Tryz.ntmps10
  go_wp2_with fail
  go_ret
  exact ⟨rfl, rfl⟩
set_option maxRecDepth 100000 in
theorem rloadNil_c (v : Value) (w : World) : Calls Tryz.prog 16 #[.pointer none, v] w fun e w' => e = .returned (.bool false) ∧ w = w' := by
  go_enter Tryz.func16, Tryz.ntmps16
  go_wp2_with fail
  go_ret
  exact ⟨rfl, rfl⟩
set_option maxRecDepth 100000 in
set_option maxHeartbeats 1000000 in
theorem runNil_c (ccs : List Value) (w : World) : Calls Tryz.prog 9 #[.pointer none, .agg ccs.toArray] w fun e w' => e = .returned (.agg (repV 2 0 0).toArray) ∧ Keep Nix w w' := by
  have hinfo : (Tryz.prog.info? 55).map (·.size) = some 15 := by kernel_rfl
  have kB : Keep Nix w (((w.alloc (.cells ccs.toArray 43))).alloc (.cells #[.int .i64 0, .int .u64 0, .int .i64 0, .bool false, .slice none 0 0, .slice none 0 0, .int .i64 0, .int .i64 0, .slice none 0 0, .slice none 0 0, .int .i64 0, .int .i64 0, .slice none 0 0, .int .i64 0, .slice none 0 0] 55)) := ((Keep.refl Nix w).alloc _).alloc _
  have rowZ : RowIs (((w.alloc (.cells ccs.toArray 43))).alloc (.cells #[.int .i64 0, .int .u64 0, .int .i64 0, .bool false, .slice none 0 0, .slice none 0 0, .int .i64 0, .int .i64 0, .slice none 0 0, .slice none 0 0, .int .i64 0, .int .i64 0, .slice none 0 0, .int .i64 0, .slice none 0 0] 55)) (w.heap.size + 1) 55 [.int .i64 0, .int .u64 0, .int .i64 0, .bool false, .slice none 0 0, .slice none 0 0, .int .i64 0, .int .i64 0, .slice none 0 0, .slice none 0 0, .int .i64 0, .int .i64 0, .slice none 0 0, .int .i64 0, .slice none 0 0] := RowIs.alloc_at (w.alloc (.cells ccs.toArray 43)) _ (by simp) _ _
  have hst := store_run (P := Tryz.prog) (cs := repV 2 0 0) S_Reply rowZ rfl rfl rfl
  unfold repV at hst
  have HZR := Lib.hid (rowZ.setRow (repV 2 0 0))
  have kS := Lib.hid (kB.setRow (g := w.heap.size + 1) (fun h => by omega) (repV 2 0 0).toArray)
  clear rowZ kB
  go_enter Tryz.func9, Tryz.ntmps9
  go_wp2_with fail
  refine bodyPost_ret (results_cell_row (by rfl) _ _ _ _ _ _ _ (by rfl) HZR.out Tryz.underlying55 (by rfl) hinfo) rfl ?_
  exact ⟨rfl, kS.out⟩
theorem rep2_R (w : World) (p : Nat → Prop) : rGReply w p (repV 2 0 0) (repG 2 0 0) := repV_R _ _ ⟨by decide, by decide⟩ ⟨by decide, by decide⟩ i0
theorem rep2_len : (encGReply (repG 2 0 0)).length ≤ 1000 := by decide +kernel
set_option maxRecDepth 100000 in
set_option maxHeartbeats 1000000 in
theorem doNil_c {p : Nat → Prop} (a : Option Addr) (n ca : Nat) (l : List UInt8) (w : World) (hn : l.length = n) (ha : Lies w p a (l.map bv)) (hr : n ≤ 140737488355328) :
    Calls Tryz.prog 19 #[.pointer none, .slice a n ca] w (Made (encGReply (repG 2 0 0)) w) := by
  have HT := Lib.hid (wTakeCommand_c a n ca l w hn ha hr)
  clear ha
  go_enter Tryz.func19, Tryz.ntmps19
  go_wp2_with fail
  go_fit HT.out
  rintro e w1 ⟨cs, rfl, hR, hone, k1⟩
  have hlc := rGCommand_lawful.len (wGCommand_to hR)
  obtain ⟨hst, row, kX⟩ := boxed (P := Tryz.prog) (zs := [.int .i64 0, .int .i64 0, .int .u64 0, .int .i64 0, .int .i64 0, .int .i64 0, .bool false, .slice none 0 0, .slice none 0 0, .slice none 0 0, .slice none 0 0, .slice none 0 0, .slice none 0 0, .int .i64 0, .string ⟨#[]⟩, .slice none 0 0, .slice none 0 0, .int .i64 0, .int .i64 0, .string ⟨#[]⟩, .slice none 0 0, .bool false, .int .i64 0, .bool false, .string ⟨#[]⟩]) S_Command w1 rfl hlc hone
  have K1 := Lib.hid (k1.trans kX)
  clear hR k1 kX row HT
  have HC := fun w' => wTReply_c w' (· < w'.heap.size) (fun _ h => h) (repG 2 0 0) (repV 2 0 0) (rep2_R _ _) (Nat.le_trans rep2_len (by decide))
  unfold repV at HC
  replace HC := Lib.hid HC
  go_wp2_with fail
  clear hst
  go_fit (HC.out _)
  rintro e w2 ⟨a2, c2, rfl, own2, k2⟩
  have K2 := Lib.hid (K1.out.trans k2)
  have OW := Lib.hid (owned_base own2 K1.out.size)
  clear own2 k2 HC
  go_wp2_with fail
  go_ret
  exact ⟨a2, c2, rfl, OW.out, K2.out⟩
set_option maxRecDepth 100000 in
set_option maxHeartbeats 4000000 in
theorem nil_walk (W : World) (ccs : List Value) (a : Option Addr) (cap : Nat) (b : List UInt8) (t v : Int) (c : GCommand) (hcc : rGCommand W (· < W.heap.size) ccs c) (hb : Lies W (· < W.heap.size) a (b.map bv)) (hbl : b.length ≤ 140737488355328) :
    Calls Tryz.prog 5 #[.agg ccs.toArray, .slice a b.length cap, .int .u64 t, .int .i64 v] W fun e w' => e = .returned (.bool true) ∧ Keep Nix W w' := by
  have hlc := rGCommand_lawful.len hcc
  have HB := Lib.hid hb
  have rowM : RowIs (W.alloc (.cells ccs.toArray 43)) W.heap.size 43 ccs := by simpa using RowIs.alloc W ccs.toArray 43
  have K0 := Lib.hid ((Keep.refl Nix W).alloc (.cells ccs.toArray 43))
  have ROWM := Lib.hid rowM
  have HC := Lib.hid (catNil_c v (W.alloc (.cells ccs.toArray 43)))
  clear rowM hb hcc
  go_enter Tryz.func5, Tryz.ntmps5
  go_wp2_with fail
  go_fit HC.out
  rintro e w1 ⟨rfl, k1⟩
  obtain ⟨hst, rowC, kX⟩ := boxed (P := Tryz.prog) (zs := [.int .i64 0, .int .i64 0, .slice none 0 0, .slice none 0 0]) (cs := [.int .i64 0, .int .i64 0, .slice none 0 0, .slice none 0 0]) S_Catalog w1 rfl rfl rfl
  have K2 := Lib.hid ((K0.out.trans k1).trans kX)
  have ROWM2 := Lib.hid ((ROWM.out.keep k1 id).keep kX id)
  have ROWC := Lib.hid rowC
  clear HC k1 kX rowC K0 ROWM
  go_wp2_with fail
  clear hst
  generalize hw2 : (w1.alloc (.cells ([.int .i64 0, .int .i64 0, .slice none 0 0, .slice none 0 0] : List Value).toArray 50)).setRow w1.heap.size ([.int .i64 0, .int .i64 0, .slice none 0 0, .slice none 0 0] : List Value).toArray = w2 at *
  go_fit (decidedNil_c t w2)
  rintro e w3 ⟨rfl, rfl⟩
  clear hw2
  go_wp2_with fail
  go_fit (roawake_c w2)
  rintro e w3 ⟨rfl, k3⟩
  have K3 := Lib.hid (K2.out.trans k3)
  have ROWC3 := Lib.hid (ROWC.out.keep k3 id)
  have hld := Whole.run (P := Tryz.prog) S_Command hlc (ROWM2.out.keep k3 id)
  clear k3 K2 ROWC ROWM2
  go_wp2_with fail
  go_fit (runNil_c ccs w3)
  rintro e w4 ⟨rfl, k4⟩
  clear hld
  have HC := Lib.hid (sReply_c w4 (repG 2 0 0) (repV 2 0 0) (repV 2 0 0) (rep2_R w4 (fun _ => True)) (rep2_R w4 (fun _ => True)))
  unfold repV at HC
  unfold repV
  go_wp2_with fail
  go_fit HC.out
  rintro e w5 ⟨rfl, k5⟩
  have K5 := Lib.hid ((K3.out.trans k4).trans k5)
  have ROWC5 := Lib.hid ((ROWC3.out.keep k4 id).keep k5 id)
  clear HC k4 k5 K3 ROWC3
  have HC := Lib.hid (doNil_c a b.length cap b w5 rfl (HB.out.keep K5.out (fun _ _ h => h)) hbl)
  go_wp2_with fail
  go_fit HC.out
  rintro e w6 ⟨a6, c6, rfl, own6, k6⟩
  have HC := oTReply_c w6 (· < w6.heap.size) (fun _ h => h) (repG 2 0 0) (repV 2 0 0) (rep2_R _ _) (Nat.le_trans rep2_len (by decide))
  unfold repV at HC
  replace HC := Lib.hid HC
  have OW6 := Lib.hid own6
  have K6 := Lib.hid (K5.out.trans k6)
  have ROWC6 := Lib.hid (ROWC5.out.keep k6 id)
  clear own6 k6 K5 ROWC5
  go_wp2_with fail
  go_fit HC.out
  rintro e w7 ⟨a7, c7, rfl, own7, k7⟩
  have HE := bytes_c a6 a7 _ c6 _ c7 (encGReply (repG 2 0 0)) (encGReply (repG 2 0 0)) w7 rfl rfl (Lies.of_owned (owned_keep OW6.out k7 (fun _ _ h => h))) (Lies.of_owned own7)
  rw [show decide (encGReply (repG 2 0 0) = encGReply (repG 2 0 0)) = true from decide_eq_true rfl] at HE
  replace HE := Lib.hid HE
  have K7 := Lib.hid (K6.out.trans k7)
  have ROWC7 := Lib.hid (ROWC6.out.keep k7 id)
  clear own7 k7 K6 ROWC6 OW6 HC
  go_wp2_with fail
  go_fit HE.out
  rintro e w8 ⟨rfl, rfl⟩
  clear HE
  go_wp2_with fail
  go_fit (rsaveNil_c w7)
  rintro e w8 ⟨rfl, rfl⟩
  go_wp2_with fail
  go_fit (rloadNil_c _ w7)
  rintro e w8 ⟨rfl, rfl⟩
  have hld := Whole.run (P := Tryz.prog) S_Catalog rfl ROWC7.out
  have HC := Lib.hid (cmp_sCatalog_c w7 zC [.int .i64 0, .int .i64 0, .slice none 0 0, .slice none 0 0] [.int .i64 0, .int .i64 0, .slice none 0 0, .slice none 0 0] (zC_R w7 (fun _ => True)) (zC_R w7 (fun _ => True)))
  go_wp2_with fail
  go_fit HC.out
  rintro e w8 ⟨rfl, k8⟩
  have K8 := Lib.hid (K7.out.trans k8)
  clear hld HC k8 K7 ROWC7
  go_wp2_with fail
  go_fit (orderNil_c w8)
  rintro e w9 ⟨rfl, rfl⟩
  go_wp2_with fail
  go_fit (routesNil_c w8)
  rintro e w9 ⟨rfl, k9⟩
  have HC := Lib.hid (sRoutes_c w9 zR [.int .i64 0, .int .i64 0, .slice none 0 0, .int .i64 0, .slice none 0 0] [.int .i64 0, .int .i64 0, .slice none 0 0, .int .i64 0, .slice none 0 0] (zR_R w9 (fun _ => True)) (zR_R w9 (fun _ => True)))
  have K9 := Lib.hid (K8.out.trans k9)
  clear k9 K8
  go_wp2_with fail
  go_fit HC.out
  rintro e w10 ⟨rfl, k10⟩
  have K10 := Lib.hid (K9.out.trans k10)
  clear HC k10 K9
  go_wp2_with fail
  go_ret
  exact ⟨rfl, K10.out⟩
end
namespace rootNil
theorem walk {m0 m1 m2 m3 : Nat} (W : World) (v0 v1 v2 v3 : Value) (h0 : Arg Tryz.prog W m0 43 v0) (h1 : Arg Tryz.prog W m1 30 v1) (h2 : Arg Tryz.prog W m2 28 v2) (h3 : Arg Tryz.prog W m3 3 v3) :
    Calls Tryz.prog 5 #[v0, v1, v2, v3] W fun e w' => e = .returned (.bool true) ∧ Keep Nix W w' := by
  obtain ⟨ccs, rfl, hr⟩ := h0.struct Tryz.underlying43
  obtain ⟨c, hc, -⟩ := redGCommand hr
  obtain ⟨a, n, cap, rfl, h4⟩ := h1.slice Tryz.underlying30
  obtain ⟨l, hn, hl, h5, h6, -⟩ := bytes_in Tryz.underlying30 Tryz.underlying5 (by kernel_rfl) (by kernel_rfl) h4
  obtain ⟨t, rfl, -⟩ := h2.int Tryz.underlying28
  obtain ⟨v, rfl, -⟩ := h3.int Tryz.underlying3
  subst hn
  exact nil_walk W ccs a cap l t v c hc hl (by omega)
end rootNil
end Go.Proofs.YtibaehlfpgipfaaGreat
