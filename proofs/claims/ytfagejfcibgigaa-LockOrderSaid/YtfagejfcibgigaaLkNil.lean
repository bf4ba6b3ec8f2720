/- LOCK: the law LockNil. Printed by mac.py. -/
import Derived.Test.YtfagejfcibgigaaLkL
import Derived.Test.YtfagejfcibgigaaLk8
import Derived.Test.YtfagejfcibgigaaLk9
import Derived.Test.YtfagejfcibgigaaSameH
import Derived.Deep.DeepCutAuto
import Derived.Deep.CutBlock
namespace Go.Proofs.Ytfagejfcibgigaa
open Go.RowKit Go.Shelf

set_option maxRecDepth 100000 in
theorem drop_nil (k : Int) (w : World) : Calls Try.prog 16 #[.pointer none, .int .u64 k] w fun e w' => e = .returned (.tuple #[.agg #[.int .u64 0, .slice none 0 0, .slice none 0 0, .slice none 0 0], .bool false]) ∧ Keep Nix w w' := by
  have hinfo : (Try.prog.info? 28).map (·.size) = some 4 := by kernel_rfl
  have kk : Keep Nix w (w.alloc (.cells #[.int .u64 0, .slice none 0 0, .slice none 0 0, .slice none 0 0] 28)) := (Keep.refl Nix w).alloc _
  have rowZ : RowIs (w.alloc (.cells #[.int .u64 0, .slice none 0 0, .slice none 0 0, .slice none 0 0] 28)) w.heap.size 28 [.int .u64 0, .slice none 0 0, .slice none 0 0, .slice none 0 0] := RowIs.alloc w _ _
  have hG := get_nil k (w.alloc (.cells #[.int .u64 0, .slice none 0 0, .slice none 0 0, .slice none 0 0] 28))
  go_enter Try.func16, Try.ntmps16
  go_wp2_with fail
  go_fit hG
  rintro e w1 ⟨rfl, k1⟩
  have k2 : Keep Nix w1 (w1.alloc (.cells #[.int .u64 0, .slice none 0 0, .slice none 0 0, .slice none 0 0] 28)) := (Keep.refl Nix w1).alloc _
  have rowX : RowIs (w1.alloc (.cells #[.int .u64 0, .slice none 0 0, .slice none 0 0, .slice none 0 0] 28)) w1.heap.size 28 [.int .u64 0, .slice none 0 0, .slice none 0 0, .slice none 0 0] := RowIs.alloc w1 _ _
  replace rowZ := (rowZ.keep k1 id).keep k2 id
  have kk2 := (kk.trans k1).trans k2
  go_upto_region 4 with fail
  generalize (w1.alloc (.cells #[.int .u64 0, .slice none 0 0, .slice none 0 0, .slice none 0 0] 28)) = w2 at *
  have z0 := rowZ.cell 0
  have q0 := rowX.cell 0
  (try simp only [List.getElem?_cons_zero] at z0 q0)
  have z1 := rowZ.cell 1
  (try simp only [List.getElem?_cons_succ] at z1); (try simp only [List.getElem?_cons_zero] at z1)
  have z2 := rowZ.cell 2
  (try simp only [List.getElem?_cons_succ] at z2); (try simp only [List.getElem?_cons_zero] at z2)
  have z3 := rowZ.cell 3
  (try simp only [List.getElem?_cons_succ] at z3); (try simp only [List.getElem?_cons_zero] at z3)
  have q1 := rowX.cell 1
  (try simp only [List.getElem?_cons_succ] at q1); (try simp only [List.getElem?_cons_zero] at q1)
  have q2 := rowX.cell 2
  (try simp only [List.getElem?_cons_succ] at q2); (try simp only [List.getElem?_cons_zero] at q2)
  have q3 := rowX.cell 3
  (try simp only [List.getElem?_cons_succ] at q3); (try simp only [List.getElem?_cons_zero] at q3)
  have zf0 := rowZ.frozen 0
  have zf1 := rowZ.frozen 1
  have zf2 := rowZ.frozen 2
  have zf3 := rowZ.frozen 3
  have kS : Keep (· = w.heap.size) w2 ((((w2.setCell ⟨w.heap.size, 0, none⟩ (.int .u64 0)).setCell ⟨w.heap.size, 1, none⟩ (.slice none 0 0)).setCell ⟨w.heap.size, 2, none⟩ (.slice none 0 0)).setCell ⟨w.heap.size, 3, none⟩ (.slice none 0 0)) := ((((Keep.refl (· = w.heap.size) w2).setCell (p := ⟨w.heap.size, 0, none⟩) (fun _ => rfl) _).setCell (p := ⟨w.heap.size, 1, none⟩) (fun _ => rfl) _).setCell (p := ⟨w.heap.size, 2, none⟩) (fun _ => rfl) _).setCell (p := ⟨w.heap.size, 3, none⟩) (fun _ => rfl) _
  have rowR : RowIs ((((w2.setCell ⟨w.heap.size, 0, none⟩ (.int .u64 0)).setCell ⟨w.heap.size, 1, none⟩ (.slice none 0 0)).setCell ⟨w.heap.size, 2, none⟩ (.slice none 0 0)).setCell ⟨w.heap.size, 3, none⟩ (.slice none 0 0)) w.heap.size 28 [.int .u64 0, .slice none 0 0, .slice none 0 0, .slice none 0 0] := (((rowZ.set 0 (.int .u64 0)).set 1 (.slice none 0 0)).set 2 (.slice none 0 0)).set 3 (.slice none 0 0)
  have HZR := Lib.hid rowR
  clear rowR rowZ rowX
  go_wp2_with fail
  refine bodyPost_ret (results_cell_row2 (by rfl) _ _ _ _ _ _ _ (by rfl) HZR.out Try.underlying28 (by rfl) hinfo) rfl ?_
  exact ⟨rfl, kk2.then kS (fun i hi e => by omega)⟩
namespace lockNil
theorem zero_R (w : World) (p : Nat → Prop) : rGHeld w p [.int .u64 0, .slice none 0 0, .slice none 0 0, .slice none 0 0] (valO none) := rGHeld_mk _ _ (x := ⟨0, [], [], []⟩) ⟨by decide, by decide⟩ (nil_R _ _) (nil_R _ _) (nil_R _ _)
set_option maxRecDepth 100000 in
set_option maxHeartbeats 4000000 in
theorem nil_walk {p r : Nat → Prop} (W : World) (h : GHeld) (csh : List Value) (a : Option Addr) (cp : Nat) (l : List UInt8) (s : GSpan) (css : List Value) (hh : rGHeld W p csh h) (hs : rGSpan W r css s) :
    Calls Try.prog 6 #[.agg csh.toArray, .slice a l.length cp, .agg css.toArray] W fun e w' => e = .returned (.bool true) ∧ Keep Nix W w' := by
  have hh2 := hh
  obtain ⟨aK, cK, aS, cS, aW, cW, rfl, -⟩ := rGHeld_open hh
  have hs2 := hs
  obtain ⟨aF, cF, aT, cT, rfl, -⟩ := rGSpan_open hs
  have kB : Keep Nix W (((W.alloc (.cells #[.int .u64 h.fTxn, .slice aK h.fKeys.length cK, .slice aS h.fSpans.length cS, .slice aW h.fWrites.length cW] 28))).alloc (.cells #[.slice aF s.fFrom.length cF, .slice aT s.fTo.length cT] 46)) := ((Keep.refl Nix W).alloc _).alloc _
  have rowH : RowIs (((W.alloc (.cells #[.int .u64 h.fTxn, .slice aK h.fKeys.length cK, .slice aS h.fSpans.length cS, .slice aW h.fWrites.length cW] 28))).alloc (.cells #[.slice aF s.fFrom.length cF, .slice aT s.fTo.length cT] 46)) W.heap.size 28 [.int .u64 h.fTxn, .slice aK h.fKeys.length cK, .slice aS h.fSpans.length cS, .slice aW h.fWrites.length cW] := (RowIs.alloc W _ _).keep ((Keep.refl Nix _).alloc _) id
  have rowS : RowIs (((W.alloc (.cells #[.int .u64 h.fTxn, .slice aK h.fKeys.length cK, .slice aS h.fSpans.length cS, .slice aW h.fWrites.length cW] 28))).alloc (.cells #[.slice aF s.fFrom.length cF, .slice aT s.fTo.length cT] 46)) (W.heap.size + 1) 46 [.slice aF s.fFrom.length cF, .slice aT s.fTo.length cT] := by
    have h := RowIs.alloc (W.alloc (.cells #[.int .u64 h.fTxn, .slice aK h.fKeys.length cK, .slice aS h.fSpans.length cS, .slice aW h.fWrites.length cW] 28)) #[.slice aF s.fFrom.length cF, .slice aT s.fTo.length cT] 46
    simpa using h
  clear hh hs
  go_enter Try.func6, Try.ntmps6
  go_upto_region 2 with fail
  generalize (((W.alloc (.cells #[.int .u64 h.fTxn, .slice aK h.fKeys.length cK, .slice aS h.fSpans.length cS, .slice aW h.fWrites.length cW] 28))).alloc (.cells #[.slice aF s.fFrom.length cF, .slice aT s.fTo.length cT] 46)) = w0 at *
  have y0 := rowH.cell 0
  (try simp only [List.getElem?_cons_zero] at y0)
  go_wp2_with fail
  go_fit (drop_nil h.fTxn w0)
  rintro e w1 ⟨rfl, k1⟩
  have kA : Keep Nix w0 (w1.alloc (.cells #[.int .u64 0, .slice none 0 0, .slice none 0 0, .slice none 0 0] 28)) := k1.trans ((Keep.refl Nix w1).alloc _)
  have rowA : RowIs (w1.alloc (.cells #[.int .u64 0, .slice none 0 0, .slice none 0 0, .slice none 0 0] 28)) w1.heap.size 28 [.int .u64 0, .slice none 0 0, .slice none 0 0, .slice none 0 0] := RowIs.alloc w1 _ _
  replace rowH := rowH.keep kA id
  replace rowS := rowS.keep kA id
  have kk := kB.trans kA
  clear y0 kA k1 kB
  go_upto_region 3 with fail
  generalize (w1.alloc (.cells #[.int .u64 0, .slice none 0 0, .slice none 0 0, .slice none 0 0] 28)) = w2 at *
  have y0 := rowH.cell 0
  (try simp only [List.getElem?_cons_zero] at y0)
  go_wp2_with fail
  go_fit (get_nil h.fTxn w2)
  rintro e w3 ⟨rfl, k1⟩
  have kA : Keep Nix w2 (w3.alloc (.cells #[.int .u64 0, .slice none 0 0, .slice none 0 0, .slice none 0 0] 28)) := k1.trans ((Keep.refl Nix w3).alloc _)
  have rowB : RowIs (w3.alloc (.cells #[.int .u64 0, .slice none 0 0, .slice none 0 0, .slice none 0 0] 28)) w3.heap.size 28 [.int .u64 0, .slice none 0 0, .slice none 0 0, .slice none 0 0] := RowIs.alloc w3 _ _
  replace rowH := rowH.keep kA id
  replace rowS := rowS.keep kA id
  replace rowA := rowA.keep kA id
  replace kk := kk.trans kA
  clear y0 kA k1
  go_upto_region 4 with fail
  generalize (w3.alloc (.cells #[.int .u64 0, .slice none 0 0, .slice none 0 0, .slice none 0 0] 28)) = w4 at *
  go_wp2_with fail
  go_fit (awake_c w4)
  rintro e w5 ⟨rfl, k⟩
  (try replace rowH := rowH.keep k id)
  (try replace rowS := rowS.keep k id)
  (try replace rowA := rowA.keep k id)
  (try replace rowB := rowB.keep k id)
  replace kk := kk.trans k
  clear k
  have HH := fun (w' : World) (k : Keep Nix W w') => rGHeld_lawful.nix hh2 k
  have HS := fun (w' : World) (k : Keep Nix W w') => rGSpan_lawful.nix hs2 k
  have HC := Lib.hid (may_nil h _ w5 (HH _ kk))
  have y0 := rowH.cell 0
  (try simp only [List.getElem?_cons_zero] at y0)
  have y1 := rowH.cell 1
  (try simp only [List.getElem?_cons_succ] at y1); (try simp only [List.getElem?_cons_zero] at y1)
  have y2 := rowH.cell 2
  (try simp only [List.getElem?_cons_succ] at y2); (try simp only [List.getElem?_cons_zero] at y2)
  have y3 := rowH.cell 3
  (try simp only [List.getElem?_cons_succ] at y3); (try simp only [List.getElem?_cons_zero] at y3)
  have s0 := rowS.cell 0
  (try simp only [List.getElem?_cons_zero] at s0)
  have s1 := rowS.cell 1
  (try simp only [List.getElem?_cons_succ] at s1); (try simp only [List.getElem?_cons_zero] at s1)
  have a0 := rowA.cell 0
  (try simp only [List.getElem?_cons_zero] at a0)
  have a1 := rowA.cell 1
  (try simp only [List.getElem?_cons_succ] at a1); (try simp only [List.getElem?_cons_zero] at a1)
  have a2 := rowA.cell 2
  (try simp only [List.getElem?_cons_succ] at a2); (try simp only [List.getElem?_cons_zero] at a2)
  have a3 := rowA.cell 3
  (try simp only [List.getElem?_cons_succ] at a3); (try simp only [List.getElem?_cons_zero] at a3)
  have b0 := rowB.cell 0
  (try simp only [List.getElem?_cons_zero] at b0)
  have b1 := rowB.cell 1
  (try simp only [List.getElem?_cons_succ] at b1); (try simp only [List.getElem?_cons_zero] at b1)
  have b2 := rowB.cell 2
  (try simp only [List.getElem?_cons_succ] at b2); (try simp only [List.getElem?_cons_zero] at b2)
  have b3 := rowB.cell 3
  (try simp only [List.getElem?_cons_succ] at b3); (try simp only [List.getElem?_cons_zero] at b3)
  go_wp2_with fail
  go_fit HC.out
  rintro e w6 ⟨rfl, k⟩
  clear HC y0 y1 y2 y3 s0 s1 a0 a1 a2 a3 b0 b1 b2 b3
  (try replace rowH := rowH.keep k id)
  (try replace rowS := rowS.keep k id)
  (try replace rowA := rowA.keep k id)
  (try replace rowB := rowB.keep k id)
  replace kk := kk.trans k
  clear k
  have HC := Lib.hid (put_nil h _ w6 (HH _ kk))
  have y0 := rowH.cell 0
  (try simp only [List.getElem?_cons_zero] at y0)
  have y1 := rowH.cell 1
  (try simp only [List.getElem?_cons_succ] at y1); (try simp only [List.getElem?_cons_zero] at y1)
  have y2 := rowH.cell 2
  (try simp only [List.getElem?_cons_succ] at y2); (try simp only [List.getElem?_cons_zero] at y2)
  have y3 := rowH.cell 3
  (try simp only [List.getElem?_cons_succ] at y3); (try simp only [List.getElem?_cons_zero] at y3)
  have s0 := rowS.cell 0
  (try simp only [List.getElem?_cons_zero] at s0)
  have s1 := rowS.cell 1
  (try simp only [List.getElem?_cons_succ] at s1); (try simp only [List.getElem?_cons_zero] at s1)
  have a0 := rowA.cell 0
  (try simp only [List.getElem?_cons_zero] at a0)
  have a1 := rowA.cell 1
  (try simp only [List.getElem?_cons_succ] at a1); (try simp only [List.getElem?_cons_zero] at a1)
  have a2 := rowA.cell 2
  (try simp only [List.getElem?_cons_succ] at a2); (try simp only [List.getElem?_cons_zero] at a2)
  have a3 := rowA.cell 3
  (try simp only [List.getElem?_cons_succ] at a3); (try simp only [List.getElem?_cons_zero] at a3)
  have b0 := rowB.cell 0
  (try simp only [List.getElem?_cons_zero] at b0)
  have b1 := rowB.cell 1
  (try simp only [List.getElem?_cons_succ] at b1); (try simp only [List.getElem?_cons_zero] at b1)
  have b2 := rowB.cell 2
  (try simp only [List.getElem?_cons_succ] at b2); (try simp only [List.getElem?_cons_zero] at b2)
  have b3 := rowB.cell 3
  (try simp only [List.getElem?_cons_succ] at b3); (try simp only [List.getElem?_cons_zero] at b3)
  go_wp2_with fail
  go_fit HC.out
  rintro e w7 ⟨rfl, k⟩
  clear HC y0 y1 y2 y3 s0 s1 a0 a1 a2 a3 b0 b1 b2 b3
  (try replace rowH := rowH.keep k id)
  (try replace rowS := rowS.keep k id)
  (try replace rowA := rowA.keep k id)
  (try replace rowB := rowB.keep k id)
  replace kk := kk.trans k
  clear k
  have HC := Lib.hid (sHeld_c w7 (valO none) _ _ (zero_R _ (fun _ => True)) (zero_R _ (fun _ => True)))
  have y0 := rowH.cell 0
  (try simp only [List.getElem?_cons_zero] at y0)
  have y1 := rowH.cell 1
  (try simp only [List.getElem?_cons_succ] at y1); (try simp only [List.getElem?_cons_zero] at y1)
  have y2 := rowH.cell 2
  (try simp only [List.getElem?_cons_succ] at y2); (try simp only [List.getElem?_cons_zero] at y2)
  have y3 := rowH.cell 3
  (try simp only [List.getElem?_cons_succ] at y3); (try simp only [List.getElem?_cons_zero] at y3)
  have s0 := rowS.cell 0
  (try simp only [List.getElem?_cons_zero] at s0)
  have s1 := rowS.cell 1
  (try simp only [List.getElem?_cons_succ] at s1); (try simp only [List.getElem?_cons_zero] at s1)
  have a0 := rowA.cell 0
  (try simp only [List.getElem?_cons_zero] at a0)
  have a1 := rowA.cell 1
  (try simp only [List.getElem?_cons_succ] at a1); (try simp only [List.getElem?_cons_zero] at a1)
  have a2 := rowA.cell 2
  (try simp only [List.getElem?_cons_succ] at a2); (try simp only [List.getElem?_cons_zero] at a2)
  have a3 := rowA.cell 3
  (try simp only [List.getElem?_cons_succ] at a3); (try simp only [List.getElem?_cons_zero] at a3)
  have b0 := rowB.cell 0
  (try simp only [List.getElem?_cons_zero] at b0)
  have b1 := rowB.cell 1
  (try simp only [List.getElem?_cons_succ] at b1); (try simp only [List.getElem?_cons_zero] at b1)
  have b2 := rowB.cell 2
  (try simp only [List.getElem?_cons_succ] at b2); (try simp only [List.getElem?_cons_zero] at b2)
  have b3 := rowB.cell 3
  (try simp only [List.getElem?_cons_succ] at b3); (try simp only [List.getElem?_cons_zero] at b3)
  go_wp2_with fail
  go_fit HC.out
  rintro e w8 ⟨rfl, k⟩
  clear HC y0 y1 y2 y3 s0 s1 a0 a1 a2 a3 b0 b1 b2 b3
  (try replace rowH := rowH.keep k id)
  (try replace rowS := rowS.keep k id)
  (try replace rowA := rowA.keep k id)
  (try replace rowB := rowB.keep k id)
  replace kk := kk.trans k
  clear k
  have HC := Lib.hid (sHeld_c w8 (valO none) _ _ (zero_R _ (fun _ => True)) (zero_R _ (fun _ => True)))
  have y0 := rowH.cell 0
  (try simp only [List.getElem?_cons_zero] at y0)
  have y1 := rowH.cell 1
  (try simp only [List.getElem?_cons_succ] at y1); (try simp only [List.getElem?_cons_zero] at y1)
  have y2 := rowH.cell 2
  (try simp only [List.getElem?_cons_succ] at y2); (try simp only [List.getElem?_cons_zero] at y2)
  have y3 := rowH.cell 3
  (try simp only [List.getElem?_cons_succ] at y3); (try simp only [List.getElem?_cons_zero] at y3)
  have s0 := rowS.cell 0
  (try simp only [List.getElem?_cons_zero] at s0)
  have s1 := rowS.cell 1
  (try simp only [List.getElem?_cons_succ] at s1); (try simp only [List.getElem?_cons_zero] at s1)
  have a0 := rowA.cell 0
  (try simp only [List.getElem?_cons_zero] at a0)
  have a1 := rowA.cell 1
  (try simp only [List.getElem?_cons_succ] at a1); (try simp only [List.getElem?_cons_zero] at a1)
  have a2 := rowA.cell 2
  (try simp only [List.getElem?_cons_succ] at a2); (try simp only [List.getElem?_cons_zero] at a2)
  have a3 := rowA.cell 3
  (try simp only [List.getElem?_cons_succ] at a3); (try simp only [List.getElem?_cons_zero] at a3)
  have b0 := rowB.cell 0
  (try simp only [List.getElem?_cons_zero] at b0)
  have b1 := rowB.cell 1
  (try simp only [List.getElem?_cons_succ] at b1); (try simp only [List.getElem?_cons_zero] at b1)
  have b2 := rowB.cell 2
  (try simp only [List.getElem?_cons_succ] at b2); (try simp only [List.getElem?_cons_zero] at b2)
  have b3 := rowB.cell 3
  (try simp only [List.getElem?_cons_succ] at b3); (try simp only [List.getElem?_cons_zero] at b3)
  go_wp2_with fail
  go_fit HC.out
  rintro e w9 ⟨rfl, k⟩
  clear HC y0 y1 y2 y3 s0 s1 a0 a1 a2 a3 b0 b1 b2 b3
  (try replace rowH := rowH.keep k id)
  (try replace rowS := rowS.keep k id)
  (try replace rowA := rowA.keep k id)
  (try replace rowB := rowB.keep k id)
  replace kk := kk.trans k
  clear k
  have HC := Lib.hid (free_nil a l.length cp w9)
  have y0 := rowH.cell 0
  (try simp only [List.getElem?_cons_zero] at y0)
  have y1 := rowH.cell 1
  (try simp only [List.getElem?_cons_succ] at y1); (try simp only [List.getElem?_cons_zero] at y1)
  have y2 := rowH.cell 2
  (try simp only [List.getElem?_cons_succ] at y2); (try simp only [List.getElem?_cons_zero] at y2)
  have y3 := rowH.cell 3
  (try simp only [List.getElem?_cons_succ] at y3); (try simp only [List.getElem?_cons_zero] at y3)
  have s0 := rowS.cell 0
  (try simp only [List.getElem?_cons_zero] at s0)
  have s1 := rowS.cell 1
  (try simp only [List.getElem?_cons_succ] at s1); (try simp only [List.getElem?_cons_zero] at s1)
  have a0 := rowA.cell 0
  (try simp only [List.getElem?_cons_zero] at a0)
  have a1 := rowA.cell 1
  (try simp only [List.getElem?_cons_succ] at a1); (try simp only [List.getElem?_cons_zero] at a1)
  have a2 := rowA.cell 2
  (try simp only [List.getElem?_cons_succ] at a2); (try simp only [List.getElem?_cons_zero] at a2)
  have a3 := rowA.cell 3
  (try simp only [List.getElem?_cons_succ] at a3); (try simp only [List.getElem?_cons_zero] at a3)
  have b0 := rowB.cell 0
  (try simp only [List.getElem?_cons_zero] at b0)
  have b1 := rowB.cell 1
  (try simp only [List.getElem?_cons_succ] at b1); (try simp only [List.getElem?_cons_zero] at b1)
  have b2 := rowB.cell 2
  (try simp only [List.getElem?_cons_succ] at b2); (try simp only [List.getElem?_cons_zero] at b2)
  have b3 := rowB.cell 3
  (try simp only [List.getElem?_cons_succ] at b3); (try simp only [List.getElem?_cons_zero] at b3)
  go_wp2_with fail
  go_fit HC.out
  rintro e w10 ⟨rfl, k⟩
  clear HC y0 y1 y2 y3 s0 s1 a0 a1 a2 a3 b0 b1 b2 b3
  (try replace rowH := rowH.keep k id)
  (try replace rowS := rowS.keep k id)
  (try replace rowA := rowA.keep k id)
  (try replace rowB := rowB.keep k id)
  replace kk := kk.trans k
  clear k
  have HC := Lib.hid (clear_nil aF aT s.fFrom.length cF s.fTo.length cT w10)
  have y0 := rowH.cell 0
  (try simp only [List.getElem?_cons_zero] at y0)
  have y1 := rowH.cell 1
  (try simp only [List.getElem?_cons_succ] at y1); (try simp only [List.getElem?_cons_zero] at y1)
  have y2 := rowH.cell 2
  (try simp only [List.getElem?_cons_succ] at y2); (try simp only [List.getElem?_cons_zero] at y2)
  have y3 := rowH.cell 3
  (try simp only [List.getElem?_cons_succ] at y3); (try simp only [List.getElem?_cons_zero] at y3)
  have s0 := rowS.cell 0
  (try simp only [List.getElem?_cons_zero] at s0)
  have s1 := rowS.cell 1
  (try simp only [List.getElem?_cons_succ] at s1); (try simp only [List.getElem?_cons_zero] at s1)
  have a0 := rowA.cell 0
  (try simp only [List.getElem?_cons_zero] at a0)
  have a1 := rowA.cell 1
  (try simp only [List.getElem?_cons_succ] at a1); (try simp only [List.getElem?_cons_zero] at a1)
  have a2 := rowA.cell 2
  (try simp only [List.getElem?_cons_succ] at a2); (try simp only [List.getElem?_cons_zero] at a2)
  have a3 := rowA.cell 3
  (try simp only [List.getElem?_cons_succ] at a3); (try simp only [List.getElem?_cons_zero] at a3)
  have b0 := rowB.cell 0
  (try simp only [List.getElem?_cons_zero] at b0)
  have b1 := rowB.cell 1
  (try simp only [List.getElem?_cons_succ] at b1); (try simp only [List.getElem?_cons_zero] at b1)
  have b2 := rowB.cell 2
  (try simp only [List.getElem?_cons_succ] at b2); (try simp only [List.getElem?_cons_zero] at b2)
  have b3 := rowB.cell 3
  (try simp only [List.getElem?_cons_succ] at b3); (try simp only [List.getElem?_cons_zero] at b3)
  go_wp2_with fail
  go_fit HC.out
  rintro e w11 ⟨rfl, k⟩
  clear HC y0 y1 y2 y3 s0 s1 a0 a1 a2 a3 b0 b1 b2 b3
  (try replace rowH := rowH.keep k id)
  (try replace rowS := rowS.keep k id)
  (try replace rowA := rowA.keep k id)
  (try replace rowB := rowB.keep k id)
  replace kk := kk.trans k
  clear k
  have HC := Lib.hid (touches_nil aF aT s.fFrom.length cF s.fTo.length cT w11)
  have y0 := rowH.cell 0
  (try simp only [List.getElem?_cons_zero] at y0)
  have y1 := rowH.cell 1
  (try simp only [List.getElem?_cons_succ] at y1); (try simp only [List.getElem?_cons_zero] at y1)
  have y2 := rowH.cell 2
  (try simp only [List.getElem?_cons_succ] at y2); (try simp only [List.getElem?_cons_zero] at y2)
  have y3 := rowH.cell 3
  (try simp only [List.getElem?_cons_succ] at y3); (try simp only [List.getElem?_cons_zero] at y3)
  have s0 := rowS.cell 0
  (try simp only [List.getElem?_cons_zero] at s0)
  have s1 := rowS.cell 1
  (try simp only [List.getElem?_cons_succ] at s1); (try simp only [List.getElem?_cons_zero] at s1)
  have a0 := rowA.cell 0
  (try simp only [List.getElem?_cons_zero] at a0)
  have a1 := rowA.cell 1
  (try simp only [List.getElem?_cons_succ] at a1); (try simp only [List.getElem?_cons_zero] at a1)
  have a2 := rowA.cell 2
  (try simp only [List.getElem?_cons_succ] at a2); (try simp only [List.getElem?_cons_zero] at a2)
  have a3 := rowA.cell 3
  (try simp only [List.getElem?_cons_succ] at a3); (try simp only [List.getElem?_cons_zero] at a3)
  have b0 := rowB.cell 0
  (try simp only [List.getElem?_cons_zero] at b0)
  have b1 := rowB.cell 1
  (try simp only [List.getElem?_cons_succ] at b1); (try simp only [List.getElem?_cons_zero] at b1)
  have b2 := rowB.cell 2
  (try simp only [List.getElem?_cons_succ] at b2); (try simp only [List.getElem?_cons_zero] at b2)
  have b3 := rowB.cell 3
  (try simp only [List.getElem?_cons_succ] at b3); (try simp only [List.getElem?_cons_zero] at b3)
  go_wp2_with fail
  go_fit HC.out
  rintro e w12 ⟨rfl, k⟩
  clear HC y0 y1 y2 y3 s0 s1 a0 a1 a2 a3 b0 b1 b2 b3
  (try replace rowH := rowH.keep k id)
  (try replace rowS := rowS.keep k id)
  (try replace rowA := rowA.keep k id)
  (try replace rowB := rowB.keep k id)
  replace kk := kk.trans k
  clear k
  have HC := Lib.hid (txns_nil w12)
  go_wp2_with fail
  go_fit HC.out
  rintro e w13 ⟨rfl, rfl⟩
  have HC := Lib.hid (all_nil w12)
  go_wp2_with fail
  go_fit HC.out
  rintro e w13 ⟨rfl, k⟩
  replace kk := kk.trans k
  go_wp2_with fail
  go_ret
  exact ⟨rfl, kk⟩
theorem bytes_arg {m : Nat} {W : World} {v : Value} (h : Arg Try.prog W m 42 v) : ∃ (a : Option Addr) (cap : Nat) (l : List UInt8), v = .slice a l.length cap ∧ Lies W (· < W.heap.size) a (l.map bv) ∧ l.length ≤ cap ∧ l.length ≤ far := by
  obtain ⟨a, n, cap, rfl, k⟩ := h.slice Try.underlying42
  obtain ⟨l, ⟨a', c', e, h1⟩, -⟩ := Red.toBytes Try.underlying42 Try.underlying5 cells5 bytes5 k
  cases e
  exact ⟨_, _, l, rfl, h1⟩
theorem walk {m0 m1 m2 : Nat} (W : World) (v0 v1 v2 : Value) (h0 : Arg Try.prog W m0 28 v0) (h1 : Arg Try.prog W m1 42 v1) (h2 : Arg Try.prog W m2 46 v2) :
    Calls Try.prog 6 #[v0, v1, v2] W fun e w' => e = .returned (.bool true) ∧ Keep Nix W w' := by
  obtain ⟨csh, rfl, k⟩ := h0.struct Try.underlying28
  obtain ⟨h, hh, -⟩ := redGHeld k
  obtain ⟨a, cap, l, rfl, hl⟩ := bytes_arg h1
  obtain ⟨css, rfl, k⟩ := h2.struct Try.underlying46
  obtain ⟨s, hs, -⟩ := redGSpan k
  exact nil_walk W h csh a cap l s css hh hs
end lockNil
end Go.Proofs.Ytfagejfcibgigaa
