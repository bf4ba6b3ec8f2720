/- WHAT BYTES ARE TAKEN AS. Printed by gen10.py. -/
import Derived.Test.YtabgbleldbapbaaGreatInD
import Derived.Test.YtabgbleldbapbaaGreatInC
import Derived.Test.YtabgbleldbapbaaGreatTakA
namespace Go.Proofs.YtabgbleldbapbaaGreat
open Go.RowKit

theorem ldt_Command (a : Act) (dst : Option Tmp) (x : Operand) (ty : TypeId) (pos : String) (after : Array Edge) (guard : Option (Nat × Bool)) : execOp a.eval { dst := dst, op := .load 43 x, type := ty, pos := pos, after := after, guard := guard } = wholeSem 43 (a.eval x) := rfl
section
attribute [local go_sem ↓] ldt_Command st_Command
set_option maxRecDepth 100000 in
set_option maxHeartbeats 8000000 in
theorem iTakeCommand_c {p0 : Nat → Prop} (a : Option Addr) (n ca : Nat) (l : List UInt8) (w : World) (hn : l.length = n) (ha : Lies w p0 a (l.map bv)) (hr0 : n ≤ 140737488355328) :
    Calls Tryz.prog 10 #[.slice a n ca] w (Took rGCommand w (takeP pGCommand zGCommand l)) := by
  have rowR : RowIs (w.alloc (.cells #[.int .i64 0, .int .i64 0, .int .u64 0, .int .i64 0, .int .i64 0, .int .i64 0, .bool false, .slice none 0 0, .slice none 0 0, .slice none 0 0, .slice none 0 0, .slice none 0 0, .slice none 0 0, .int .i64 0, .string { data := #[] }, .slice none 0 0, .slice none 0 0, .int .i64 0, .int .i64 0, .string { data := #[] }, .slice none 0 0, .bool false, .int .i64 0, .bool false, .string { data := #[] }] 43)) w.heap.size 43 [.int .i64 0, .int .i64 0, .int .u64 0, .int .i64 0, .int .i64 0, .int .i64 0, .bool false, .slice none 0 0, .slice none 0 0, .slice none 0 0, .slice none 0 0, .slice none 0 0, .slice none 0 0, .int .i64 0, .string { data := #[] }, .slice none 0 0, .slice none 0 0, .int .i64 0, .int .i64 0, .string { data := #[] }, .slice none 0 0, .bool false, .int .i64 0, .bool false, .string { data := #[] }] := RowIs.alloc w _ _
  have ha1 := ha.keep ((Keep.refl Nix w).alloc (.cells #[.int .i64 0, .int .i64 0, .int .u64 0, .int .i64 0, .int .i64 0, .int .i64 0, .bool false, .slice none 0 0, .slice none 0 0, .slice none 0 0, .slice none 0 0, .slice none 0 0, .slice none 0 0, .int .i64 0, .string { data := #[] }, .slice none 0 0, .slice none 0 0, .int .i64 0, .int .i64 0, .string { data := #[] }, .slice none 0 0, .bool false, .int .i64 0, .bool false, .string { data := #[] }] 43)) (fun _ _ h => h)
  have HN := Lib.hid hn
  have kko : Keep Nix w (w.alloc (.cells #[.int .i64 0, .int .i64 0, .int .u64 0, .int .i64 0, .int .i64 0, .int .i64 0, .bool false, .slice none 0 0, .slice none 0 0, .slice none 0 0, .slice none 0 0, .slice none 0 0, .slice none 0 0, .int .i64 0, .string { data := #[] }, .slice none 0 0, .slice none 0 0, .int .i64 0, .int .i64 0, .string { data := #[] }, .slice none 0 0, .bool false, .int .i64 0, .bool false, .string { data := #[] }] 43)) := (Keep.refl Nix w).alloc _
  clear hn ha
  go_enter Tryz.func10, Tryz.ntmps10
  go_wp2_with fail
  go_fit (open_c a n ca l _ HN.out ha1 hr0)
  rintro e w0 ⟨x, rfl, hx, hr0', ko⟩
  have hx1 : w.heap.size < x := by simp at hx; omega
  replace rowR := rowR.keep ko id
  have hR0 := rowR.lt
  obtain ⟨p, hpl, hpn, hr⟩ : ∃ p : Nat → Prop, (∀ b, p b → b < w0.heap.size) ∧ (∀ b, p b → w.heap.size < b) ∧ IsIn w0 x p ⟨l, 0, 0, []⟩ := ⟨_, fun b hb => hb.2.1, fun b hb => by have := hb.1; simp at this; omega, hr0'⟩
  have hlt := hr.lt
  have kk : Keep (· = x) w0 w0 := Keep.refl _ _
  replace kko := kko.trans ko
  have hks := kko.size
  clear hr0' ko ha1 hx
  go_wp2_with fail
  go_fit (iint_g x p _ _ hr)
  rintro e w1 ⟨rfl, hr', k0⟩
  have wf0 : Hid ((Lit.int .i64 (pInt (⟨l, 0, 0, []⟩ : RdS)).1).wf = true) := zag_wf (numS_lt maxU _)
  generalize hy0 : pInt (⟨l, 0, 0, []⟩ : RdS) = y0 at hr' wf0 ⊢
  replace hy0 := Lib.hid hy0
  have rRl := rowR.lt
  have ks0 := k0.size
  replace rowR := rowR.keep k0 (by omega)
  have rRl1 := rowR.lt
  have hst0 := store_run (P := Tryz.prog) (cs := [.int .i64 y0.1, .int .i64 0, .int .u64 0, .int .i64 0, .int .i64 0, .int .i64 0, .bool false, .slice none 0 0, .slice none 0 0, .slice none 0 0, .slice none 0 0, .slice none 0 0, .slice none 0 0, .int .i64 0, .string { data := #[] }, .slice none 0 0, .slice none 0 0, .int .i64 0, .int .i64 0, .string { data := #[] }, .slice none 0 0, .bool false, .int .i64 0, .bool false, .string { data := #[] }]) S_Command (RowIs.alloc w1 #[.int .i64 0, .int .i64 0, .int .u64 0, .int .i64 0, .int .i64 0, .int .i64 0, .bool false, .slice none 0 0, .slice none 0 0, .slice none 0 0, .slice none 0 0, .slice none 0 0, .slice none 0 0, .int .i64 0, .string { data := #[] }, .slice none 0 0, .slice none 0 0, .int .i64 0, .int .i64 0, .string { data := #[] }, .slice none 0 0, .bool false, .int .i64 0, .bool false, .string { data := #[] }] 43) rfl rfl rfl
  have rowT := (RowIs.alloc w1 #[.int .i64 0, .int .i64 0, .int .u64 0, .int .i64 0, .int .i64 0, .int .i64 0, .bool false, .slice none 0 0, .slice none 0 0, .slice none 0 0, .slice none 0 0, .slice none 0 0, .slice none 0 0, .int .i64 0, .string { data := #[] }, .slice none 0 0, .slice none 0 0, .int .i64 0, .int .i64 0, .string { data := #[] }, .slice none 0 0, .bool false, .int .i64 0, .bool false, .string { data := #[] }] 43).setRow [.int .i64 y0.1, .int .i64 0, .int .u64 0, .int .i64 0, .int .i64 0, .int .i64 0, .bool false, .slice none 0 0, .slice none 0 0, .slice none 0 0, .slice none 0 0, .slice none 0 0, .slice none 0 0, .int .i64 0, .string { data := #[] }, .slice none 0 0, .slice none 0 0, .int .i64 0, .int .i64 0, .string { data := #[] }, .slice none 0 0, .bool false, .int .i64 0, .bool false, .string { data := #[] }]
  have kT := ((Keep.refl (· = w1.heap.size) w1).alloc (.cells #[.int .i64 0, .int .i64 0, .int .u64 0, .int .i64 0, .int .i64 0, .int .i64 0, .bool false, .slice none 0 0, .slice none 0 0, .slice none 0 0, .slice none 0 0, .slice none 0 0, .slice none 0 0, .int .i64 0, .string { data := #[] }, .slice none 0 0, .slice none 0 0, .int .i64 0, .int .i64 0, .string { data := #[] }, .slice none 0 0, .bool false, .int .i64 0, .bool false, .string { data := #[] }] 43)).setRow (fun _ => rfl) (#[.int .i64 y0.1, .int .i64 0, .int .u64 0, .int .i64 0, .int .i64 0, .int .i64 0, .bool false, .slice none 0 0, .slice none 0 0, .slice none 0 0, .slice none 0 0, .slice none 0 0, .slice none 0 0, .int .i64 0, .string { data := #[] }, .slice none 0 0, .slice none 0 0, .int .i64 0, .int .i64 0, .string { data := #[] }, .slice none 0 0, .bool false, .int .i64 0, .bool false, .string { data := #[] }] : Array Value)
  replace rowR := rowR.keep kT (by omega)
  have hr1 := hr'.lt
  have hxT : x < w1.heap.size := hr1
  replace hr := hr'.keep kT (by omega) (fun b hb e => by have := hpl b hb; omega)
  replace kk := (kk.trans k0).then kT (fun i hi e => by omega)
  clear hr' k0 kT hr1
  go_wp2_with fail
  clear hst0
  go_fit (iint_g x p _ _ hr)
  rintro e w2 ⟨rfl, hr', k1⟩
  have wf1 : Hid ((Lit.int .i64 (pInt y0.2).1).wf = true) := zag_wf (numS_lt maxU _)
  generalize hy1 : pInt y0.2 = y1 at hr' wf1 ⊢
  replace hy1 := Lib.hid hy1
  have rTl := rowT.lt
  replace rowT := rowT.keep k1 (by omega)
  replace rowR := rowR.keep k1 (by omega)
  have xc0 : w2.cell? ⟨w1.heap.size, 1, none⟩ = some (.int .i64 0) := rowT.cell 1
  have xf0 : w2.frozen? ⟨w1.heap.size, 1, none⟩ = false := rowT.frozen 1
  replace rowT := rowT.set 1 (.int .i64 y1.1)
  replace rowT : RowIs (w2.setCell ⟨w1.heap.size, 1, none⟩ (.int .i64 y1.1)) w1.heap.size 43 [.int .i64 y0.1, .int .i64 y1.1, .int .u64 0, .int .i64 0, .int .i64 0, .int .i64 0, .bool false, .slice none 0 0, .slice none 0 0, .slice none 0 0, .slice none 0 0, .slice none 0 0, .slice none 0 0, .int .i64 0, .string { data := #[] }, .slice none 0 0, .slice none 0 0, .int .i64 0, .int .i64 0, .string { data := #[] }, .slice none 0 0, .bool false, .int .i64 0, .bool false, .string { data := #[] }] := rowT
  have kT := (Keep.refl (· = w1.heap.size) w2).setCell (p := ⟨w1.heap.size, 1, none⟩) (fun _ => rfl) (.int .i64 y1.1)
  replace rowR := rowR.keep kT (by omega)
  replace hr := hr'.keep kT (by omega) (fun b hb e => by have := hpl b hb; omega)
  replace kk := (kk.trans k1).then kT (fun i hi e => by omega)
  clear hr' k1 kT rTl
  go_wp2_with fail
  clear xc0 xf0
  go_fit (inum_g x p _ _ hr)
  rintro e w3 ⟨rfl, hr', k2⟩
  have wf2 : Hid ((Lit.int .u64 (pNum y1.2).1).wf = true) := num_wf (numS_lt maxU _)
  generalize hy2 : pNum y1.2 = y2 at hr' wf2 ⊢
  replace hy2 := Lib.hid hy2
  have rTl := rowT.lt
  replace rowT := rowT.keep k2 (by omega)
  replace rowR := rowR.keep k2 (by omega)
  have xc0 : w3.cell? ⟨w1.heap.size, 2, none⟩ = some (.int .u64 0) := rowT.cell 2
  have xf0 : w3.frozen? ⟨w1.heap.size, 2, none⟩ = false := rowT.frozen 2
  replace rowT := rowT.set 2 (.int .u64 y2.1)
  replace rowT : RowIs (w3.setCell ⟨w1.heap.size, 2, none⟩ (.int .u64 y2.1)) w1.heap.size 43 [.int .i64 y0.1, .int .i64 y1.1, .int .u64 y2.1, .int .i64 0, .int .i64 0, .int .i64 0, .bool false, .slice none 0 0, .slice none 0 0, .slice none 0 0, .slice none 0 0, .slice none 0 0, .slice none 0 0, .int .i64 0, .string { data := #[] }, .slice none 0 0, .slice none 0 0, .int .i64 0, .int .i64 0, .string { data := #[] }, .slice none 0 0, .bool false, .int .i64 0, .bool false, .string { data := #[] }] := rowT
  have kT := (Keep.refl (· = w1.heap.size) w3).setCell (p := ⟨w1.heap.size, 2, none⟩) (fun _ => rfl) (.int .u64 y2.1)
  replace rowR := rowR.keep kT (by omega)
  replace hr := hr'.keep kT (by omega) (fun b hb e => by have := hpl b hb; omega)
  replace kk := (kk.trans k2).then kT (fun i hi e => by omega)
  clear hr' k2 kT rTl
  go_wp2_with fail
  clear xc0 xf0
  go_fit (iint_g x p _ _ hr)
  rintro e w4 ⟨rfl, hr', k3⟩
  have wf3 : Hid ((Lit.int .i64 (pInt y2.2).1).wf = true) := zag_wf (numS_lt maxU _)
  generalize hy3 : pInt y2.2 = y3 at hr' wf3 ⊢
  replace hy3 := Lib.hid hy3
  have rTl := rowT.lt
  replace rowT := rowT.keep k3 (by omega)
  replace rowR := rowR.keep k3 (by omega)
  have xc0 : w4.cell? ⟨w1.heap.size, 3, none⟩ = some (.int .i64 0) := rowT.cell 3
  have xf0 : w4.frozen? ⟨w1.heap.size, 3, none⟩ = false := rowT.frozen 3
  replace rowT := rowT.set 3 (.int .i64 y3.1)
  replace rowT : RowIs (w4.setCell ⟨w1.heap.size, 3, none⟩ (.int .i64 y3.1)) w1.heap.size 43 [.int .i64 y0.1, .int .i64 y1.1, .int .u64 y2.1, .int .i64 y3.1, .int .i64 0, .int .i64 0, .bool false, .slice none 0 0, .slice none 0 0, .slice none 0 0, .slice none 0 0, .slice none 0 0, .slice none 0 0, .int .i64 0, .string { data := #[] }, .slice none 0 0, .slice none 0 0, .int .i64 0, .int .i64 0, .string { data := #[] }, .slice none 0 0, .bool false, .int .i64 0, .bool false, .string { data := #[] }] := rowT
  have kT := (Keep.refl (· = w1.heap.size) w4).setCell (p := ⟨w1.heap.size, 3, none⟩) (fun _ => rfl) (.int .i64 y3.1)
  replace rowR := rowR.keep kT (by omega)
  replace hr := hr'.keep kT (by omega) (fun b hb e => by have := hpl b hb; omega)
  replace kk := (kk.trans k3).then kT (fun i hi e => by omega)
  clear hr' k3 kT rTl
  go_wp2_with fail
  clear xc0 xf0
  go_fit (iint_g x p _ _ hr)
  rintro e w5 ⟨rfl, hr', k4⟩
  have wf4 : Hid ((Lit.int .i64 (pInt y3.2).1).wf = true) := zag_wf (numS_lt maxU _)
  generalize hy4 : pInt y3.2 = y4 at hr' wf4 ⊢
  replace hy4 := Lib.hid hy4
  have rTl := rowT.lt
  replace rowT := rowT.keep k4 (by omega)
  replace rowR := rowR.keep k4 (by omega)
  have xc0 : w5.cell? ⟨w1.heap.size, 4, none⟩ = some (.int .i64 0) := rowT.cell 4
  have xf0 : w5.frozen? ⟨w1.heap.size, 4, none⟩ = false := rowT.frozen 4
  replace rowT := rowT.set 4 (.int .i64 y4.1)
  replace rowT : RowIs (w5.setCell ⟨w1.heap.size, 4, none⟩ (.int .i64 y4.1)) w1.heap.size 43 [.int .i64 y0.1, .int .i64 y1.1, .int .u64 y2.1, .int .i64 y3.1, .int .i64 y4.1, .int .i64 0, .bool false, .slice none 0 0, .slice none 0 0, .slice none 0 0, .slice none 0 0, .slice none 0 0, .slice none 0 0, .int .i64 0, .string { data := #[] }, .slice none 0 0, .slice none 0 0, .int .i64 0, .int .i64 0, .string { data := #[] }, .slice none 0 0, .bool false, .int .i64 0, .bool false, .string { data := #[] }] := rowT
  have kT := (Keep.refl (· = w1.heap.size) w5).setCell (p := ⟨w1.heap.size, 4, none⟩) (fun _ => rfl) (.int .i64 y4.1)
  replace rowR := rowR.keep kT (by omega)
  replace hr := hr'.keep kT (by omega) (fun b hb e => by have := hpl b hb; omega)
  replace kk := (kk.trans k4).then kT (fun i hi e => by omega)
  clear hr' k4 kT rTl
  go_wp2_with fail
  clear xc0 xf0
  go_fit (iint_g x p _ _ hr)
  rintro e w6 ⟨rfl, hr', k5⟩
  have wf5 : Hid ((Lit.int .i64 (pInt y4.2).1).wf = true) := zag_wf (numS_lt maxU _)
  generalize hy5 : pInt y4.2 = y5 at hr' wf5 ⊢
  replace hy5 := Lib.hid hy5
  have rTl := rowT.lt
  replace rowT := rowT.keep k5 (by omega)
  replace rowR := rowR.keep k5 (by omega)
  have xc0 : w6.cell? ⟨w1.heap.size, 5, none⟩ = some (.int .i64 0) := rowT.cell 5
  have xf0 : w6.frozen? ⟨w1.heap.size, 5, none⟩ = false := rowT.frozen 5
  replace rowT := rowT.set 5 (.int .i64 y5.1)
  replace rowT : RowIs (w6.setCell ⟨w1.heap.size, 5, none⟩ (.int .i64 y5.1)) w1.heap.size 43 [.int .i64 y0.1, .int .i64 y1.1, .int .u64 y2.1, .int .i64 y3.1, .int .i64 y4.1, .int .i64 y5.1, .bool false, .slice none 0 0, .slice none 0 0, .slice none 0 0, .slice none 0 0, .slice none 0 0, .slice none 0 0, .int .i64 0, .string { data := #[] }, .slice none 0 0, .slice none 0 0, .int .i64 0, .int .i64 0, .string { data := #[] }, .slice none 0 0, .bool false, .int .i64 0, .bool false, .string { data := #[] }] := rowT
  have kT := (Keep.refl (· = w1.heap.size) w6).setCell (p := ⟨w1.heap.size, 5, none⟩) (fun _ => rfl) (.int .i64 y5.1)
  replace rowR := rowR.keep kT (by omega)
  replace hr := hr'.keep kT (by omega) (fun b hb e => by have := hpl b hb; omega)
  replace kk := (kk.trans k5).then kT (fun i hi e => by omega)
  clear hr' k5 kT rTl
  go_wp2_with fail
  clear xc0 xf0
  go_fit (ibool_g x p _ _ hr)
  rintro e w7 ⟨rfl, hr', k6⟩
  generalize hy6 : pFlag y5.2 = y6 at hr' ⊢
  replace hy6 := Lib.hid hy6
  have rTl := rowT.lt
  replace rowT := rowT.keep k6 (by omega)
  replace rowR := rowR.keep k6 (by omega)
  have xc0 : w7.cell? ⟨w1.heap.size, 6, none⟩ = some (.bool false) := rowT.cell 6
  have xf0 : w7.frozen? ⟨w1.heap.size, 6, none⟩ = false := rowT.frozen 6
  replace rowT := rowT.set 6 (.bool y6.1)
  replace rowT : RowIs (w7.setCell ⟨w1.heap.size, 6, none⟩ (.bool y6.1)) w1.heap.size 43 [.int .i64 y0.1, .int .i64 y1.1, .int .u64 y2.1, .int .i64 y3.1, .int .i64 y4.1, .int .i64 y5.1, .bool y6.1, .slice none 0 0, .slice none 0 0, .slice none 0 0, .slice none 0 0, .slice none 0 0, .slice none 0 0, .int .i64 0, .string { data := #[] }, .slice none 0 0, .slice none 0 0, .int .i64 0, .int .i64 0, .string { data := #[] }, .slice none 0 0, .bool false, .int .i64 0, .bool false, .string { data := #[] }] := rowT
  have kT := (Keep.refl (· = w1.heap.size) w7).setCell (p := ⟨w1.heap.size, 6, none⟩) (fun _ => rfl) (.bool y6.1)
  replace rowR := rowR.keep kT (by omega)
  replace hr := hr'.keep kT (by omega) (fun b hb e => by have := hpl b hb; omega)
  replace kk := (kk.trans k6).then kT (fun i hi e => by omega)
  clear hr' k6 kT rTl
  go_wp2_with fail
  clear xc0 xf0
  go_fit (ibytes_g x p _ _ hr)
  rintro e w8 ⟨v, rfl, q7, hr', k7⟩
  generalize hy7 : pBytes y6.2 = y7 at hr' q7
  replace hy7 := Lib.hid hy7
  obtain ⟨a7, cc7, hv, q7'⟩ := rBytes_open q7
  simp only [List.cons.injEq, and_true] at hv
  subst hv
  clear q7
  have q7 := q7'
  clear q7'
  have rTl := rowT.lt
  replace rowT := rowT.keep k7 (by omega)
  replace rowR := rowR.keep k7 (by omega)
  replace q7 := rBytes_lawful.mono q7 (fun b hb => (⟨by have := hb.1; omega, hb.2, by have := hb.1; omega⟩ : NewBut w0.heap.size w1.heap.size w8 b))
  have xc0 : w8.cell? ⟨w1.heap.size, 7, none⟩ = some (.slice none 0 0) := rowT.cell 7
  have xf0 : w8.frozen? ⟨w1.heap.size, 7, none⟩ = false := rowT.frozen 7
  replace rowT := rowT.set 7 (.slice a7 y7.1.length cc7)
  replace rowT : RowIs (w8.setCell ⟨w1.heap.size, 7, none⟩ (.slice a7 y7.1.length cc7)) w1.heap.size 43 [.int .i64 y0.1, .int .i64 y1.1, .int .u64 y2.1, .int .i64 y3.1, .int .i64 y4.1, .int .i64 y5.1, .bool y6.1, .slice a7 y7.1.length cc7, .slice none 0 0, .slice none 0 0, .slice none 0 0, .slice none 0 0, .slice none 0 0, .int .i64 0, .string { data := #[] }, .slice none 0 0, .slice none 0 0, .int .i64 0, .int .i64 0, .string { data := #[] }, .slice none 0 0, .bool false, .int .i64 0, .bool false, .string { data := #[] }] := rowT
  have kT := (Keep.refl (· = w1.heap.size) w8).setCell (p := ⟨w1.heap.size, 7, none⟩) (fun _ => rfl) (.slice a7 y7.1.length cc7)
  replace rowR := rowR.keep kT (by omega)
  replace hr := hr'.keep kT (by omega) (fun b hb e => by have := hpl b hb; omega)
  replace kk := (kk.trans k7).then kT (fun i hi e => by omega)
  replace q7 := rBytes_lawful.mono (rBytes_lawful.keep q7 kT (fun b hb e => hb.2.2 e)) (fun b hb => (⟨hb.1, Nat.lt_of_lt_of_le hb.2.1 kT.size, hb.2.2⟩ : NewBut w0.heap.size w1.heap.size (w8.setCell ⟨w1.heap.size, 7, none⟩ (.slice a7 y7.1.length cc7)) b))
  clear hr' k7 kT rTl
  go_wp2_with fail
  clear xc0 xf0
  go_fit (iSpan_c x p _ _ hr (fun b hb => Nat.lt_of_lt_of_le (hpl b hb) kk.size))
  rintro e w9 ⟨c8, rfl, q8, -, hr', k8⟩
  generalize hy8 : pGSpan y7.2 = y8 at hr' q8
  replace hy8 := Lib.hid hy8
  obtain ⟨a_8_From, c_8_From, a_8_To, c_8_To, hce, -⟩ := rGSpan_open q8
  subst hce
  have rTl := rowT.lt
  replace rowT := rowT.keep k8 (by omega)
  replace rowR := rowR.keep k8 (by omega)
  replace q7 := rBytes_lawful.mono (rBytes_lawful.keep q7 k8 (fun b hb e => by have := hb.1; omega)) (fun b hb => (⟨hb.1, Nat.lt_of_lt_of_le hb.2.1 k8.size, hb.2.2⟩ : NewBut w0.heap.size w1.heap.size w9 b))
  replace q8 := rGSpan_lawful.mono q8 (fun b hb => (⟨by have := hb.1; omega, hb.2, by have := hb.1; omega⟩ : NewBut w0.heap.size w1.heap.size w9 b))
  have xc0 : w9.cell? ⟨w1.heap.size, 8, none⟩ = some (.slice none 0 0) := rowT.cell 8
  have xf0 : w9.frozen? ⟨w1.heap.size, 8, none⟩ = false := rowT.frozen 8
  have xc1 : w9.cell? ⟨w1.heap.size, 9, none⟩ = some (.slice none 0 0) := rowT.cell 9
  have xf1 : w9.frozen? ⟨w1.heap.size, 9, none⟩ = false := rowT.frozen 9
  replace rowT := rowT.set 8 (.slice a_8_From y8.1.fFrom.length c_8_From)
  replace rowT := rowT.set 9 (.slice a_8_To y8.1.fTo.length c_8_To)
  replace rowT : RowIs ((w9.setCell ⟨w1.heap.size, 8, none⟩ (.slice a_8_From y8.1.fFrom.length c_8_From)).setCell ⟨w1.heap.size, 9, none⟩ (.slice a_8_To y8.1.fTo.length c_8_To)) w1.heap.size 43 [.int .i64 y0.1, .int .i64 y1.1, .int .u64 y2.1, .int .i64 y3.1, .int .i64 y4.1, .int .i64 y5.1, .bool y6.1, .slice a7 y7.1.length cc7, .slice a_8_From y8.1.fFrom.length c_8_From, .slice a_8_To y8.1.fTo.length c_8_To, .slice none 0 0, .slice none 0 0, .slice none 0 0, .int .i64 0, .string { data := #[] }, .slice none 0 0, .slice none 0 0, .int .i64 0, .int .i64 0, .string { data := #[] }, .slice none 0 0, .bool false, .int .i64 0, .bool false, .string { data := #[] }] := rowT
  have kT := ((Keep.refl (· = w1.heap.size) w9).setCell (p := ⟨w1.heap.size, 8, none⟩) (fun _ => rfl) (.slice a_8_From y8.1.fFrom.length c_8_From)).setCell (p := ⟨w1.heap.size, 9, none⟩) (fun _ => rfl) (.slice a_8_To y8.1.fTo.length c_8_To)
  replace rowR := rowR.keep kT (by omega)
  replace hr := hr'.keep kT (by omega) (fun b hb e => by have := hpl b hb; omega)
  replace kk := (kk.trans k8).then kT (fun i hi e => by omega)
  replace q7 := rBytes_lawful.mono (rBytes_lawful.keep q7 kT (fun b hb e => hb.2.2 e)) (fun b hb => (⟨hb.1, Nat.lt_of_lt_of_le hb.2.1 kT.size, hb.2.2⟩ : NewBut w0.heap.size w1.heap.size ((w9.setCell ⟨w1.heap.size, 8, none⟩ (.slice a_8_From y8.1.fFrom.length c_8_From)).setCell ⟨w1.heap.size, 9, none⟩ (.slice a_8_To y8.1.fTo.length c_8_To)) b))
  replace q8 := rGSpan_lawful.mono (rGSpan_lawful.keep q8 kT (fun b hb e => hb.2.2 e)) (fun b hb => (⟨hb.1, Nat.lt_of_lt_of_le hb.2.1 kT.size, hb.2.2⟩ : NewBut w0.heap.size w1.heap.size ((w9.setCell ⟨w1.heap.size, 8, none⟩ (.slice a_8_From y8.1.fFrom.length c_8_From)).setCell ⟨w1.heap.size, 9, none⟩ (.slice a_8_To y8.1.fTo.length c_8_To)) b))
  clear hr' k8 kT rTl
  go_wp2_with fail
  clear xc0 xf0 xc1 xf1
  go_fit (ilPair_c x p _ _ hr (fun b hb => Nat.lt_of_lt_of_le (hpl b hb) kk.size))
  rintro e w10 ⟨v, rfl, q9, hr', k9⟩
  generalize hy9 : (pList pGPair) y8.2 = y9 at hr' q9
  replace hy9 := Lib.hid hy9
  obtain ⟨a9, cc9, hv, q9'⟩ := rList_open q9
  simp only [List.cons.injEq, and_true] at hv
  subst hv
  clear q9
  have q9 := q9'
  clear q9'
  have rTl := rowT.lt
  replace rowT := rowT.keep k9 (by omega)
  replace rowR := rowR.keep k9 (by omega)
  replace q7 := rBytes_lawful.mono (rBytes_lawful.keep q7 k9 (fun b hb e => by have := hb.1; omega)) (fun b hb => (⟨hb.1, Nat.lt_of_lt_of_le hb.2.1 k9.size, hb.2.2⟩ : NewBut w0.heap.size w1.heap.size w10 b))
  replace q8 := rGSpan_lawful.mono (rGSpan_lawful.keep q8 k9 (fun b hb e => by have := hb.1; omega)) (fun b hb => (⟨hb.1, Nat.lt_of_lt_of_le hb.2.1 k9.size, hb.2.2⟩ : NewBut w0.heap.size w1.heap.size w10 b))
  replace q9 := (rList_lawful rGPair_lawful).mono q9 (fun b hb => (⟨by have := hb.1; omega, hb.2, by have := hb.1; omega⟩ : NewBut w0.heap.size w1.heap.size w10 b))
  have xc0 : w10.cell? ⟨w1.heap.size, 10, none⟩ = some (.slice none 0 0) := rowT.cell 10
  have xf0 : w10.frozen? ⟨w1.heap.size, 10, none⟩ = false := rowT.frozen 10
  replace rowT := rowT.set 10 (.slice a9 y9.1.length cc9)
  replace rowT : RowIs (w10.setCell ⟨w1.heap.size, 10, none⟩ (.slice a9 y9.1.length cc9)) w1.heap.size 43 [.int .i64 y0.1, .int .i64 y1.1, .int .u64 y2.1, .int .i64 y3.1, .int .i64 y4.1, .int .i64 y5.1, .bool y6.1, .slice a7 y7.1.length cc7, .slice a_8_From y8.1.fFrom.length c_8_From, .slice a_8_To y8.1.fTo.length c_8_To, .slice a9 y9.1.length cc9, .slice none 0 0, .slice none 0 0, .int .i64 0, .string { data := #[] }, .slice none 0 0, .slice none 0 0, .int .i64 0, .int .i64 0, .string { data := #[] }, .slice none 0 0, .bool false, .int .i64 0, .bool false, .string { data := #[] }] := rowT
  have kT := (Keep.refl (· = w1.heap.size) w10).setCell (p := ⟨w1.heap.size, 10, none⟩) (fun _ => rfl) (.slice a9 y9.1.length cc9)
  replace rowR := rowR.keep kT (by omega)
  replace hr := hr'.keep kT (by omega) (fun b hb e => by have := hpl b hb; omega)
  replace kk := (kk.trans k9).then kT (fun i hi e => by omega)
  replace q7 := rBytes_lawful.mono (rBytes_lawful.keep q7 kT (fun b hb e => hb.2.2 e)) (fun b hb => (⟨hb.1, Nat.lt_of_lt_of_le hb.2.1 kT.size, hb.2.2⟩ : NewBut w0.heap.size w1.heap.size (w10.setCell ⟨w1.heap.size, 10, none⟩ (.slice a9 y9.1.length cc9)) b))
  replace q8 := rGSpan_lawful.mono (rGSpan_lawful.keep q8 kT (fun b hb e => hb.2.2 e)) (fun b hb => (⟨hb.1, Nat.lt_of_lt_of_le hb.2.1 kT.size, hb.2.2⟩ : NewBut w0.heap.size w1.heap.size (w10.setCell ⟨w1.heap.size, 10, none⟩ (.slice a9 y9.1.length cc9)) b))
  replace q9 := (rList_lawful rGPair_lawful).mono ((rList_lawful rGPair_lawful).keep q9 kT (fun b hb e => hb.2.2 e)) (fun b hb => (⟨hb.1, Nat.lt_of_lt_of_le hb.2.1 kT.size, hb.2.2⟩ : NewBut w0.heap.size w1.heap.size (w10.setCell ⟨w1.heap.size, 10, none⟩ (.slice a9 y9.1.length cc9)) b))
  clear hr' k9 kT rTl
  go_wp2_with fail
  clear xc0 xf0
  go_fit (ilSeen_c x p _ _ hr (fun b hb => Nat.lt_of_lt_of_le (hpl b hb) kk.size))
  rintro e w11 ⟨v, rfl, q10, hr', k10⟩
  generalize hy10 : (pList pGSeen) y9.2 = y10 at hr' q10
  replace hy10 := Lib.hid hy10
  obtain ⟨a10, cc10, hv, q10'⟩ := rList_open q10
  simp only [List.cons.injEq, and_true] at hv
  subst hv
  clear q10
  have q10 := q10'
  clear q10'
  have rTl := rowT.lt
  replace rowT := rowT.keep k10 (by omega)
  replace rowR := rowR.keep k10 (by omega)
  replace q7 := rBytes_lawful.mono (rBytes_lawful.keep q7 k10 (fun b hb e => by have := hb.1; omega)) (fun b hb => (⟨hb.1, Nat.lt_of_lt_of_le hb.2.1 k10.size, hb.2.2⟩ : NewBut w0.heap.size w1.heap.size w11 b))
  replace q8 := rGSpan_lawful.mono (rGSpan_lawful.keep q8 k10 (fun b hb e => by have := hb.1; omega)) (fun b hb => (⟨hb.1, Nat.lt_of_lt_of_le hb.2.1 k10.size, hb.2.2⟩ : NewBut w0.heap.size w1.heap.size w11 b))
  replace q9 := (rList_lawful rGPair_lawful).mono ((rList_lawful rGPair_lawful).keep q9 k10 (fun b hb e => by have := hb.1; omega)) (fun b hb => (⟨hb.1, Nat.lt_of_lt_of_le hb.2.1 k10.size, hb.2.2⟩ : NewBut w0.heap.size w1.heap.size w11 b))
  replace q10 := (rList_lawful rGSeen_lawful).mono q10 (fun b hb => (⟨by have := hb.1; omega, hb.2, by have := hb.1; omega⟩ : NewBut w0.heap.size w1.heap.size w11 b))
  have xc0 : w11.cell? ⟨w1.heap.size, 11, none⟩ = some (.slice none 0 0) := rowT.cell 11
  have xf0 : w11.frozen? ⟨w1.heap.size, 11, none⟩ = false := rowT.frozen 11
  replace rowT := rowT.set 11 (.slice a10 y10.1.length cc10)
  replace rowT : RowIs (w11.setCell ⟨w1.heap.size, 11, none⟩ (.slice a10 y10.1.length cc10)) w1.heap.size 43 [.int .i64 y0.1, .int .i64 y1.1, .int .u64 y2.1, .int .i64 y3.1, .int .i64 y4.1, .int .i64 y5.1, .bool y6.1, .slice a7 y7.1.length cc7, .slice a_8_From y8.1.fFrom.length c_8_From, .slice a_8_To y8.1.fTo.length c_8_To, .slice a9 y9.1.length cc9, .slice a10 y10.1.length cc10, .slice none 0 0, .int .i64 0, .string { data := #[] }, .slice none 0 0, .slice none 0 0, .int .i64 0, .int .i64 0, .string { data := #[] }, .slice none 0 0, .bool false, .int .i64 0, .bool false, .string { data := #[] }] := rowT
  have kT := (Keep.refl (· = w1.heap.size) w11).setCell (p := ⟨w1.heap.size, 11, none⟩) (fun _ => rfl) (.slice a10 y10.1.length cc10)
  replace rowR := rowR.keep kT (by omega)
  replace hr := hr'.keep kT (by omega) (fun b hb e => by have := hpl b hb; omega)
  replace kk := (kk.trans k10).then kT (fun i hi e => by omega)
  replace q7 := rBytes_lawful.mono (rBytes_lawful.keep q7 kT (fun b hb e => hb.2.2 e)) (fun b hb => (⟨hb.1, Nat.lt_of_lt_of_le hb.2.1 kT.size, hb.2.2⟩ : NewBut w0.heap.size w1.heap.size (w11.setCell ⟨w1.heap.size, 11, none⟩ (.slice a10 y10.1.length cc10)) b))
  replace q8 := rGSpan_lawful.mono (rGSpan_lawful.keep q8 kT (fun b hb e => hb.2.2 e)) (fun b hb => (⟨hb.1, Nat.lt_of_lt_of_le hb.2.1 kT.size, hb.2.2⟩ : NewBut w0.heap.size w1.heap.size (w11.setCell ⟨w1.heap.size, 11, none⟩ (.slice a10 y10.1.length cc10)) b))
  replace q9 := (rList_lawful rGPair_lawful).mono ((rList_lawful rGPair_lawful).keep q9 kT (fun b hb e => hb.2.2 e)) (fun b hb => (⟨hb.1, Nat.lt_of_lt_of_le hb.2.1 kT.size, hb.2.2⟩ : NewBut w0.heap.size w1.heap.size (w11.setCell ⟨w1.heap.size, 11, none⟩ (.slice a10 y10.1.length cc10)) b))
  replace q10 := (rList_lawful rGSeen_lawful).mono ((rList_lawful rGSeen_lawful).keep q10 kT (fun b hb e => hb.2.2 e)) (fun b hb => (⟨hb.1, Nat.lt_of_lt_of_le hb.2.1 kT.size, hb.2.2⟩ : NewBut w0.heap.size w1.heap.size (w11.setCell ⟨w1.heap.size, 11, none⟩ (.slice a10 y10.1.length cc10)) b))
  clear hr' k10 kT rTl
  go_wp2_with fail
  clear xc0 xf0
  go_fit (ilWrite_c x p _ _ hr (fun b hb => Nat.lt_of_lt_of_le (hpl b hb) kk.size))
  rintro e w12 ⟨v, rfl, q11, hr', k11⟩
  generalize hy11 : (pList pGWrite) y10.2 = y11 at hr' q11
  replace hy11 := Lib.hid hy11
  obtain ⟨a11, cc11, hv, q11'⟩ := rList_open q11
  simp only [List.cons.injEq, and_true] at hv
  subst hv
  clear q11
  have q11 := q11'
  clear q11'
  have rTl := rowT.lt
  replace rowT := rowT.keep k11 (by omega)
  replace rowR := rowR.keep k11 (by omega)
  replace q7 := rBytes_lawful.mono (rBytes_lawful.keep q7 k11 (fun b hb e => by have := hb.1; omega)) (fun b hb => (⟨hb.1, Nat.lt_of_lt_of_le hb.2.1 k11.size, hb.2.2⟩ : NewBut w0.heap.size w1.heap.size w12 b))
  replace q8 := rGSpan_lawful.mono (rGSpan_lawful.keep q8 k11 (fun b hb e => by have := hb.1; omega)) (fun b hb => (⟨hb.1, Nat.lt_of_lt_of_le hb.2.1 k11.size, hb.2.2⟩ : NewBut w0.heap.size w1.heap.size w12 b))
  replace q9 := (rList_lawful rGPair_lawful).mono ((rList_lawful rGPair_lawful).keep q9 k11 (fun b hb e => by have := hb.1; omega)) (fun b hb => (⟨hb.1, Nat.lt_of_lt_of_le hb.2.1 k11.size, hb.2.2⟩ : NewBut w0.heap.size w1.heap.size w12 b))
  replace q10 := (rList_lawful rGSeen_lawful).mono ((rList_lawful rGSeen_lawful).keep q10 k11 (fun b hb e => by have := hb.1; omega)) (fun b hb => (⟨hb.1, Nat.lt_of_lt_of_le hb.2.1 k11.size, hb.2.2⟩ : NewBut w0.heap.size w1.heap.size w12 b))
  replace q11 := (rList_lawful rGWrite_lawful).mono q11 (fun b hb => (⟨by have := hb.1; omega, hb.2, by have := hb.1; omega⟩ : NewBut w0.heap.size w1.heap.size w12 b))
  have xc0 : w12.cell? ⟨w1.heap.size, 12, none⟩ = some (.slice none 0 0) := rowT.cell 12
  have xf0 : w12.frozen? ⟨w1.heap.size, 12, none⟩ = false := rowT.frozen 12
  replace rowT := rowT.set 12 (.slice a11 y11.1.length cc11)
  replace rowT : RowIs (w12.setCell ⟨w1.heap.size, 12, none⟩ (.slice a11 y11.1.length cc11)) w1.heap.size 43 [.int .i64 y0.1, .int .i64 y1.1, .int .u64 y2.1, .int .i64 y3.1, .int .i64 y4.1, .int .i64 y5.1, .bool y6.1, .slice a7 y7.1.length cc7, .slice a_8_From y8.1.fFrom.length c_8_From, .slice a_8_To y8.1.fTo.length c_8_To, .slice a9 y9.1.length cc9, .slice a10 y10.1.length cc10, .slice a11 y11.1.length cc11, .int .i64 0, .string { data := #[] }, .slice none 0 0, .slice none 0 0, .int .i64 0, .int .i64 0, .string { data := #[] }, .slice none 0 0, .bool false, .int .i64 0, .bool false, .string { data := #[] }] := rowT
  have kT := (Keep.refl (· = w1.heap.size) w12).setCell (p := ⟨w1.heap.size, 12, none⟩) (fun _ => rfl) (.slice a11 y11.1.length cc11)
  replace rowR := rowR.keep kT (by omega)
  replace hr := hr'.keep kT (by omega) (fun b hb e => by have := hpl b hb; omega)
  replace kk := (kk.trans k11).then kT (fun i hi e => by omega)
  replace q7 := rBytes_lawful.mono (rBytes_lawful.keep q7 kT (fun b hb e => hb.2.2 e)) (fun b hb => (⟨hb.1, Nat.lt_of_lt_of_le hb.2.1 kT.size, hb.2.2⟩ : NewBut w0.heap.size w1.heap.size (w12.setCell ⟨w1.heap.size, 12, none⟩ (.slice a11 y11.1.length cc11)) b))
  replace q8 := rGSpan_lawful.mono (rGSpan_lawful.keep q8 kT (fun b hb e => hb.2.2 e)) (fun b hb => (⟨hb.1, Nat.lt_of_lt_of_le hb.2.1 kT.size, hb.2.2⟩ : NewBut w0.heap.size w1.heap.size (w12.setCell ⟨w1.heap.size, 12, none⟩ (.slice a11 y11.1.length cc11)) b))
  replace q9 := (rList_lawful rGPair_lawful).mono ((rList_lawful rGPair_lawful).keep q9 kT (fun b hb e => hb.2.2 e)) (fun b hb => (⟨hb.1, Nat.lt_of_lt_of_le hb.2.1 kT.size, hb.2.2⟩ : NewBut w0.heap.size w1.heap.size (w12.setCell ⟨w1.heap.size, 12, none⟩ (.slice a11 y11.1.length cc11)) b))
  replace q10 := (rList_lawful rGSeen_lawful).mono ((rList_lawful rGSeen_lawful).keep q10 kT (fun b hb e => hb.2.2 e)) (fun b hb => (⟨hb.1, Nat.lt_of_lt_of_le hb.2.1 kT.size, hb.2.2⟩ : NewBut w0.heap.size w1.heap.size (w12.setCell ⟨w1.heap.size, 12, none⟩ (.slice a11 y11.1.length cc11)) b))
  replace q11 := (rList_lawful rGWrite_lawful).mono ((rList_lawful rGWrite_lawful).keep q11 kT (fun b hb e => hb.2.2 e)) (fun b hb => (⟨hb.1, Nat.lt_of_lt_of_le hb.2.1 kT.size, hb.2.2⟩ : NewBut w0.heap.size w1.heap.size (w12.setCell ⟨w1.heap.size, 12, none⟩ (.slice a11 y11.1.length cc11)) b))
  clear hr' k11 kT rTl
  go_wp2_with fail
  clear xc0 xf0
  go_fit (iTable_c x p _ _ hr (fun b hb => Nat.lt_of_lt_of_le (hpl b hb) kk.size))
  rintro e w13 ⟨c12, rfl, q12, -, hr', k12⟩
  generalize hy12 : pGTable y11.2 = y12 at hr' q12
  replace hy12 := Lib.hid hy12
  obtain ⟨a_12_Columns, c_12_Columns, a_12_Key, c_12_Key, hce, -⟩ := rGTable_open q12
  subst hce
  have rTl := rowT.lt
  replace rowT := rowT.keep k12 (by omega)
  replace rowR := rowR.keep k12 (by omega)
  replace q7 := rBytes_lawful.mono (rBytes_lawful.keep q7 k12 (fun b hb e => by have := hb.1; omega)) (fun b hb => (⟨hb.1, Nat.lt_of_lt_of_le hb.2.1 k12.size, hb.2.2⟩ : NewBut w0.heap.size w1.heap.size w13 b))
  replace q8 := rGSpan_lawful.mono (rGSpan_lawful.keep q8 k12 (fun b hb e => by have := hb.1; omega)) (fun b hb => (⟨hb.1, Nat.lt_of_lt_of_le hb.2.1 k12.size, hb.2.2⟩ : NewBut w0.heap.size w1.heap.size w13 b))
  replace q9 := (rList_lawful rGPair_lawful).mono ((rList_lawful rGPair_lawful).keep q9 k12 (fun b hb e => by have := hb.1; omega)) (fun b hb => (⟨hb.1, Nat.lt_of_lt_of_le hb.2.1 k12.size, hb.2.2⟩ : NewBut w0.heap.size w1.heap.size w13 b))
  replace q10 := (rList_lawful rGSeen_lawful).mono ((rList_lawful rGSeen_lawful).keep q10 k12 (fun b hb e => by have := hb.1; omega)) (fun b hb => (⟨hb.1, Nat.lt_of_lt_of_le hb.2.1 k12.size, hb.2.2⟩ : NewBut w0.heap.size w1.heap.size w13 b))
  replace q11 := (rList_lawful rGWrite_lawful).mono ((rList_lawful rGWrite_lawful).keep q11 k12 (fun b hb e => by have := hb.1; omega)) (fun b hb => (⟨hb.1, Nat.lt_of_lt_of_le hb.2.1 k12.size, hb.2.2⟩ : NewBut w0.heap.size w1.heap.size w13 b))
  replace q12 := rGTable_lawful.mono q12 (fun b hb => (⟨by have := hb.1; omega, hb.2, by have := hb.1; omega⟩ : NewBut w0.heap.size w1.heap.size w13 b))
  have xc0 : w13.cell? ⟨w1.heap.size, 13, none⟩ = some (.int .i64 0) := rowT.cell 13
  have xf0 : w13.frozen? ⟨w1.heap.size, 13, none⟩ = false := rowT.frozen 13
  have xc1 : w13.cell? ⟨w1.heap.size, 14, none⟩ = some (.string { data := #[] }) := rowT.cell 14
  have xf1 : w13.frozen? ⟨w1.heap.size, 14, none⟩ = false := rowT.frozen 14
  have xc2 : w13.cell? ⟨w1.heap.size, 15, none⟩ = some (.slice none 0 0) := rowT.cell 15
  have xf2 : w13.frozen? ⟨w1.heap.size, 15, none⟩ = false := rowT.frozen 15
  have xc3 : w13.cell? ⟨w1.heap.size, 16, none⟩ = some (.slice none 0 0) := rowT.cell 16
  have xf3 : w13.frozen? ⟨w1.heap.size, 16, none⟩ = false := rowT.frozen 16
  replace rowT := rowT.set 13 (.int .i64 y12.1.fID)
  replace rowT := rowT.set 14 (.string (strB y12.1.fName))
  replace rowT := rowT.set 15 (.slice a_12_Columns y12.1.fColumns.length c_12_Columns)
  replace rowT := rowT.set 16 (.slice a_12_Key y12.1.fKey.length c_12_Key)
  replace rowT : RowIs ((((w13.setCell ⟨w1.heap.size, 13, none⟩ (.int .i64 y12.1.fID)).setCell ⟨w1.heap.size, 14, none⟩ (.string (strB y12.1.fName))).setCell ⟨w1.heap.size, 15, none⟩ (.slice a_12_Columns y12.1.fColumns.length c_12_Columns)).setCell ⟨w1.heap.size, 16, none⟩ (.slice a_12_Key y12.1.fKey.length c_12_Key)) w1.heap.size 43 [.int .i64 y0.1, .int .i64 y1.1, .int .u64 y2.1, .int .i64 y3.1, .int .i64 y4.1, .int .i64 y5.1, .bool y6.1, .slice a7 y7.1.length cc7, .slice a_8_From y8.1.fFrom.length c_8_From, .slice a_8_To y8.1.fTo.length c_8_To, .slice a9 y9.1.length cc9, .slice a10 y10.1.length cc10, .slice a11 y11.1.length cc11, .int .i64 y12.1.fID, .string (strB y12.1.fName), .slice a_12_Columns y12.1.fColumns.length c_12_Columns, .slice a_12_Key y12.1.fKey.length c_12_Key, .int .i64 0, .int .i64 0, .string { data := #[] }, .slice none 0 0, .bool false, .int .i64 0, .bool false, .string { data := #[] }] := rowT
  have kT := ((((Keep.refl (· = w1.heap.size) w13).setCell (p := ⟨w1.heap.size, 13, none⟩) (fun _ => rfl) (.int .i64 y12.1.fID)).setCell (p := ⟨w1.heap.size, 14, none⟩) (fun _ => rfl) (.string (strB y12.1.fName))).setCell (p := ⟨w1.heap.size, 15, none⟩) (fun _ => rfl) (.slice a_12_Columns y12.1.fColumns.length c_12_Columns)).setCell (p := ⟨w1.heap.size, 16, none⟩) (fun _ => rfl) (.slice a_12_Key y12.1.fKey.length c_12_Key)
  replace rowR := rowR.keep kT (by omega)
  replace hr := hr'.keep kT (by omega) (fun b hb e => by have := hpl b hb; omega)
  replace kk := (kk.trans k12).then kT (fun i hi e => by omega)
  replace q7 := rBytes_lawful.mono (rBytes_lawful.keep q7 kT (fun b hb e => hb.2.2 e)) (fun b hb => (⟨hb.1, Nat.lt_of_lt_of_le hb.2.1 kT.size, hb.2.2⟩ : NewBut w0.heap.size w1.heap.size ((((w13.setCell ⟨w1.heap.size, 13, none⟩ (.int .i64 y12.1.fID)).setCell ⟨w1.heap.size, 14, none⟩ (.string (strB y12.1.fName))).setCell ⟨w1.heap.size, 15, none⟩ (.slice a_12_Columns y12.1.fColumns.length c_12_Columns)).setCell ⟨w1.heap.size, 16, none⟩ (.slice a_12_Key y12.1.fKey.length c_12_Key)) b))
  replace q8 := rGSpan_lawful.mono (rGSpan_lawful.keep q8 kT (fun b hb e => hb.2.2 e)) (fun b hb => (⟨hb.1, Nat.lt_of_lt_of_le hb.2.1 kT.size, hb.2.2⟩ : NewBut w0.heap.size w1.heap.size ((((w13.setCell ⟨w1.heap.size, 13, none⟩ (.int .i64 y12.1.fID)).setCell ⟨w1.heap.size, 14, none⟩ (.string (strB y12.1.fName))).setCell ⟨w1.heap.size, 15, none⟩ (.slice a_12_Columns y12.1.fColumns.length c_12_Columns)).setCell ⟨w1.heap.size, 16, none⟩ (.slice a_12_Key y12.1.fKey.length c_12_Key)) b))
  replace q9 := (rList_lawful rGPair_lawful).mono ((rList_lawful rGPair_lawful).keep q9 kT (fun b hb e => hb.2.2 e)) (fun b hb => (⟨hb.1, Nat.lt_of_lt_of_le hb.2.1 kT.size, hb.2.2⟩ : NewBut w0.heap.size w1.heap.size ((((w13.setCell ⟨w1.heap.size, 13, none⟩ (.int .i64 y12.1.fID)).setCell ⟨w1.heap.size, 14, none⟩ (.string (strB y12.1.fName))).setCell ⟨w1.heap.size, 15, none⟩ (.slice a_12_Columns y12.1.fColumns.length c_12_Columns)).setCell ⟨w1.heap.size, 16, none⟩ (.slice a_12_Key y12.1.fKey.length c_12_Key)) b))
  replace q10 := (rList_lawful rGSeen_lawful).mono ((rList_lawful rGSeen_lawful).keep q10 kT (fun b hb e => hb.2.2 e)) (fun b hb => (⟨hb.1, Nat.lt_of_lt_of_le hb.2.1 kT.size, hb.2.2⟩ : NewBut w0.heap.size w1.heap.size ((((w13.setCell ⟨w1.heap.size, 13, none⟩ (.int .i64 y12.1.fID)).setCell ⟨w1.heap.size, 14, none⟩ (.string (strB y12.1.fName))).setCell ⟨w1.heap.size, 15, none⟩ (.slice a_12_Columns y12.1.fColumns.length c_12_Columns)).setCell ⟨w1.heap.size, 16, none⟩ (.slice a_12_Key y12.1.fKey.length c_12_Key)) b))
  replace q11 := (rList_lawful rGWrite_lawful).mono ((rList_lawful rGWrite_lawful).keep q11 kT (fun b hb e => hb.2.2 e)) (fun b hb => (⟨hb.1, Nat.lt_of_lt_of_le hb.2.1 kT.size, hb.2.2⟩ : NewBut w0.heap.size w1.heap.size ((((w13.setCell ⟨w1.heap.size, 13, none⟩ (.int .i64 y12.1.fID)).setCell ⟨w1.heap.size, 14, none⟩ (.string (strB y12.1.fName))).setCell ⟨w1.heap.size, 15, none⟩ (.slice a_12_Columns y12.1.fColumns.length c_12_Columns)).setCell ⟨w1.heap.size, 16, none⟩ (.slice a_12_Key y12.1.fKey.length c_12_Key)) b))
  replace q12 := rGTable_lawful.mono (rGTable_lawful.keep q12 kT (fun b hb e => hb.2.2 e)) (fun b hb => (⟨hb.1, Nat.lt_of_lt_of_le hb.2.1 kT.size, hb.2.2⟩ : NewBut w0.heap.size w1.heap.size ((((w13.setCell ⟨w1.heap.size, 13, none⟩ (.int .i64 y12.1.fID)).setCell ⟨w1.heap.size, 14, none⟩ (.string (strB y12.1.fName))).setCell ⟨w1.heap.size, 15, none⟩ (.slice a_12_Columns y12.1.fColumns.length c_12_Columns)).setCell ⟨w1.heap.size, 16, none⟩ (.slice a_12_Key y12.1.fKey.length c_12_Key)) b))
  clear hr' k12 kT rTl
  go_wp2_with fail
  clear xc0 xf0 xc1 xf1 xc2 xf2 xc3 xf3
  go_fit (iIndex_c x p _ _ hr (fun b hb => Nat.lt_of_lt_of_le (hpl b hb) kk.size))
  rintro e w14 ⟨c13, rfl, q13, -, hr', k13⟩
  generalize hy13 : pGIndex y12.2 = y13 at hr' q13
  replace hy13 := Lib.hid hy13
  obtain ⟨a_13_Columns, c_13_Columns, hce, -⟩ := rGIndex_open q13
  subst hce
  have rTl := rowT.lt
  replace rowT := rowT.keep k13 (by omega)
  replace rowR := rowR.keep k13 (by omega)
  replace q7 := rBytes_lawful.mono (rBytes_lawful.keep q7 k13 (fun b hb e => by have := hb.1; omega)) (fun b hb => (⟨hb.1, Nat.lt_of_lt_of_le hb.2.1 k13.size, hb.2.2⟩ : NewBut w0.heap.size w1.heap.size w14 b))
  replace q8 := rGSpan_lawful.mono (rGSpan_lawful.keep q8 k13 (fun b hb e => by have := hb.1; omega)) (fun b hb => (⟨hb.1, Nat.lt_of_lt_of_le hb.2.1 k13.size, hb.2.2⟩ : NewBut w0.heap.size w1.heap.size w14 b))
  replace q9 := (rList_lawful rGPair_lawful).mono ((rList_lawful rGPair_lawful).keep q9 k13 (fun b hb e => by have := hb.1; omega)) (fun b hb => (⟨hb.1, Nat.lt_of_lt_of_le hb.2.1 k13.size, hb.2.2⟩ : NewBut w0.heap.size w1.heap.size w14 b))
  replace q10 := (rList_lawful rGSeen_lawful).mono ((rList_lawful rGSeen_lawful).keep q10 k13 (fun b hb e => by have := hb.1; omega)) (fun b hb => (⟨hb.1, Nat.lt_of_lt_of_le hb.2.1 k13.size, hb.2.2⟩ : NewBut w0.heap.size w1.heap.size w14 b))
  replace q11 := (rList_lawful rGWrite_lawful).mono ((rList_lawful rGWrite_lawful).keep q11 k13 (fun b hb e => by have := hb.1; omega)) (fun b hb => (⟨hb.1, Nat.lt_of_lt_of_le hb.2.1 k13.size, hb.2.2⟩ : NewBut w0.heap.size w1.heap.size w14 b))
  replace q12 := rGTable_lawful.mono (rGTable_lawful.keep q12 k13 (fun b hb e => by have := hb.1; omega)) (fun b hb => (⟨hb.1, Nat.lt_of_lt_of_le hb.2.1 k13.size, hb.2.2⟩ : NewBut w0.heap.size w1.heap.size w14 b))
  replace q13 := rGIndex_lawful.mono q13 (fun b hb => (⟨by have := hb.1; omega, hb.2, by have := hb.1; omega⟩ : NewBut w0.heap.size w1.heap.size w14 b))
  have xc0 : w14.cell? ⟨w1.heap.size, 17, none⟩ = some (.int .i64 0) := rowT.cell 17
  have xf0 : w14.frozen? ⟨w1.heap.size, 17, none⟩ = false := rowT.frozen 17
  have xc1 : w14.cell? ⟨w1.heap.size, 18, none⟩ = some (.int .i64 0) := rowT.cell 18
  have xf1 : w14.frozen? ⟨w1.heap.size, 18, none⟩ = false := rowT.frozen 18
  have xc2 : w14.cell? ⟨w1.heap.size, 19, none⟩ = some (.string { data := #[] }) := rowT.cell 19
  have xf2 : w14.frozen? ⟨w1.heap.size, 19, none⟩ = false := rowT.frozen 19
  have xc3 : w14.cell? ⟨w1.heap.size, 20, none⟩ = some (.slice none 0 0) := rowT.cell 20
  have xf3 : w14.frozen? ⟨w1.heap.size, 20, none⟩ = false := rowT.frozen 20
  have xc4 : w14.cell? ⟨w1.heap.size, 21, none⟩ = some (.bool false) := rowT.cell 21
  have xf4 : w14.frozen? ⟨w1.heap.size, 21, none⟩ = false := rowT.frozen 21
  have xc5 : w14.cell? ⟨w1.heap.size, 22, none⟩ = some (.int .i64 0) := rowT.cell 22
  have xf5 : w14.frozen? ⟨w1.heap.size, 22, none⟩ = false := rowT.frozen 22
  have xc6 : w14.cell? ⟨w1.heap.size, 23, none⟩ = some (.bool false) := rowT.cell 23
  have xf6 : w14.frozen? ⟨w1.heap.size, 23, none⟩ = false := rowT.frozen 23
  replace rowT := rowT.set 17 (.int .i64 y13.1.fID)
  replace rowT := rowT.set 18 (.int .i64 y13.1.fTable)
  replace rowT := rowT.set 19 (.string (strB y13.1.fName))
  replace rowT := rowT.set 20 (.slice a_13_Columns y13.1.fColumns.length c_13_Columns)
  replace rowT := rowT.set 21 (.bool y13.1.fUnique)
  replace rowT := rowT.set 22 (.int .i64 y13.1.fState)
  replace rowT := rowT.set 23 (.bool y13.1.fBad)
  replace rowT : RowIs (((((((w14.setCell ⟨w1.heap.size, 17, none⟩ (.int .i64 y13.1.fID)).setCell ⟨w1.heap.size, 18, none⟩ (.int .i64 y13.1.fTable)).setCell ⟨w1.heap.size, 19, none⟩ (.string (strB y13.1.fName))).setCell ⟨w1.heap.size, 20, none⟩ (.slice a_13_Columns y13.1.fColumns.length c_13_Columns)).setCell ⟨w1.heap.size, 21, none⟩ (.bool y13.1.fUnique)).setCell ⟨w1.heap.size, 22, none⟩ (.int .i64 y13.1.fState)).setCell ⟨w1.heap.size, 23, none⟩ (.bool y13.1.fBad)) w1.heap.size 43 [.int .i64 y0.1, .int .i64 y1.1, .int .u64 y2.1, .int .i64 y3.1, .int .i64 y4.1, .int .i64 y5.1, .bool y6.1, .slice a7 y7.1.length cc7, .slice a_8_From y8.1.fFrom.length c_8_From, .slice a_8_To y8.1.fTo.length c_8_To, .slice a9 y9.1.length cc9, .slice a10 y10.1.length cc10, .slice a11 y11.1.length cc11, .int .i64 y12.1.fID, .string (strB y12.1.fName), .slice a_12_Columns y12.1.fColumns.length c_12_Columns, .slice a_12_Key y12.1.fKey.length c_12_Key, .int .i64 y13.1.fID, .int .i64 y13.1.fTable, .string (strB y13.1.fName), .slice a_13_Columns y13.1.fColumns.length c_13_Columns, .bool y13.1.fUnique, .int .i64 y13.1.fState, .bool y13.1.fBad, .string { data := #[] }] := rowT
  have kT := (((((((Keep.refl (· = w1.heap.size) w14).setCell (p := ⟨w1.heap.size, 17, none⟩) (fun _ => rfl) (.int .i64 y13.1.fID)).setCell (p := ⟨w1.heap.size, 18, none⟩) (fun _ => rfl) (.int .i64 y13.1.fTable)).setCell (p := ⟨w1.heap.size, 19, none⟩) (fun _ => rfl) (.string (strB y13.1.fName))).setCell (p := ⟨w1.heap.size, 20, none⟩) (fun _ => rfl) (.slice a_13_Columns y13.1.fColumns.length c_13_Columns)).setCell (p := ⟨w1.heap.size, 21, none⟩) (fun _ => rfl) (.bool y13.1.fUnique)).setCell (p := ⟨w1.heap.size, 22, none⟩) (fun _ => rfl) (.int .i64 y13.1.fState)).setCell (p := ⟨w1.heap.size, 23, none⟩) (fun _ => rfl) (.bool y13.1.fBad)
  replace rowR := rowR.keep kT (by omega)
  replace hr := hr'.keep kT (by omega) (fun b hb e => by have := hpl b hb; omega)
  replace kk := (kk.trans k13).then kT (fun i hi e => by omega)
  replace q7 := rBytes_lawful.mono (rBytes_lawful.keep q7 kT (fun b hb e => hb.2.2 e)) (fun b hb => (⟨hb.1, Nat.lt_of_lt_of_le hb.2.1 kT.size, hb.2.2⟩ : NewBut w0.heap.size w1.heap.size (((((((w14.setCell ⟨w1.heap.size, 17, none⟩ (.int .i64 y13.1.fID)).setCell ⟨w1.heap.size, 18, none⟩ (.int .i64 y13.1.fTable)).setCell ⟨w1.heap.size, 19, none⟩ (.string (strB y13.1.fName))).setCell ⟨w1.heap.size, 20, none⟩ (.slice a_13_Columns y13.1.fColumns.length c_13_Columns)).setCell ⟨w1.heap.size, 21, none⟩ (.bool y13.1.fUnique)).setCell ⟨w1.heap.size, 22, none⟩ (.int .i64 y13.1.fState)).setCell ⟨w1.heap.size, 23, none⟩ (.bool y13.1.fBad)) b))
  replace q8 := rGSpan_lawful.mono (rGSpan_lawful.keep q8 kT (fun b hb e => hb.2.2 e)) (fun b hb => (⟨hb.1, Nat.lt_of_lt_of_le hb.2.1 kT.size, hb.2.2⟩ : NewBut w0.heap.size w1.heap.size (((((((w14.setCell ⟨w1.heap.size, 17, none⟩ (.int .i64 y13.1.fID)).setCell ⟨w1.heap.size, 18, none⟩ (.int .i64 y13.1.fTable)).setCell ⟨w1.heap.size, 19, none⟩ (.string (strB y13.1.fName))).setCell ⟨w1.heap.size, 20, none⟩ (.slice a_13_Columns y13.1.fColumns.length c_13_Columns)).setCell ⟨w1.heap.size, 21, none⟩ (.bool y13.1.fUnique)).setCell ⟨w1.heap.size, 22, none⟩ (.int .i64 y13.1.fState)).setCell ⟨w1.heap.size, 23, none⟩ (.bool y13.1.fBad)) b))
  replace q9 := (rList_lawful rGPair_lawful).mono ((rList_lawful rGPair_lawful).keep q9 kT (fun b hb e => hb.2.2 e)) (fun b hb => (⟨hb.1, Nat.lt_of_lt_of_le hb.2.1 kT.size, hb.2.2⟩ : NewBut w0.heap.size w1.heap.size (((((((w14.setCell ⟨w1.heap.size, 17, none⟩ (.int .i64 y13.1.fID)).setCell ⟨w1.heap.size, 18, none⟩ (.int .i64 y13.1.fTable)).setCell ⟨w1.heap.size, 19, none⟩ (.string (strB y13.1.fName))).setCell ⟨w1.heap.size, 20, none⟩ (.slice a_13_Columns y13.1.fColumns.length c_13_Columns)).setCell ⟨w1.heap.size, 21, none⟩ (.bool y13.1.fUnique)).setCell ⟨w1.heap.size, 22, none⟩ (.int .i64 y13.1.fState)).setCell ⟨w1.heap.size, 23, none⟩ (.bool y13.1.fBad)) b))
  replace q10 := (rList_lawful rGSeen_lawful).mono ((rList_lawful rGSeen_lawful).keep q10 kT (fun b hb e => hb.2.2 e)) (fun b hb => (⟨hb.1, Nat.lt_of_lt_of_le hb.2.1 kT.size, hb.2.2⟩ : NewBut w0.heap.size w1.heap.size (((((((w14.setCell ⟨w1.heap.size, 17, none⟩ (.int .i64 y13.1.fID)).setCell ⟨w1.heap.size, 18, none⟩ (.int .i64 y13.1.fTable)).setCell ⟨w1.heap.size, 19, none⟩ (.string (strB y13.1.fName))).setCell ⟨w1.heap.size, 20, none⟩ (.slice a_13_Columns y13.1.fColumns.length c_13_Columns)).setCell ⟨w1.heap.size, 21, none⟩ (.bool y13.1.fUnique)).setCell ⟨w1.heap.size, 22, none⟩ (.int .i64 y13.1.fState)).setCell ⟨w1.heap.size, 23, none⟩ (.bool y13.1.fBad)) b))
  replace q11 := (rList_lawful rGWrite_lawful).mono ((rList_lawful rGWrite_lawful).keep q11 kT (fun b hb e => hb.2.2 e)) (fun b hb => (⟨hb.1, Nat.lt_of_lt_of_le hb.2.1 kT.size, hb.2.2⟩ : NewBut w0.heap.size w1.heap.size (((((((w14.setCell ⟨w1.heap.size, 17, none⟩ (.int .i64 y13.1.fID)).setCell ⟨w1.heap.size, 18, none⟩ (.int .i64 y13.1.fTable)).setCell ⟨w1.heap.size, 19, none⟩ (.string (strB y13.1.fName))).setCell ⟨w1.heap.size, 20, none⟩ (.slice a_13_Columns y13.1.fColumns.length c_13_Columns)).setCell ⟨w1.heap.size, 21, none⟩ (.bool y13.1.fUnique)).setCell ⟨w1.heap.size, 22, none⟩ (.int .i64 y13.1.fState)).setCell ⟨w1.heap.size, 23, none⟩ (.bool y13.1.fBad)) b))
  replace q12 := rGTable_lawful.mono (rGTable_lawful.keep q12 kT (fun b hb e => hb.2.2 e)) (fun b hb => (⟨hb.1, Nat.lt_of_lt_of_le hb.2.1 kT.size, hb.2.2⟩ : NewBut w0.heap.size w1.heap.size (((((((w14.setCell ⟨w1.heap.size, 17, none⟩ (.int .i64 y13.1.fID)).setCell ⟨w1.heap.size, 18, none⟩ (.int .i64 y13.1.fTable)).setCell ⟨w1.heap.size, 19, none⟩ (.string (strB y13.1.fName))).setCell ⟨w1.heap.size, 20, none⟩ (.slice a_13_Columns y13.1.fColumns.length c_13_Columns)).setCell ⟨w1.heap.size, 21, none⟩ (.bool y13.1.fUnique)).setCell ⟨w1.heap.size, 22, none⟩ (.int .i64 y13.1.fState)).setCell ⟨w1.heap.size, 23, none⟩ (.bool y13.1.fBad)) b))
  replace q13 := rGIndex_lawful.mono (rGIndex_lawful.keep q13 kT (fun b hb e => hb.2.2 e)) (fun b hb => (⟨hb.1, Nat.lt_of_lt_of_le hb.2.1 kT.size, hb.2.2⟩ : NewBut w0.heap.size w1.heap.size (((((((w14.setCell ⟨w1.heap.size, 17, none⟩ (.int .i64 y13.1.fID)).setCell ⟨w1.heap.size, 18, none⟩ (.int .i64 y13.1.fTable)).setCell ⟨w1.heap.size, 19, none⟩ (.string (strB y13.1.fName))).setCell ⟨w1.heap.size, 20, none⟩ (.slice a_13_Columns y13.1.fColumns.length c_13_Columns)).setCell ⟨w1.heap.size, 21, none⟩ (.bool y13.1.fUnique)).setCell ⟨w1.heap.size, 22, none⟩ (.int .i64 y13.1.fState)).setCell ⟨w1.heap.size, 23, none⟩ (.bool y13.1.fBad)) b))
  clear hr' k13 kT rTl
  go_wp2_with fail
  clear xc0 xf0 xc1 xf1 xc2 xf2 xc3 xf3 xc4 xf4 xc5 xf5 xc6 xf6
  go_fit (itext_g x p _ _ hr)
  rintro e w15 ⟨rfl, hr', k14⟩
  have wf14 : Hid ((pBytes y13.2).1.length ≤ far) := Nat.le_trans (textS_len 65536 _) (by decide)
  generalize hy14 : pBytes y13.2 = y14 at hr' wf14 ⊢
  replace hy14 := Lib.hid hy14
  have rTl := rowT.lt
  replace rowT := rowT.keep k14 (by omega)
  replace rowR := rowR.keep k14 (by omega)
  replace q7 := rBytes_lawful.mono (rBytes_lawful.keep q7 k14 (fun b hb e => by have := hb.1; omega)) (fun b hb => (⟨hb.1, Nat.lt_of_lt_of_le hb.2.1 k14.size, hb.2.2⟩ : NewBut w0.heap.size w1.heap.size w15 b))
  replace q8 := rGSpan_lawful.mono (rGSpan_lawful.keep q8 k14 (fun b hb e => by have := hb.1; omega)) (fun b hb => (⟨hb.1, Nat.lt_of_lt_of_le hb.2.1 k14.size, hb.2.2⟩ : NewBut w0.heap.size w1.heap.size w15 b))
  replace q9 := (rList_lawful rGPair_lawful).mono ((rList_lawful rGPair_lawful).keep q9 k14 (fun b hb e => by have := hb.1; omega)) (fun b hb => (⟨hb.1, Nat.lt_of_lt_of_le hb.2.1 k14.size, hb.2.2⟩ : NewBut w0.heap.size w1.heap.size w15 b))
  replace q10 := (rList_lawful rGSeen_lawful).mono ((rList_lawful rGSeen_lawful).keep q10 k14 (fun b hb e => by have := hb.1; omega)) (fun b hb => (⟨hb.1, Nat.lt_of_lt_of_le hb.2.1 k14.size, hb.2.2⟩ : NewBut w0.heap.size w1.heap.size w15 b))
  replace q11 := (rList_lawful rGWrite_lawful).mono ((rList_lawful rGWrite_lawful).keep q11 k14 (fun b hb e => by have := hb.1; omega)) (fun b hb => (⟨hb.1, Nat.lt_of_lt_of_le hb.2.1 k14.size, hb.2.2⟩ : NewBut w0.heap.size w1.heap.size w15 b))
  replace q12 := rGTable_lawful.mono (rGTable_lawful.keep q12 k14 (fun b hb e => by have := hb.1; omega)) (fun b hb => (⟨hb.1, Nat.lt_of_lt_of_le hb.2.1 k14.size, hb.2.2⟩ : NewBut w0.heap.size w1.heap.size w15 b))
  replace q13 := rGIndex_lawful.mono (rGIndex_lawful.keep q13 k14 (fun b hb e => by have := hb.1; omega)) (fun b hb => (⟨hb.1, Nat.lt_of_lt_of_le hb.2.1 k14.size, hb.2.2⟩ : NewBut w0.heap.size w1.heap.size w15 b))
  have xc0 : w15.cell? ⟨w1.heap.size, 24, none⟩ = some (.string { data := #[] }) := rowT.cell 24
  have xf0 : w15.frozen? ⟨w1.heap.size, 24, none⟩ = false := rowT.frozen 24
  replace rowT := rowT.set 24 (.string (strB y14.1))
  replace rowT : RowIs (w15.setCell ⟨w1.heap.size, 24, none⟩ (.string (strB y14.1))) w1.heap.size 43 [.int .i64 y0.1, .int .i64 y1.1, .int .u64 y2.1, .int .i64 y3.1, .int .i64 y4.1, .int .i64 y5.1, .bool y6.1, .slice a7 y7.1.length cc7, .slice a_8_From y8.1.fFrom.length c_8_From, .slice a_8_To y8.1.fTo.length c_8_To, .slice a9 y9.1.length cc9, .slice a10 y10.1.length cc10, .slice a11 y11.1.length cc11, .int .i64 y12.1.fID, .string (strB y12.1.fName), .slice a_12_Columns y12.1.fColumns.length c_12_Columns, .slice a_12_Key y12.1.fKey.length c_12_Key, .int .i64 y13.1.fID, .int .i64 y13.1.fTable, .string (strB y13.1.fName), .slice a_13_Columns y13.1.fColumns.length c_13_Columns, .bool y13.1.fUnique, .int .i64 y13.1.fState, .bool y13.1.fBad, .string (strB y14.1)] := rowT
  have kT := (Keep.refl (· = w1.heap.size) w15).setCell (p := ⟨w1.heap.size, 24, none⟩) (fun _ => rfl) (.string (strB y14.1))
  replace rowR := rowR.keep kT (by omega)
  replace hr := hr'.keep kT (by omega) (fun b hb e => by have := hpl b hb; omega)
  replace kk := (kk.trans k14).then kT (fun i hi e => by omega)
  replace q7 := rBytes_lawful.mono (rBytes_lawful.keep q7 kT (fun b hb e => hb.2.2 e)) (fun b hb => (⟨hb.1, Nat.lt_of_lt_of_le hb.2.1 kT.size, hb.2.2⟩ : NewBut w0.heap.size w1.heap.size (w15.setCell ⟨w1.heap.size, 24, none⟩ (.string (strB y14.1))) b))
  replace q8 := rGSpan_lawful.mono (rGSpan_lawful.keep q8 kT (fun b hb e => hb.2.2 e)) (fun b hb => (⟨hb.1, Nat.lt_of_lt_of_le hb.2.1 kT.size, hb.2.2⟩ : NewBut w0.heap.size w1.heap.size (w15.setCell ⟨w1.heap.size, 24, none⟩ (.string (strB y14.1))) b))
  replace q9 := (rList_lawful rGPair_lawful).mono ((rList_lawful rGPair_lawful).keep q9 kT (fun b hb e => hb.2.2 e)) (fun b hb => (⟨hb.1, Nat.lt_of_lt_of_le hb.2.1 kT.size, hb.2.2⟩ : NewBut w0.heap.size w1.heap.size (w15.setCell ⟨w1.heap.size, 24, none⟩ (.string (strB y14.1))) b))
  replace q10 := (rList_lawful rGSeen_lawful).mono ((rList_lawful rGSeen_lawful).keep q10 kT (fun b hb e => hb.2.2 e)) (fun b hb => (⟨hb.1, Nat.lt_of_lt_of_le hb.2.1 kT.size, hb.2.2⟩ : NewBut w0.heap.size w1.heap.size (w15.setCell ⟨w1.heap.size, 24, none⟩ (.string (strB y14.1))) b))
  replace q11 := (rList_lawful rGWrite_lawful).mono ((rList_lawful rGWrite_lawful).keep q11 kT (fun b hb e => hb.2.2 e)) (fun b hb => (⟨hb.1, Nat.lt_of_lt_of_le hb.2.1 kT.size, hb.2.2⟩ : NewBut w0.heap.size w1.heap.size (w15.setCell ⟨w1.heap.size, 24, none⟩ (.string (strB y14.1))) b))
  replace q12 := rGTable_lawful.mono (rGTable_lawful.keep q12 kT (fun b hb e => hb.2.2 e)) (fun b hb => (⟨hb.1, Nat.lt_of_lt_of_le hb.2.1 kT.size, hb.2.2⟩ : NewBut w0.heap.size w1.heap.size (w15.setCell ⟨w1.heap.size, 24, none⟩ (.string (strB y14.1))) b))
  replace q13 := rGIndex_lawful.mono (rGIndex_lawful.keep q13 kT (fun b hb e => hb.2.2 e)) (fun b hb => (⟨hb.1, Nat.lt_of_lt_of_le hb.2.1 kT.size, hb.2.2⟩ : NewBut w0.heap.size w1.heap.size (w15.setCell ⟨w1.heap.size, 24, none⟩ (.string (strB y14.1))) b))
  clear hr' k14 kT rTl
  go_wp2_with fail
  clear xc0 xf0
  have HE : Hid (pGCommand ⟨l, 0, 0, []⟩ = (⟨y0.1, y1.1, y2.1, y3.1, y4.1, y5.1, y6.1, y7.1, y8.1, y9.1, y10.1, y11.1, y12.1, y13.1, y14.1⟩, y14.2)) := by show _ = _; simp only [pGCommand, hy0.out, hy1.out, hy2.out, hy3.out, hy4.out, hy5.out, hy6.out, hy7.out, hy8.out, hy9.out, hy10.out, hy11.out, hy12.out, hy13.out, hy14.out]
  go_fit (iend_c x p _ _ hr)
  rintro e wE ⟨rfl, kE⟩
  replace rowT := rowT.keep kE id
  replace rowR := rowR.keep kE id
  replace q7 := rBytes_lawful.mono (rBytes_lawful.nix q7 kE) (fun b hb => (⟨hb.1, Nat.lt_of_lt_of_le hb.2.1 kE.size, hb.2.2⟩ : NewBut w0.heap.size w1.heap.size wE b))
  replace q8 := rGSpan_lawful.mono (rGSpan_lawful.nix q8 kE) (fun b hb => (⟨hb.1, Nat.lt_of_lt_of_le hb.2.1 kE.size, hb.2.2⟩ : NewBut w0.heap.size w1.heap.size wE b))
  replace q9 := (rList_lawful rGPair_lawful).mono ((rList_lawful rGPair_lawful).nix q9 kE) (fun b hb => (⟨hb.1, Nat.lt_of_lt_of_le hb.2.1 kE.size, hb.2.2⟩ : NewBut w0.heap.size w1.heap.size wE b))
  replace q10 := (rList_lawful rGSeen_lawful).mono ((rList_lawful rGSeen_lawful).nix q10 kE) (fun b hb => (⟨hb.1, Nat.lt_of_lt_of_le hb.2.1 kE.size, hb.2.2⟩ : NewBut w0.heap.size w1.heap.size wE b))
  replace q11 := (rList_lawful rGWrite_lawful).mono ((rList_lawful rGWrite_lawful).nix q11 kE) (fun b hb => (⟨hb.1, Nat.lt_of_lt_of_le hb.2.1 kE.size, hb.2.2⟩ : NewBut w0.heap.size w1.heap.size wE b))
  replace q12 := rGTable_lawful.mono (rGTable_lawful.nix q12 kE) (fun b hb => (⟨hb.1, Nat.lt_of_lt_of_le hb.2.1 kE.size, hb.2.2⟩ : NewBut w0.heap.size w1.heap.size wE b))
  replace q13 := rGIndex_lawful.mono (rGIndex_lawful.nix q13 kE) (fun b hb => (⟨hb.1, Nat.lt_of_lt_of_le hb.2.1 kE.size, hb.2.2⟩ : NewBut w0.heap.size w1.heap.size wE b))
  have kk3 : Keep Nix w wE := kko.then (kk.trans kE.nix) (fun i hi e => by omega)
  have kEs := kE.size
  have hTl := rowT.lt
  clear kE hr kk
  rcases test_eq (endS y14.2) 0 with ⟨t, he⟩ | ⟨t, he⟩
  · have t' : (endS y14.2 != 0) = false := by simp [he.out]
    have hld : (wholeSem 43 (.pointer (some ⟨w1.heap.size, 0, none⟩))).run Tryz.prog wE = .ok (.value (.agg #[.int .i64 y0.1, .int .i64 y1.1, .int .u64 y2.1, .int .i64 y3.1, .int .i64 y4.1, .int .i64 y5.1, .bool y6.1, .slice a7 y7.1.length cc7, .slice a_8_From y8.1.fFrom.length c_8_From, .slice a_8_To y8.1.fTo.length c_8_To, .slice a9 y9.1.length cc9, .slice a10 y10.1.length cc10, .slice a11 y11.1.length cc11, .int .i64 y12.1.fID, .string (strB y12.1.fName), .slice a_12_Columns y12.1.fColumns.length c_12_Columns, .slice a_12_Key y12.1.fKey.length c_12_Key, .int .i64 y13.1.fID, .int .i64 y13.1.fTable, .string (strB y13.1.fName), .slice a_13_Columns y13.1.fColumns.length c_13_Columns, .bool y13.1.fUnique, .int .i64 y13.1.fState, .bool y13.1.fBad, .string (strB y14.1)])) wE := Whole.row S_Command rfl rowT
    have hst := store_run (P := Tryz.prog) (cs := [.int .i64 y0.1, .int .i64 y1.1, .int .u64 y2.1, .int .i64 y3.1, .int .i64 y4.1, .int .i64 y5.1, .bool y6.1, .slice a7 y7.1.length cc7, .slice a_8_From y8.1.fFrom.length c_8_From, .slice a_8_To y8.1.fTo.length c_8_To, .slice a9 y9.1.length cc9, .slice a10 y10.1.length cc10, .slice a11 y11.1.length cc11, .int .i64 y12.1.fID, .string (strB y12.1.fName), .slice a_12_Columns y12.1.fColumns.length c_12_Columns, .slice a_12_Key y12.1.fKey.length c_12_Key, .int .i64 y13.1.fID, .int .i64 y13.1.fTable, .string (strB y13.1.fName), .slice a_13_Columns y13.1.fColumns.length c_13_Columns, .bool y13.1.fUnique, .int .i64 y13.1.fState, .bool y13.1.fBad, .string (strB y14.1)]) S_Command rowR rfl rfl rfl
    have rowF := rowR.setRow [.int .i64 y0.1, .int .i64 y1.1, .int .u64 y2.1, .int .i64 y3.1, .int .i64 y4.1, .int .i64 y5.1, .bool y6.1, .slice a7 y7.1.length cc7, .slice a_8_From y8.1.fFrom.length c_8_From, .slice a_8_To y8.1.fTo.length c_8_To, .slice a9 y9.1.length cc9, .slice a10 y10.1.length cc10, .slice a11 y11.1.length cc11, .int .i64 y12.1.fID, .string (strB y12.1.fName), .slice a_12_Columns y12.1.fColumns.length c_12_Columns, .slice a_12_Key y12.1.fKey.length c_12_Key, .int .i64 y13.1.fID, .int .i64 y13.1.fTable, .string (strB y13.1.fName), .slice a_13_Columns y13.1.fColumns.length c_13_Columns, .bool y13.1.fUnique, .int .i64 y13.1.fState, .bool y13.1.fBad, .string (strB y14.1)]
    have kS := (Keep.refl (· = w.heap.size) wE).setRow (fun _ => rfl) (#[.int .i64 y0.1, .int .i64 y1.1, .int .u64 y2.1, .int .i64 y3.1, .int .i64 y4.1, .int .i64 y5.1, .bool y6.1, .slice a7 y7.1.length cc7, .slice a_8_From y8.1.fFrom.length c_8_From, .slice a_8_To y8.1.fTo.length c_8_To, .slice a9 y9.1.length cc9, .slice a10 y10.1.length cc10, .slice a11 y11.1.length cc11, .int .i64 y12.1.fID, .string (strB y12.1.fName), .slice a_12_Columns y12.1.fColumns.length c_12_Columns, .slice a_12_Key y12.1.fKey.length c_12_Key, .int .i64 y13.1.fID, .int .i64 y13.1.fTable, .string (strB y13.1.fName), .slice a_13_Columns y13.1.fColumns.length c_13_Columns, .bool y13.1.fUnique, .int .i64 y13.1.fState, .bool y13.1.fBad, .string (strB y14.1)] : Array Value)
    clear rowT
    go_wp2_with fail
    refine bodyPost_ret (results_cell_row2 (by rfl) _ _ _ _ _ _ _ (by rfl) rowF Tryz.underlying43 (by rfl) S_Command.info) rfl ?_
    unfold takeP
    rw [HE.out, endP_ok (y := ((⟨y0.1, y1.1, y2.1, y3.1, y4.1, y5.1, y6.1, y7.1, y8.1, y9.1, y10.1, y11.1, y12.1, y13.1, y14.1⟩ : GCommand), y14.2)) he.out]
    replace q7 := rBytes_lawful.mono (rBytes_lawful.keep q7 kS (fun b hb e => by have := hb.1; omega)) (fun b hb => (⟨by have := hb.1; omega, Nat.lt_of_lt_of_le hb.2.1 kS.size⟩ : NewIn w (wE.setRow w.heap.size #[.int .i64 y0.1, .int .i64 y1.1, .int .u64 y2.1, .int .i64 y3.1, .int .i64 y4.1, .int .i64 y5.1, .bool y6.1, .slice a7 y7.1.length cc7, .slice a_8_From y8.1.fFrom.length c_8_From, .slice a_8_To y8.1.fTo.length c_8_To, .slice a9 y9.1.length cc9, .slice a10 y10.1.length cc10, .slice a11 y11.1.length cc11, .int .i64 y12.1.fID, .string (strB y12.1.fName), .slice a_12_Columns y12.1.fColumns.length c_12_Columns, .slice a_12_Key y12.1.fKey.length c_12_Key, .int .i64 y13.1.fID, .int .i64 y13.1.fTable, .string (strB y13.1.fName), .slice a_13_Columns y13.1.fColumns.length c_13_Columns, .bool y13.1.fUnique, .int .i64 y13.1.fState, .bool y13.1.fBad, .string (strB y14.1)]) b))
    replace q8 := rGSpan_lawful.mono (rGSpan_lawful.keep q8 kS (fun b hb e => by have := hb.1; omega)) (fun b hb => (⟨by have := hb.1; omega, Nat.lt_of_lt_of_le hb.2.1 kS.size⟩ : NewIn w (wE.setRow w.heap.size #[.int .i64 y0.1, .int .i64 y1.1, .int .u64 y2.1, .int .i64 y3.1, .int .i64 y4.1, .int .i64 y5.1, .bool y6.1, .slice a7 y7.1.length cc7, .slice a_8_From y8.1.fFrom.length c_8_From, .slice a_8_To y8.1.fTo.length c_8_To, .slice a9 y9.1.length cc9, .slice a10 y10.1.length cc10, .slice a11 y11.1.length cc11, .int .i64 y12.1.fID, .string (strB y12.1.fName), .slice a_12_Columns y12.1.fColumns.length c_12_Columns, .slice a_12_Key y12.1.fKey.length c_12_Key, .int .i64 y13.1.fID, .int .i64 y13.1.fTable, .string (strB y13.1.fName), .slice a_13_Columns y13.1.fColumns.length c_13_Columns, .bool y13.1.fUnique, .int .i64 y13.1.fState, .bool y13.1.fBad, .string (strB y14.1)]) b))
    replace q9 := (rList_lawful rGPair_lawful).mono ((rList_lawful rGPair_lawful).keep q9 kS (fun b hb e => by have := hb.1; omega)) (fun b hb => (⟨by have := hb.1; omega, Nat.lt_of_lt_of_le hb.2.1 kS.size⟩ : NewIn w (wE.setRow w.heap.size #[.int .i64 y0.1, .int .i64 y1.1, .int .u64 y2.1, .int .i64 y3.1, .int .i64 y4.1, .int .i64 y5.1, .bool y6.1, .slice a7 y7.1.length cc7, .slice a_8_From y8.1.fFrom.length c_8_From, .slice a_8_To y8.1.fTo.length c_8_To, .slice a9 y9.1.length cc9, .slice a10 y10.1.length cc10, .slice a11 y11.1.length cc11, .int .i64 y12.1.fID, .string (strB y12.1.fName), .slice a_12_Columns y12.1.fColumns.length c_12_Columns, .slice a_12_Key y12.1.fKey.length c_12_Key, .int .i64 y13.1.fID, .int .i64 y13.1.fTable, .string (strB y13.1.fName), .slice a_13_Columns y13.1.fColumns.length c_13_Columns, .bool y13.1.fUnique, .int .i64 y13.1.fState, .bool y13.1.fBad, .string (strB y14.1)]) b))
    replace q10 := (rList_lawful rGSeen_lawful).mono ((rList_lawful rGSeen_lawful).keep q10 kS (fun b hb e => by have := hb.1; omega)) (fun b hb => (⟨by have := hb.1; omega, Nat.lt_of_lt_of_le hb.2.1 kS.size⟩ : NewIn w (wE.setRow w.heap.size #[.int .i64 y0.1, .int .i64 y1.1, .int .u64 y2.1, .int .i64 y3.1, .int .i64 y4.1, .int .i64 y5.1, .bool y6.1, .slice a7 y7.1.length cc7, .slice a_8_From y8.1.fFrom.length c_8_From, .slice a_8_To y8.1.fTo.length c_8_To, .slice a9 y9.1.length cc9, .slice a10 y10.1.length cc10, .slice a11 y11.1.length cc11, .int .i64 y12.1.fID, .string (strB y12.1.fName), .slice a_12_Columns y12.1.fColumns.length c_12_Columns, .slice a_12_Key y12.1.fKey.length c_12_Key, .int .i64 y13.1.fID, .int .i64 y13.1.fTable, .string (strB y13.1.fName), .slice a_13_Columns y13.1.fColumns.length c_13_Columns, .bool y13.1.fUnique, .int .i64 y13.1.fState, .bool y13.1.fBad, .string (strB y14.1)]) b))
    replace q11 := (rList_lawful rGWrite_lawful).mono ((rList_lawful rGWrite_lawful).keep q11 kS (fun b hb e => by have := hb.1; omega)) (fun b hb => (⟨by have := hb.1; omega, Nat.lt_of_lt_of_le hb.2.1 kS.size⟩ : NewIn w (wE.setRow w.heap.size #[.int .i64 y0.1, .int .i64 y1.1, .int .u64 y2.1, .int .i64 y3.1, .int .i64 y4.1, .int .i64 y5.1, .bool y6.1, .slice a7 y7.1.length cc7, .slice a_8_From y8.1.fFrom.length c_8_From, .slice a_8_To y8.1.fTo.length c_8_To, .slice a9 y9.1.length cc9, .slice a10 y10.1.length cc10, .slice a11 y11.1.length cc11, .int .i64 y12.1.fID, .string (strB y12.1.fName), .slice a_12_Columns y12.1.fColumns.length c_12_Columns, .slice a_12_Key y12.1.fKey.length c_12_Key, .int .i64 y13.1.fID, .int .i64 y13.1.fTable, .string (strB y13.1.fName), .slice a_13_Columns y13.1.fColumns.length c_13_Columns, .bool y13.1.fUnique, .int .i64 y13.1.fState, .bool y13.1.fBad, .string (strB y14.1)]) b))
    replace q12 := rGTable_lawful.mono (rGTable_lawful.keep q12 kS (fun b hb e => by have := hb.1; omega)) (fun b hb => (⟨by have := hb.1; omega, Nat.lt_of_lt_of_le hb.2.1 kS.size⟩ : NewIn w (wE.setRow w.heap.size #[.int .i64 y0.1, .int .i64 y1.1, .int .u64 y2.1, .int .i64 y3.1, .int .i64 y4.1, .int .i64 y5.1, .bool y6.1, .slice a7 y7.1.length cc7, .slice a_8_From y8.1.fFrom.length c_8_From, .slice a_8_To y8.1.fTo.length c_8_To, .slice a9 y9.1.length cc9, .slice a10 y10.1.length cc10, .slice a11 y11.1.length cc11, .int .i64 y12.1.fID, .string (strB y12.1.fName), .slice a_12_Columns y12.1.fColumns.length c_12_Columns, .slice a_12_Key y12.1.fKey.length c_12_Key, .int .i64 y13.1.fID, .int .i64 y13.1.fTable, .string (strB y13.1.fName), .slice a_13_Columns y13.1.fColumns.length c_13_Columns, .bool y13.1.fUnique, .int .i64 y13.1.fState, .bool y13.1.fBad, .string (strB y14.1)]) b))
    replace q13 := rGIndex_lawful.mono (rGIndex_lawful.keep q13 kS (fun b hb e => by have := hb.1; omega)) (fun b hb => (⟨by have := hb.1; omega, Nat.lt_of_lt_of_le hb.2.1 kS.size⟩ : NewIn w (wE.setRow w.heap.size #[.int .i64 y0.1, .int .i64 y1.1, .int .u64 y2.1, .int .i64 y3.1, .int .i64 y4.1, .int .i64 y5.1, .bool y6.1, .slice a7 y7.1.length cc7, .slice a_8_From y8.1.fFrom.length c_8_From, .slice a_8_To y8.1.fTo.length c_8_To, .slice a9 y9.1.length cc9, .slice a10 y10.1.length cc10, .slice a11 y11.1.length cc11, .int .i64 y12.1.fID, .string (strB y12.1.fName), .slice a_12_Columns y12.1.fColumns.length c_12_Columns, .slice a_12_Key y12.1.fKey.length c_12_Key, .int .i64 y13.1.fID, .int .i64 y13.1.fTable, .string (strB y13.1.fName), .slice a_13_Columns y13.1.fColumns.length c_13_Columns, .bool y13.1.fUnique, .int .i64 y13.1.fState, .bool y13.1.fBad, .string (strB y14.1)]) b))
    exact ⟨[.int .i64 y0.1, .int .i64 y1.1, .int .u64 y2.1, .int .i64 y3.1, .int .i64 y4.1, .int .i64 y5.1, .bool y6.1, .slice a7 y7.1.length cc7, .slice a_8_From y8.1.fFrom.length c_8_From, .slice a_8_To y8.1.fTo.length c_8_To, .slice a9 y9.1.length cc9, .slice a10 y10.1.length cc10, .slice a11 y11.1.length cc11, .int .i64 y12.1.fID, .string (strB y12.1.fName), .slice a_12_Columns y12.1.fColumns.length c_12_Columns, .slice a_12_Key y12.1.fKey.length c_12_Key, .int .i64 y13.1.fID, .int .i64 y13.1.fTable, .string (strB y13.1.fName), .slice a_13_Columns y13.1.fColumns.length c_13_Columns, .bool y13.1.fUnique, .int .i64 y13.1.fState, .bool y13.1.fBad, .string (strB y14.1)], rfl, ⟨[.int .i64 y0.1], [.int .i64 y1.1], [.int .u64 y2.1], [.int .i64 y3.1], [.int .i64 y4.1], [.int .i64 y5.1], [.bool y6.1], [.slice a7 y7.1.length cc7], [.slice a_8_From y8.1.fFrom.length c_8_From, .slice a_8_To y8.1.fTo.length c_8_To], [.slice a9 y9.1.length cc9], [.slice a10 y10.1.length cc10], [.slice a11 y11.1.length cc11], [.int .i64 y12.1.fID, .string (strB y12.1.fName), .slice a_12_Columns y12.1.fColumns.length c_12_Columns, .slice a_12_Key y12.1.fKey.length c_12_Key], [.int .i64 y13.1.fID, .int .i64 y13.1.fTable, .string (strB y13.1.fName), .slice a_13_Columns y13.1.fColumns.length c_13_Columns, .bool y13.1.fUnique, .int .i64 y13.1.fState, .bool y13.1.fBad], [.string (strB y14.1)], rfl, ⟨rfl, wf0.out⟩, ⟨rfl, wf1.out⟩, ⟨rfl, wf2.out⟩, ⟨rfl, wf3.out⟩, ⟨rfl, wf4.out⟩, ⟨rfl, wf5.out⟩, rfl, q7, q8, q9, q10, q11, q12, q13, ⟨rfl, wf14.out⟩⟩, rfl, kk3.then kS (fun i hi e => by omega)⟩
  · have t' : (endS y14.2 != 0) = true := by simp [he]
    have HNE := Lib.hid he
    clear he
    have hst := store_run (P := Tryz.prog) (cs := [.int .i64 0, .int .i64 0, .int .u64 0, .int .i64 0, .int .i64 0, .int .i64 0, .bool false, .slice none 0 0, .slice none 0 0, .slice none 0 0, .slice none 0 0, .slice none 0 0, .slice none 0 0, .int .i64 0, .string { data := #[] }, .slice none 0 0, .slice none 0 0, .int .i64 0, .int .i64 0, .string { data := #[] }, .slice none 0 0, .bool false, .int .i64 0, .bool false, .string { data := #[] }]) S_Command rowR rfl rfl rfl
    have rowF := rowR.setRow [.int .i64 0, .int .i64 0, .int .u64 0, .int .i64 0, .int .i64 0, .int .i64 0, .bool false, .slice none 0 0, .slice none 0 0, .slice none 0 0, .slice none 0 0, .slice none 0 0, .slice none 0 0, .int .i64 0, .string { data := #[] }, .slice none 0 0, .slice none 0 0, .int .i64 0, .int .i64 0, .string { data := #[] }, .slice none 0 0, .bool false, .int .i64 0, .bool false, .string { data := #[] }]
    have kS := (Keep.refl (· = w.heap.size) wE).setRow (fun _ => rfl) (#[.int .i64 0, .int .i64 0, .int .u64 0, .int .i64 0, .int .i64 0, .int .i64 0, .bool false, .slice none 0 0, .slice none 0 0, .slice none 0 0, .slice none 0 0, .slice none 0 0, .slice none 0 0, .int .i64 0, .string { data := #[] }, .slice none 0 0, .slice none 0 0, .int .i64 0, .int .i64 0, .string { data := #[] }, .slice none 0 0, .bool false, .int .i64 0, .bool false, .string { data := #[] }] : Array Value)
    clear rowT
    go_wp2_with fail
    refine bodyPost_ret (results_cell_row2 (by rfl) _ _ _ _ _ _ _ (by rfl) rowF Tryz.underlying43 (by rfl) S_Command.info) rfl ?_
    unfold takeP
    rw [HE.out, endP_no (y := ((⟨y0.1, y1.1, y2.1, y3.1, y4.1, y5.1, y6.1, y7.1, y8.1, y9.1, y10.1, y11.1, y12.1, y13.1, y14.1⟩ : GCommand), y14.2)) HNE.out]
    exact ⟨[.int .i64 0, .int .i64 0, .int .u64 0, .int .i64 0, .int .i64 0, .int .i64 0, .bool false, .slice none 0 0, .slice none 0 0, .slice none 0 0, .slice none 0 0, .slice none 0 0, .slice none 0 0, .int .i64 0, .string { data := #[] }, .slice none 0 0, .slice none 0 0, .int .i64 0, .int .i64 0, .string { data := #[] }, .slice none 0 0, .bool false, .int .i64 0, .bool false, .string { data := #[] }], rfl, zGCommand_r _ _, rfl, kk3.then kS (fun i hi e => by omega)⟩
end
theorem ldt_Reply (a : Act) (dst : Option Tmp) (x : Operand) (ty : TypeId) (pos : String) (after : Array Edge) (guard : Option (Nat × Bool)) : execOp a.eval { dst := dst, op := .load 55 x, type := ty, pos := pos, after := after, guard := guard } = wholeSem 55 (a.eval x) := rfl
section
attribute [local go_sem ↓] ldt_Reply st_Reply
set_option maxRecDepth 100000 in
set_option maxHeartbeats 8000000 in
theorem iTakeReply_c {p0 : Nat → Prop} (a : Option Addr) (n ca : Nat) (l : List UInt8) (w : World) (hn : l.length = n) (ha : Lies w p0 a (l.map bv)) (hr0 : n ≤ 140737488355328) :
    Calls Tryz.prog 12 #[.slice a n ca] w (Took rGReply w (takeP pGReply zGReply l)) := by
  have rowR : RowIs (w.alloc (.cells #[.int .i64 0, .int .u64 0, .int .i64 0, .bool false, .slice none 0 0, .slice none 0 0, .int .i64 0, .int .i64 0, .slice none 0 0, .slice none 0 0, .int .i64 0, .int .i64 0, .slice none 0 0, .int .i64 0, .slice none 0 0] 55)) w.heap.size 55 [.int .i64 0, .int .u64 0, .int .i64 0, .bool false, .slice none 0 0, .slice none 0 0, .int .i64 0, .int .i64 0, .slice none 0 0, .slice none 0 0, .int .i64 0, .int .i64 0, .slice none 0 0, .int .i64 0, .slice none 0 0] := RowIs.alloc w _ _
  have ha1 := ha.keep ((Keep.refl Nix w).alloc (.cells #[.int .i64 0, .int .u64 0, .int .i64 0, .bool false, .slice none 0 0, .slice none 0 0, .int .i64 0, .int .i64 0, .slice none 0 0, .slice none 0 0, .int .i64 0, .int .i64 0, .slice none 0 0, .int .i64 0, .slice none 0 0] 55)) (fun _ _ h => h)
  have HN := Lib.hid hn
  have kko : Keep Nix w (w.alloc (.cells #[.int .i64 0, .int .u64 0, .int .i64 0, .bool false, .slice none 0 0, .slice none 0 0, .int .i64 0, .int .i64 0, .slice none 0 0, .slice none 0 0, .int .i64 0, .int .i64 0, .slice none 0 0, .int .i64 0, .slice none 0 0] 55)) := (Keep.refl Nix w).alloc _
  clear hn ha
  go_enter Tryz.func12, Tryz.ntmps12
  go_wp2_with fail
  go_fit (open_c a n ca l _ HN.out ha1 hr0)
  rintro e w0 ⟨x, rfl, hx, hr0', ko⟩
  have hx1 : w.heap.size < x := by simp at hx; omega
  replace rowR := rowR.keep ko id
  have hR0 := rowR.lt
  obtain ⟨p, hpl, hpn, hr⟩ : ∃ p : Nat → Prop, (∀ b, p b → b < w0.heap.size) ∧ (∀ b, p b → w.heap.size < b) ∧ IsIn w0 x p ⟨l, 0, 0, []⟩ := ⟨_, fun b hb => hb.2.1, fun b hb => by have := hb.1; simp at this; omega, hr0'⟩
  have hlt := hr.lt
  have kk : Keep (· = x) w0 w0 := Keep.refl _ _
  replace kko := kko.trans ko
  have hks := kko.size
  clear hr0' ko ha1 hx
  go_wp2_with fail
  go_fit (iint_g x p _ _ hr)
  rintro e w1 ⟨rfl, hr', k0⟩
  have wf0 : Hid ((Lit.int .i64 (pInt (⟨l, 0, 0, []⟩ : RdS)).1).wf = true) := zag_wf (numS_lt maxU _)
  generalize hy0 : pInt (⟨l, 0, 0, []⟩ : RdS) = y0 at hr' wf0 ⊢
  replace hy0 := Lib.hid hy0
  have rRl := rowR.lt
  have ks0 := k0.size
  replace rowR := rowR.keep k0 (by omega)
  have rRl1 := rowR.lt
  have hst0 := store_run (P := Tryz.prog) (cs := [.int .i64 y0.1, .int .u64 0, .int .i64 0, .bool false, .slice none 0 0, .slice none 0 0, .int .i64 0, .int .i64 0, .slice none 0 0, .slice none 0 0, .int .i64 0, .int .i64 0, .slice none 0 0, .int .i64 0, .slice none 0 0]) S_Reply (RowIs.alloc w1 #[.int .i64 0, .int .u64 0, .int .i64 0, .bool false, .slice none 0 0, .slice none 0 0, .int .i64 0, .int .i64 0, .slice none 0 0, .slice none 0 0, .int .i64 0, .int .i64 0, .slice none 0 0, .int .i64 0, .slice none 0 0] 55) rfl rfl rfl
  have rowT := (RowIs.alloc w1 #[.int .i64 0, .int .u64 0, .int .i64 0, .bool false, .slice none 0 0, .slice none 0 0, .int .i64 0, .int .i64 0, .slice none 0 0, .slice none 0 0, .int .i64 0, .int .i64 0, .slice none 0 0, .int .i64 0, .slice none 0 0] 55).setRow [.int .i64 y0.1, .int .u64 0, .int .i64 0, .bool false, .slice none 0 0, .slice none 0 0, .int .i64 0, .int .i64 0, .slice none 0 0, .slice none 0 0, .int .i64 0, .int .i64 0, .slice none 0 0, .int .i64 0, .slice none 0 0]
  have kT := ((Keep.refl (· = w1.heap.size) w1).alloc (.cells #[.int .i64 0, .int .u64 0, .int .i64 0, .bool false, .slice none 0 0, .slice none 0 0, .int .i64 0, .int .i64 0, .slice none 0 0, .slice none 0 0, .int .i64 0, .int .i64 0, .slice none 0 0, .int .i64 0, .slice none 0 0] 55)).setRow (fun _ => rfl) (#[.int .i64 y0.1, .int .u64 0, .int .i64 0, .bool false, .slice none 0 0, .slice none 0 0, .int .i64 0, .int .i64 0, .slice none 0 0, .slice none 0 0, .int .i64 0, .int .i64 0, .slice none 0 0, .int .i64 0, .slice none 0 0] : Array Value)
  replace rowR := rowR.keep kT (by omega)
  have hr1 := hr'.lt
  have hxT : x < w1.heap.size := hr1
  replace hr := hr'.keep kT (by omega) (fun b hb e => by have := hpl b hb; omega)
  replace kk := (kk.trans k0).then kT (fun i hi e => by omega)
  clear hr' k0 kT hr1
  go_wp2_with fail
  clear hst0
  go_fit (inum_g x p _ _ hr)
  rintro e w2 ⟨rfl, hr', k1⟩
  have wf1 : Hid ((Lit.int .u64 (pNum y0.2).1).wf = true) := num_wf (numS_lt maxU _)
  generalize hy1 : pNum y0.2 = y1 at hr' wf1 ⊢
  replace hy1 := Lib.hid hy1
  have rTl := rowT.lt
  replace rowT := rowT.keep k1 (by omega)
  replace rowR := rowR.keep k1 (by omega)
  have xc0 : w2.cell? ⟨w1.heap.size, 1, none⟩ = some (.int .u64 0) := rowT.cell 1
  have xf0 : w2.frozen? ⟨w1.heap.size, 1, none⟩ = false := rowT.frozen 1
  replace rowT := rowT.set 1 (.int .u64 y1.1)
  replace rowT : RowIs (w2.setCell ⟨w1.heap.size, 1, none⟩ (.int .u64 y1.1)) w1.heap.size 55 [.int .i64 y0.1, .int .u64 y1.1, .int .i64 0, .bool false, .slice none 0 0, .slice none 0 0, .int .i64 0, .int .i64 0, .slice none 0 0, .slice none 0 0, .int .i64 0, .int .i64 0, .slice none 0 0, .int .i64 0, .slice none 0 0] := rowT
  have kT := (Keep.refl (· = w1.heap.size) w2).setCell (p := ⟨w1.heap.size, 1, none⟩) (fun _ => rfl) (.int .u64 y1.1)
  replace rowR := rowR.keep kT (by omega)
  replace hr := hr'.keep kT (by omega) (fun b hb e => by have := hpl b hb; omega)
  replace kk := (kk.trans k1).then kT (fun i hi e => by omega)
  clear hr' k1 kT rTl
  go_wp2_with fail
  clear xc0 xf0
  go_fit (iint_g x p _ _ hr)
  rintro e w3 ⟨rfl, hr', k2⟩
  have wf2 : Hid ((Lit.int .i64 (pInt y1.2).1).wf = true) := zag_wf (numS_lt maxU _)
  generalize hy2 : pInt y1.2 = y2 at hr' wf2 ⊢
  replace hy2 := Lib.hid hy2
  have rTl := rowT.lt
  replace rowT := rowT.keep k2 (by omega)
  replace rowR := rowR.keep k2 (by omega)
  have xc0 : w3.cell? ⟨w1.heap.size, 2, none⟩ = some (.int .i64 0) := rowT.cell 2
  have xf0 : w3.frozen? ⟨w1.heap.size, 2, none⟩ = false := rowT.frozen 2
  replace rowT := rowT.set 2 (.int .i64 y2.1)
  replace rowT : RowIs (w3.setCell ⟨w1.heap.size, 2, none⟩ (.int .i64 y2.1)) w1.heap.size 55 [.int .i64 y0.1, .int .u64 y1.1, .int .i64 y2.1, .bool false, .slice none 0 0, .slice none 0 0, .int .i64 0, .int .i64 0, .slice none 0 0, .slice none 0 0, .int .i64 0, .int .i64 0, .slice none 0 0, .int .i64 0, .slice none 0 0] := rowT
  have kT := (Keep.refl (· = w1.heap.size) w3).setCell (p := ⟨w1.heap.size, 2, none⟩) (fun _ => rfl) (.int .i64 y2.1)
  replace rowR := rowR.keep kT (by omega)
  replace hr := hr'.keep kT (by omega) (fun b hb e => by have := hpl b hb; omega)
  replace kk := (kk.trans k2).then kT (fun i hi e => by omega)
  clear hr' k2 kT rTl
  go_wp2_with fail
  clear xc0 xf0
  go_fit (ibool_g x p _ _ hr)
  rintro e w4 ⟨rfl, hr', k3⟩
  generalize hy3 : pFlag y2.2 = y3 at hr' ⊢
  replace hy3 := Lib.hid hy3
  have rTl := rowT.lt
  replace rowT := rowT.keep k3 (by omega)
  replace rowR := rowR.keep k3 (by omega)
  have xc0 : w4.cell? ⟨w1.heap.size, 3, none⟩ = some (.bool false) := rowT.cell 3
  have xf0 : w4.frozen? ⟨w1.heap.size, 3, none⟩ = false := rowT.frozen 3
  replace rowT := rowT.set 3 (.bool y3.1)
  replace rowT : RowIs (w4.setCell ⟨w1.heap.size, 3, none⟩ (.bool y3.1)) w1.heap.size 55 [.int .i64 y0.1, .int .u64 y1.1, .int .i64 y2.1, .bool y3.1, .slice none 0 0, .slice none 0 0, .int .i64 0, .int .i64 0, .slice none 0 0, .slice none 0 0, .int .i64 0, .int .i64 0, .slice none 0 0, .int .i64 0, .slice none 0 0] := rowT
  have kT := (Keep.refl (· = w1.heap.size) w4).setCell (p := ⟨w1.heap.size, 3, none⟩) (fun _ => rfl) (.bool y3.1)
  replace rowR := rowR.keep kT (by omega)
  replace hr := hr'.keep kT (by omega) (fun b hb e => by have := hpl b hb; omega)
  replace kk := (kk.trans k3).then kT (fun i hi e => by omega)
  clear hr' k3 kT rTl
  go_wp2_with fail
  clear xc0 xf0
  go_fit (ilPair_c x p _ _ hr (fun b hb => Nat.lt_of_lt_of_le (hpl b hb) kk.size))
  rintro e w5 ⟨v, rfl, q4, hr', k4⟩
  generalize hy4 : (pList pGPair) y3.2 = y4 at hr' q4
  replace hy4 := Lib.hid hy4
  obtain ⟨a4, cc4, hv, q4'⟩ := rList_open q4
  simp only [List.cons.injEq, and_true] at hv
  subst hv
  clear q4
  have q4 := q4'
  clear q4'
  have rTl := rowT.lt
  replace rowT := rowT.keep k4 (by omega)
  replace rowR := rowR.keep k4 (by omega)
  replace q4 := (rList_lawful rGPair_lawful).mono q4 (fun b hb => (⟨by have := hb.1; omega, hb.2, by have := hb.1; omega⟩ : NewBut w0.heap.size w1.heap.size w5 b))
  have xc0 : w5.cell? ⟨w1.heap.size, 4, none⟩ = some (.slice none 0 0) := rowT.cell 4
  have xf0 : w5.frozen? ⟨w1.heap.size, 4, none⟩ = false := rowT.frozen 4
  replace rowT := rowT.set 4 (.slice a4 y4.1.length cc4)
  replace rowT : RowIs (w5.setCell ⟨w1.heap.size, 4, none⟩ (.slice a4 y4.1.length cc4)) w1.heap.size 55 [.int .i64 y0.1, .int .u64 y1.1, .int .i64 y2.1, .bool y3.1, .slice a4 y4.1.length cc4, .slice none 0 0, .int .i64 0, .int .i64 0, .slice none 0 0, .slice none 0 0, .int .i64 0, .int .i64 0, .slice none 0 0, .int .i64 0, .slice none 0 0] := rowT
  have kT := (Keep.refl (· = w1.heap.size) w5).setCell (p := ⟨w1.heap.size, 4, none⟩) (fun _ => rfl) (.slice a4 y4.1.length cc4)
  replace rowR := rowR.keep kT (by omega)
  replace hr := hr'.keep kT (by omega) (fun b hb e => by have := hpl b hb; omega)
  replace kk := (kk.trans k4).then kT (fun i hi e => by omega)
  replace q4 := (rList_lawful rGPair_lawful).mono ((rList_lawful rGPair_lawful).keep q4 kT (fun b hb e => hb.2.2 e)) (fun b hb => (⟨hb.1, Nat.lt_of_lt_of_le hb.2.1 kT.size, hb.2.2⟩ : NewBut w0.heap.size w1.heap.size (w5.setCell ⟨w1.heap.size, 4, none⟩ (.slice a4 y4.1.length cc4)) b))
  clear hr' k4 kT rTl
  go_wp2_with fail
  clear xc0 xf0
  go_fit (ilnum_c x p _ _ hr (fun b hb => Nat.lt_of_lt_of_le (hpl b hb) kk.size))
  rintro e w6 ⟨v, rfl, q5, hr', k5⟩
  generalize hy5 : (pList pNum) y4.2 = y5 at hr' q5
  replace hy5 := Lib.hid hy5
  obtain ⟨a5, cc5, hv, q5'⟩ := rList_open q5
  simp only [List.cons.injEq, and_true] at hv
  subst hv
  clear q5
  have q5 := q5'
  clear q5'
  have rTl := rowT.lt
  replace rowT := rowT.keep k5 (by omega)
  replace rowR := rowR.keep k5 (by omega)
  replace q4 := (rList_lawful rGPair_lawful).mono ((rList_lawful rGPair_lawful).keep q4 k5 (fun b hb e => by have := hb.1; omega)) (fun b hb => (⟨hb.1, Nat.lt_of_lt_of_le hb.2.1 k5.size, hb.2.2⟩ : NewBut w0.heap.size w1.heap.size w6 b))
  replace q5 := (rList_lawful (rInt_lawful _)).mono q5 (fun b hb => (⟨by have := hb.1; omega, hb.2, by have := hb.1; omega⟩ : NewBut w0.heap.size w1.heap.size w6 b))
  have xc0 : w6.cell? ⟨w1.heap.size, 5, none⟩ = some (.slice none 0 0) := rowT.cell 5
  have xf0 : w6.frozen? ⟨w1.heap.size, 5, none⟩ = false := rowT.frozen 5
  replace rowT := rowT.set 5 (.slice a5 y5.1.length cc5)
  replace rowT : RowIs (w6.setCell ⟨w1.heap.size, 5, none⟩ (.slice a5 y5.1.length cc5)) w1.heap.size 55 [.int .i64 y0.1, .int .u64 y1.1, .int .i64 y2.1, .bool y3.1, .slice a4 y4.1.length cc4, .slice a5 y5.1.length cc5, .int .i64 0, .int .i64 0, .slice none 0 0, .slice none 0 0, .int .i64 0, .int .i64 0, .slice none 0 0, .int .i64 0, .slice none 0 0] := rowT
  have kT := (Keep.refl (· = w1.heap.size) w6).setCell (p := ⟨w1.heap.size, 5, none⟩) (fun _ => rfl) (.slice a5 y5.1.length cc5)
  replace rowR := rowR.keep kT (by omega)
  replace hr := hr'.keep kT (by omega) (fun b hb e => by have := hpl b hb; omega)
  replace kk := (kk.trans k5).then kT (fun i hi e => by omega)
  replace q4 := (rList_lawful rGPair_lawful).mono ((rList_lawful rGPair_lawful).keep q4 kT (fun b hb e => hb.2.2 e)) (fun b hb => (⟨hb.1, Nat.lt_of_lt_of_le hb.2.1 kT.size, hb.2.2⟩ : NewBut w0.heap.size w1.heap.size (w6.setCell ⟨w1.heap.size, 5, none⟩ (.slice a5 y5.1.length cc5)) b))
  replace q5 := (rList_lawful (rInt_lawful _)).mono ((rList_lawful (rInt_lawful _)).keep q5 kT (fun b hb e => hb.2.2 e)) (fun b hb => (⟨hb.1, Nat.lt_of_lt_of_le hb.2.1 kT.size, hb.2.2⟩ : NewBut w0.heap.size w1.heap.size (w6.setCell ⟨w1.heap.size, 5, none⟩ (.slice a5 y5.1.length cc5)) b))
  clear hr' k5 kT rTl
  go_wp2_with fail
  clear xc0 xf0
  go_fit (iCatalog_c x p _ _ hr (fun b hb => Nat.lt_of_lt_of_le (hpl b hb) kk.size))
  rintro e w7 ⟨c6, rfl, q6, -, hr', k6⟩
  generalize hy6 : pGCatalog y5.2 = y6 at hr' q6
  replace hy6 := Lib.hid hy6
  obtain ⟨a_6_Tables, c_6_Tables, a_6_Indexes, c_6_Indexes, hce, -⟩ := rGCatalog_open q6
  subst hce
  have rTl := rowT.lt
  replace rowT := rowT.keep k6 (by omega)
  replace rowR := rowR.keep k6 (by omega)
  replace q4 := (rList_lawful rGPair_lawful).mono ((rList_lawful rGPair_lawful).keep q4 k6 (fun b hb e => by have := hb.1; omega)) (fun b hb => (⟨hb.1, Nat.lt_of_lt_of_le hb.2.1 k6.size, hb.2.2⟩ : NewBut w0.heap.size w1.heap.size w7 b))
  replace q5 := (rList_lawful (rInt_lawful _)).mono ((rList_lawful (rInt_lawful _)).keep q5 k6 (fun b hb e => by have := hb.1; omega)) (fun b hb => (⟨hb.1, Nat.lt_of_lt_of_le hb.2.1 k6.size, hb.2.2⟩ : NewBut w0.heap.size w1.heap.size w7 b))
  replace q6 := rGCatalog_lawful.mono q6 (fun b hb => (⟨by have := hb.1; omega, hb.2, by have := hb.1; omega⟩ : NewBut w0.heap.size w1.heap.size w7 b))
  have xc0 : w7.cell? ⟨w1.heap.size, 6, none⟩ = some (.int .i64 0) := rowT.cell 6
  have xf0 : w7.frozen? ⟨w1.heap.size, 6, none⟩ = false := rowT.frozen 6
  have xc1 : w7.cell? ⟨w1.heap.size, 7, none⟩ = some (.int .i64 0) := rowT.cell 7
  have xf1 : w7.frozen? ⟨w1.heap.size, 7, none⟩ = false := rowT.frozen 7
  have xc2 : w7.cell? ⟨w1.heap.size, 8, none⟩ = some (.slice none 0 0) := rowT.cell 8
  have xf2 : w7.frozen? ⟨w1.heap.size, 8, none⟩ = false := rowT.frozen 8
  have xc3 : w7.cell? ⟨w1.heap.size, 9, none⟩ = some (.slice none 0 0) := rowT.cell 9
  have xf3 : w7.frozen? ⟨w1.heap.size, 9, none⟩ = false := rowT.frozen 9
  replace rowT := rowT.set 6 (.int .i64 y6.1.fVersion)
  replace rowT := rowT.set 7 (.int .i64 y6.1.fNext)
  replace rowT := rowT.set 8 (.slice a_6_Tables y6.1.fTables.length c_6_Tables)
  replace rowT := rowT.set 9 (.slice a_6_Indexes y6.1.fIndexes.length c_6_Indexes)
  replace rowT : RowIs ((((w7.setCell ⟨w1.heap.size, 6, none⟩ (.int .i64 y6.1.fVersion)).setCell ⟨w1.heap.size, 7, none⟩ (.int .i64 y6.1.fNext)).setCell ⟨w1.heap.size, 8, none⟩ (.slice a_6_Tables y6.1.fTables.length c_6_Tables)).setCell ⟨w1.heap.size, 9, none⟩ (.slice a_6_Indexes y6.1.fIndexes.length c_6_Indexes)) w1.heap.size 55 [.int .i64 y0.1, .int .u64 y1.1, .int .i64 y2.1, .bool y3.1, .slice a4 y4.1.length cc4, .slice a5 y5.1.length cc5, .int .i64 y6.1.fVersion, .int .i64 y6.1.fNext, .slice a_6_Tables y6.1.fTables.length c_6_Tables, .slice a_6_Indexes y6.1.fIndexes.length c_6_Indexes, .int .i64 0, .int .i64 0, .slice none 0 0, .int .i64 0, .slice none 0 0] := rowT
  have kT := ((((Keep.refl (· = w1.heap.size) w7).setCell (p := ⟨w1.heap.size, 6, none⟩) (fun _ => rfl) (.int .i64 y6.1.fVersion)).setCell (p := ⟨w1.heap.size, 7, none⟩) (fun _ => rfl) (.int .i64 y6.1.fNext)).setCell (p := ⟨w1.heap.size, 8, none⟩) (fun _ => rfl) (.slice a_6_Tables y6.1.fTables.length c_6_Tables)).setCell (p := ⟨w1.heap.size, 9, none⟩) (fun _ => rfl) (.slice a_6_Indexes y6.1.fIndexes.length c_6_Indexes)
  replace rowR := rowR.keep kT (by omega)
  replace hr := hr'.keep kT (by omega) (fun b hb e => by have := hpl b hb; omega)
  replace kk := (kk.trans k6).then kT (fun i hi e => by omega)
  replace q4 := (rList_lawful rGPair_lawful).mono ((rList_lawful rGPair_lawful).keep q4 kT (fun b hb e => hb.2.2 e)) (fun b hb => (⟨hb.1, Nat.lt_of_lt_of_le hb.2.1 kT.size, hb.2.2⟩ : NewBut w0.heap.size w1.heap.size ((((w7.setCell ⟨w1.heap.size, 6, none⟩ (.int .i64 y6.1.fVersion)).setCell ⟨w1.heap.size, 7, none⟩ (.int .i64 y6.1.fNext)).setCell ⟨w1.heap.size, 8, none⟩ (.slice a_6_Tables y6.1.fTables.length c_6_Tables)).setCell ⟨w1.heap.size, 9, none⟩ (.slice a_6_Indexes y6.1.fIndexes.length c_6_Indexes)) b))
  replace q5 := (rList_lawful (rInt_lawful _)).mono ((rList_lawful (rInt_lawful _)).keep q5 kT (fun b hb e => hb.2.2 e)) (fun b hb => (⟨hb.1, Nat.lt_of_lt_of_le hb.2.1 kT.size, hb.2.2⟩ : NewBut w0.heap.size w1.heap.size ((((w7.setCell ⟨w1.heap.size, 6, none⟩ (.int .i64 y6.1.fVersion)).setCell ⟨w1.heap.size, 7, none⟩ (.int .i64 y6.1.fNext)).setCell ⟨w1.heap.size, 8, none⟩ (.slice a_6_Tables y6.1.fTables.length c_6_Tables)).setCell ⟨w1.heap.size, 9, none⟩ (.slice a_6_Indexes y6.1.fIndexes.length c_6_Indexes)) b))
  replace q6 := rGCatalog_lawful.mono (rGCatalog_lawful.keep q6 kT (fun b hb e => hb.2.2 e)) (fun b hb => (⟨hb.1, Nat.lt_of_lt_of_le hb.2.1 kT.size, hb.2.2⟩ : NewBut w0.heap.size w1.heap.size ((((w7.setCell ⟨w1.heap.size, 6, none⟩ (.int .i64 y6.1.fVersion)).setCell ⟨w1.heap.size, 7, none⟩ (.int .i64 y6.1.fNext)).setCell ⟨w1.heap.size, 8, none⟩ (.slice a_6_Tables y6.1.fTables.length c_6_Tables)).setCell ⟨w1.heap.size, 9, none⟩ (.slice a_6_Indexes y6.1.fIndexes.length c_6_Indexes)) b))
  clear hr' k6 kT rTl
  go_wp2_with fail
  clear xc0 xf0 xc1 xf1 xc2 xf2 xc3 xf3
  go_fit (iRoutes_c x p _ _ hr (fun b hb => Nat.lt_of_lt_of_le (hpl b hb) kk.size))
  rintro e w8 ⟨c7, rfl, q7, -, hr', k7⟩
  generalize hy7 : pGRoutes y6.2 = y7 at hr' q7
  replace hy7 := Lib.hid hy7
  obtain ⟨a_7_Spans, c_7_Spans, a_7_Cut, c_7_Cut, hce, -⟩ := rGRoutes_open q7
  subst hce
  have rTl := rowT.lt
  replace rowT := rowT.keep k7 (by omega)
  replace rowR := rowR.keep k7 (by omega)
  replace q4 := (rList_lawful rGPair_lawful).mono ((rList_lawful rGPair_lawful).keep q4 k7 (fun b hb e => by have := hb.1; omega)) (fun b hb => (⟨hb.1, Nat.lt_of_lt_of_le hb.2.1 k7.size, hb.2.2⟩ : NewBut w0.heap.size w1.heap.size w8 b))
  replace q5 := (rList_lawful (rInt_lawful _)).mono ((rList_lawful (rInt_lawful _)).keep q5 k7 (fun b hb e => by have := hb.1; omega)) (fun b hb => (⟨hb.1, Nat.lt_of_lt_of_le hb.2.1 k7.size, hb.2.2⟩ : NewBut w0.heap.size w1.heap.size w8 b))
  replace q6 := rGCatalog_lawful.mono (rGCatalog_lawful.keep q6 k7 (fun b hb e => by have := hb.1; omega)) (fun b hb => (⟨hb.1, Nat.lt_of_lt_of_le hb.2.1 k7.size, hb.2.2⟩ : NewBut w0.heap.size w1.heap.size w8 b))
  replace q7 := rGRoutes_lawful.mono q7 (fun b hb => (⟨by have := hb.1; omega, hb.2, by have := hb.1; omega⟩ : NewBut w0.heap.size w1.heap.size w8 b))
  have xc0 : w8.cell? ⟨w1.heap.size, 10, none⟩ = some (.int .i64 0) := rowT.cell 10
  have xf0 : w8.frozen? ⟨w1.heap.size, 10, none⟩ = false := rowT.frozen 10
  have xc1 : w8.cell? ⟨w1.heap.size, 11, none⟩ = some (.int .i64 0) := rowT.cell 11
  have xf1 : w8.frozen? ⟨w1.heap.size, 11, none⟩ = false := rowT.frozen 11
  have xc2 : w8.cell? ⟨w1.heap.size, 12, none⟩ = some (.slice none 0 0) := rowT.cell 12
  have xf2 : w8.frozen? ⟨w1.heap.size, 12, none⟩ = false := rowT.frozen 12
  have xc3 : w8.cell? ⟨w1.heap.size, 13, none⟩ = some (.int .i64 0) := rowT.cell 13
  have xf3 : w8.frozen? ⟨w1.heap.size, 13, none⟩ = false := rowT.frozen 13
  have xc4 : w8.cell? ⟨w1.heap.size, 14, none⟩ = some (.slice none 0 0) := rowT.cell 14
  have xf4 : w8.frozen? ⟨w1.heap.size, 14, none⟩ = false := rowT.frozen 14
  replace rowT := rowT.set 10 (.int .i64 y7.1.fEpoch)
  replace rowT := rowT.set 11 (.int .i64 y7.1.fBase)
  replace rowT := rowT.set 12 (.slice a_7_Spans y7.1.fSpans.length c_7_Spans)
  replace rowT := rowT.set 13 (.int .i64 y7.1.fMoving)
  replace rowT := rowT.set 14 (.slice a_7_Cut y7.1.fCut.length c_7_Cut)
  replace rowT : RowIs (((((w8.setCell ⟨w1.heap.size, 10, none⟩ (.int .i64 y7.1.fEpoch)).setCell ⟨w1.heap.size, 11, none⟩ (.int .i64 y7.1.fBase)).setCell ⟨w1.heap.size, 12, none⟩ (.slice a_7_Spans y7.1.fSpans.length c_7_Spans)).setCell ⟨w1.heap.size, 13, none⟩ (.int .i64 y7.1.fMoving)).setCell ⟨w1.heap.size, 14, none⟩ (.slice a_7_Cut y7.1.fCut.length c_7_Cut)) w1.heap.size 55 [.int .i64 y0.1, .int .u64 y1.1, .int .i64 y2.1, .bool y3.1, .slice a4 y4.1.length cc4, .slice a5 y5.1.length cc5, .int .i64 y6.1.fVersion, .int .i64 y6.1.fNext, .slice a_6_Tables y6.1.fTables.length c_6_Tables, .slice a_6_Indexes y6.1.fIndexes.length c_6_Indexes, .int .i64 y7.1.fEpoch, .int .i64 y7.1.fBase, .slice a_7_Spans y7.1.fSpans.length c_7_Spans, .int .i64 y7.1.fMoving, .slice a_7_Cut y7.1.fCut.length c_7_Cut] := rowT
  have kT := (((((Keep.refl (· = w1.heap.size) w8).setCell (p := ⟨w1.heap.size, 10, none⟩) (fun _ => rfl) (.int .i64 y7.1.fEpoch)).setCell (p := ⟨w1.heap.size, 11, none⟩) (fun _ => rfl) (.int .i64 y7.1.fBase)).setCell (p := ⟨w1.heap.size, 12, none⟩) (fun _ => rfl) (.slice a_7_Spans y7.1.fSpans.length c_7_Spans)).setCell (p := ⟨w1.heap.size, 13, none⟩) (fun _ => rfl) (.int .i64 y7.1.fMoving)).setCell (p := ⟨w1.heap.size, 14, none⟩) (fun _ => rfl) (.slice a_7_Cut y7.1.fCut.length c_7_Cut)
  replace rowR := rowR.keep kT (by omega)
  replace hr := hr'.keep kT (by omega) (fun b hb e => by have := hpl b hb; omega)
  replace kk := (kk.trans k7).then kT (fun i hi e => by omega)
  replace q4 := (rList_lawful rGPair_lawful).mono ((rList_lawful rGPair_lawful).keep q4 kT (fun b hb e => hb.2.2 e)) (fun b hb => (⟨hb.1, Nat.lt_of_lt_of_le hb.2.1 kT.size, hb.2.2⟩ : NewBut w0.heap.size w1.heap.size (((((w8.setCell ⟨w1.heap.size, 10, none⟩ (.int .i64 y7.1.fEpoch)).setCell ⟨w1.heap.size, 11, none⟩ (.int .i64 y7.1.fBase)).setCell ⟨w1.heap.size, 12, none⟩ (.slice a_7_Spans y7.1.fSpans.length c_7_Spans)).setCell ⟨w1.heap.size, 13, none⟩ (.int .i64 y7.1.fMoving)).setCell ⟨w1.heap.size, 14, none⟩ (.slice a_7_Cut y7.1.fCut.length c_7_Cut)) b))
  replace q5 := (rList_lawful (rInt_lawful _)).mono ((rList_lawful (rInt_lawful _)).keep q5 kT (fun b hb e => hb.2.2 e)) (fun b hb => (⟨hb.1, Nat.lt_of_lt_of_le hb.2.1 kT.size, hb.2.2⟩ : NewBut w0.heap.size w1.heap.size (((((w8.setCell ⟨w1.heap.size, 10, none⟩ (.int .i64 y7.1.fEpoch)).setCell ⟨w1.heap.size, 11, none⟩ (.int .i64 y7.1.fBase)).setCell ⟨w1.heap.size, 12, none⟩ (.slice a_7_Spans y7.1.fSpans.length c_7_Spans)).setCell ⟨w1.heap.size, 13, none⟩ (.int .i64 y7.1.fMoving)).setCell ⟨w1.heap.size, 14, none⟩ (.slice a_7_Cut y7.1.fCut.length c_7_Cut)) b))
  replace q6 := rGCatalog_lawful.mono (rGCatalog_lawful.keep q6 kT (fun b hb e => hb.2.2 e)) (fun b hb => (⟨hb.1, Nat.lt_of_lt_of_le hb.2.1 kT.size, hb.2.2⟩ : NewBut w0.heap.size w1.heap.size (((((w8.setCell ⟨w1.heap.size, 10, none⟩ (.int .i64 y7.1.fEpoch)).setCell ⟨w1.heap.size, 11, none⟩ (.int .i64 y7.1.fBase)).setCell ⟨w1.heap.size, 12, none⟩ (.slice a_7_Spans y7.1.fSpans.length c_7_Spans)).setCell ⟨w1.heap.size, 13, none⟩ (.int .i64 y7.1.fMoving)).setCell ⟨w1.heap.size, 14, none⟩ (.slice a_7_Cut y7.1.fCut.length c_7_Cut)) b))
  replace q7 := rGRoutes_lawful.mono (rGRoutes_lawful.keep q7 kT (fun b hb e => hb.2.2 e)) (fun b hb => (⟨hb.1, Nat.lt_of_lt_of_le hb.2.1 kT.size, hb.2.2⟩ : NewBut w0.heap.size w1.heap.size (((((w8.setCell ⟨w1.heap.size, 10, none⟩ (.int .i64 y7.1.fEpoch)).setCell ⟨w1.heap.size, 11, none⟩ (.int .i64 y7.1.fBase)).setCell ⟨w1.heap.size, 12, none⟩ (.slice a_7_Spans y7.1.fSpans.length c_7_Spans)).setCell ⟨w1.heap.size, 13, none⟩ (.int .i64 y7.1.fMoving)).setCell ⟨w1.heap.size, 14, none⟩ (.slice a_7_Cut y7.1.fCut.length c_7_Cut)) b))
  clear hr' k7 kT rTl
  go_wp2_with fail
  clear xc0 xf0 xc1 xf1 xc2 xf2 xc3 xf3 xc4 xf4
  have HE : Hid (pGReply ⟨l, 0, 0, []⟩ = (⟨y0.1, y1.1, y2.1, y3.1, y4.1, y5.1, y6.1, y7.1⟩, y7.2)) := by show _ = _; simp only [pGReply, hy0.out, hy1.out, hy2.out, hy3.out, hy4.out, hy5.out, hy6.out, hy7.out]
  go_fit (iend_c x p _ _ hr)
  rintro e wE ⟨rfl, kE⟩
  replace rowT := rowT.keep kE id
  replace rowR := rowR.keep kE id
  replace q4 := (rList_lawful rGPair_lawful).mono ((rList_lawful rGPair_lawful).nix q4 kE) (fun b hb => (⟨hb.1, Nat.lt_of_lt_of_le hb.2.1 kE.size, hb.2.2⟩ : NewBut w0.heap.size w1.heap.size wE b))
  replace q5 := (rList_lawful (rInt_lawful _)).mono ((rList_lawful (rInt_lawful _)).nix q5 kE) (fun b hb => (⟨hb.1, Nat.lt_of_lt_of_le hb.2.1 kE.size, hb.2.2⟩ : NewBut w0.heap.size w1.heap.size wE b))
  replace q6 := rGCatalog_lawful.mono (rGCatalog_lawful.nix q6 kE) (fun b hb => (⟨hb.1, Nat.lt_of_lt_of_le hb.2.1 kE.size, hb.2.2⟩ : NewBut w0.heap.size w1.heap.size wE b))
  replace q7 := rGRoutes_lawful.mono (rGRoutes_lawful.nix q7 kE) (fun b hb => (⟨hb.1, Nat.lt_of_lt_of_le hb.2.1 kE.size, hb.2.2⟩ : NewBut w0.heap.size w1.heap.size wE b))
  have kk3 : Keep Nix w wE := kko.then (kk.trans kE.nix) (fun i hi e => by omega)
  have kEs := kE.size
  have hTl := rowT.lt
  clear kE hr kk
  rcases test_eq (endS y7.2) 0 with ⟨t, he⟩ | ⟨t, he⟩
  · have t' : (endS y7.2 != 0) = false := by simp [he.out]
    have hld : (wholeSem 55 (.pointer (some ⟨w1.heap.size, 0, none⟩))).run Tryz.prog wE = .ok (.value (.agg #[.int .i64 y0.1, .int .u64 y1.1, .int .i64 y2.1, .bool y3.1, .slice a4 y4.1.length cc4, .slice a5 y5.1.length cc5, .int .i64 y6.1.fVersion, .int .i64 y6.1.fNext, .slice a_6_Tables y6.1.fTables.length c_6_Tables, .slice a_6_Indexes y6.1.fIndexes.length c_6_Indexes, .int .i64 y7.1.fEpoch, .int .i64 y7.1.fBase, .slice a_7_Spans y7.1.fSpans.length c_7_Spans, .int .i64 y7.1.fMoving, .slice a_7_Cut y7.1.fCut.length c_7_Cut])) wE := Whole.row S_Reply rfl rowT
    have hst := store_run (P := Tryz.prog) (cs := [.int .i64 y0.1, .int .u64 y1.1, .int .i64 y2.1, .bool y3.1, .slice a4 y4.1.length cc4, .slice a5 y5.1.length cc5, .int .i64 y6.1.fVersion, .int .i64 y6.1.fNext, .slice a_6_Tables y6.1.fTables.length c_6_Tables, .slice a_6_Indexes y6.1.fIndexes.length c_6_Indexes, .int .i64 y7.1.fEpoch, .int .i64 y7.1.fBase, .slice a_7_Spans y7.1.fSpans.length c_7_Spans, .int .i64 y7.1.fMoving, .slice a_7_Cut y7.1.fCut.length c_7_Cut]) S_Reply rowR rfl rfl rfl
    have rowF := rowR.setRow [.int .i64 y0.1, .int .u64 y1.1, .int .i64 y2.1, .bool y3.1, .slice a4 y4.1.length cc4, .slice a5 y5.1.length cc5, .int .i64 y6.1.fVersion, .int .i64 y6.1.fNext, .slice a_6_Tables y6.1.fTables.length c_6_Tables, .slice a_6_Indexes y6.1.fIndexes.length c_6_Indexes, .int .i64 y7.1.fEpoch, .int .i64 y7.1.fBase, .slice a_7_Spans y7.1.fSpans.length c_7_Spans, .int .i64 y7.1.fMoving, .slice a_7_Cut y7.1.fCut.length c_7_Cut]
    have kS := (Keep.refl (· = w.heap.size) wE).setRow (fun _ => rfl) (#[.int .i64 y0.1, .int .u64 y1.1, .int .i64 y2.1, .bool y3.1, .slice a4 y4.1.length cc4, .slice a5 y5.1.length cc5, .int .i64 y6.1.fVersion, .int .i64 y6.1.fNext, .slice a_6_Tables y6.1.fTables.length c_6_Tables, .slice a_6_Indexes y6.1.fIndexes.length c_6_Indexes, .int .i64 y7.1.fEpoch, .int .i64 y7.1.fBase, .slice a_7_Spans y7.1.fSpans.length c_7_Spans, .int .i64 y7.1.fMoving, .slice a_7_Cut y7.1.fCut.length c_7_Cut] : Array Value)
    clear rowT
    go_wp2_with fail
    refine bodyPost_ret (results_cell_row2 (by rfl) _ _ _ _ _ _ _ (by rfl) rowF Tryz.underlying55 (by rfl) S_Reply.info) rfl ?_
    unfold takeP
    rw [HE.out, endP_ok (y := ((⟨y0.1, y1.1, y2.1, y3.1, y4.1, y5.1, y6.1, y7.1⟩ : GReply), y7.2)) he.out]
    replace q4 := (rList_lawful rGPair_lawful).mono ((rList_lawful rGPair_lawful).keep q4 kS (fun b hb e => by have := hb.1; omega)) (fun b hb => (⟨by have := hb.1; omega, Nat.lt_of_lt_of_le hb.2.1 kS.size⟩ : NewIn w (wE.setRow w.heap.size #[.int .i64 y0.1, .int .u64 y1.1, .int .i64 y2.1, .bool y3.1, .slice a4 y4.1.length cc4, .slice a5 y5.1.length cc5, .int .i64 y6.1.fVersion, .int .i64 y6.1.fNext, .slice a_6_Tables y6.1.fTables.length c_6_Tables, .slice a_6_Indexes y6.1.fIndexes.length c_6_Indexes, .int .i64 y7.1.fEpoch, .int .i64 y7.1.fBase, .slice a_7_Spans y7.1.fSpans.length c_7_Spans, .int .i64 y7.1.fMoving, .slice a_7_Cut y7.1.fCut.length c_7_Cut]) b))
    replace q5 := (rList_lawful (rInt_lawful _)).mono ((rList_lawful (rInt_lawful _)).keep q5 kS (fun b hb e => by have := hb.1; omega)) (fun b hb => (⟨by have := hb.1; omega, Nat.lt_of_lt_of_le hb.2.1 kS.size⟩ : NewIn w (wE.setRow w.heap.size #[.int .i64 y0.1, .int .u64 y1.1, .int .i64 y2.1, .bool y3.1, .slice a4 y4.1.length cc4, .slice a5 y5.1.length cc5, .int .i64 y6.1.fVersion, .int .i64 y6.1.fNext, .slice a_6_Tables y6.1.fTables.length c_6_Tables, .slice a_6_Indexes y6.1.fIndexes.length c_6_Indexes, .int .i64 y7.1.fEpoch, .int .i64 y7.1.fBase, .slice a_7_Spans y7.1.fSpans.length c_7_Spans, .int .i64 y7.1.fMoving, .slice a_7_Cut y7.1.fCut.length c_7_Cut]) b))
    replace q6 := rGCatalog_lawful.mono (rGCatalog_lawful.keep q6 kS (fun b hb e => by have := hb.1; omega)) (fun b hb => (⟨by have := hb.1; omega, Nat.lt_of_lt_of_le hb.2.1 kS.size⟩ : NewIn w (wE.setRow w.heap.size #[.int .i64 y0.1, .int .u64 y1.1, .int .i64 y2.1, .bool y3.1, .slice a4 y4.1.length cc4, .slice a5 y5.1.length cc5, .int .i64 y6.1.fVersion, .int .i64 y6.1.fNext, .slice a_6_Tables y6.1.fTables.length c_6_Tables, .slice a_6_Indexes y6.1.fIndexes.length c_6_Indexes, .int .i64 y7.1.fEpoch, .int .i64 y7.1.fBase, .slice a_7_Spans y7.1.fSpans.length c_7_Spans, .int .i64 y7.1.fMoving, .slice a_7_Cut y7.1.fCut.length c_7_Cut]) b))
    replace q7 := rGRoutes_lawful.mono (rGRoutes_lawful.keep q7 kS (fun b hb e => by have := hb.1; omega)) (fun b hb => (⟨by have := hb.1; omega, Nat.lt_of_lt_of_le hb.2.1 kS.size⟩ : NewIn w (wE.setRow w.heap.size #[.int .i64 y0.1, .int .u64 y1.1, .int .i64 y2.1, .bool y3.1, .slice a4 y4.1.length cc4, .slice a5 y5.1.length cc5, .int .i64 y6.1.fVersion, .int .i64 y6.1.fNext, .slice a_6_Tables y6.1.fTables.length c_6_Tables, .slice a_6_Indexes y6.1.fIndexes.length c_6_Indexes, .int .i64 y7.1.fEpoch, .int .i64 y7.1.fBase, .slice a_7_Spans y7.1.fSpans.length c_7_Spans, .int .i64 y7.1.fMoving, .slice a_7_Cut y7.1.fCut.length c_7_Cut]) b))
    exact ⟨[.int .i64 y0.1, .int .u64 y1.1, .int .i64 y2.1, .bool y3.1, .slice a4 y4.1.length cc4, .slice a5 y5.1.length cc5, .int .i64 y6.1.fVersion, .int .i64 y6.1.fNext, .slice a_6_Tables y6.1.fTables.length c_6_Tables, .slice a_6_Indexes y6.1.fIndexes.length c_6_Indexes, .int .i64 y7.1.fEpoch, .int .i64 y7.1.fBase, .slice a_7_Spans y7.1.fSpans.length c_7_Spans, .int .i64 y7.1.fMoving, .slice a_7_Cut y7.1.fCut.length c_7_Cut], rfl, ⟨[.int .i64 y0.1], [.int .u64 y1.1], [.int .i64 y2.1], [.bool y3.1], [.slice a4 y4.1.length cc4], [.slice a5 y5.1.length cc5], [.int .i64 y6.1.fVersion, .int .i64 y6.1.fNext, .slice a_6_Tables y6.1.fTables.length c_6_Tables, .slice a_6_Indexes y6.1.fIndexes.length c_6_Indexes], [.int .i64 y7.1.fEpoch, .int .i64 y7.1.fBase, .slice a_7_Spans y7.1.fSpans.length c_7_Spans, .int .i64 y7.1.fMoving, .slice a_7_Cut y7.1.fCut.length c_7_Cut], rfl, ⟨rfl, wf0.out⟩, ⟨rfl, wf1.out⟩, ⟨rfl, wf2.out⟩, rfl, q4, q5, q6, q7⟩, rfl, kk3.then kS (fun i hi e => by omega)⟩
  · have t' : (endS y7.2 != 0) = true := by simp [he]
    have HNE := Lib.hid he
    clear he
    have hst := store_run (P := Tryz.prog) (cs := [.int .i64 0, .int .u64 0, .int .i64 0, .bool false, .slice none 0 0, .slice none 0 0, .int .i64 0, .int .i64 0, .slice none 0 0, .slice none 0 0, .int .i64 0, .int .i64 0, .slice none 0 0, .int .i64 0, .slice none 0 0]) S_Reply rowR rfl rfl rfl
    have rowF := rowR.setRow [.int .i64 0, .int .u64 0, .int .i64 0, .bool false, .slice none 0 0, .slice none 0 0, .int .i64 0, .int .i64 0, .slice none 0 0, .slice none 0 0, .int .i64 0, .int .i64 0, .slice none 0 0, .int .i64 0, .slice none 0 0]
    have kS := (Keep.refl (· = w.heap.size) wE).setRow (fun _ => rfl) (#[.int .i64 0, .int .u64 0, .int .i64 0, .bool false, .slice none 0 0, .slice none 0 0, .int .i64 0, .int .i64 0, .slice none 0 0, .slice none 0 0, .int .i64 0, .int .i64 0, .slice none 0 0, .int .i64 0, .slice none 0 0] : Array Value)
    clear rowT
    go_wp2_with fail
    refine bodyPost_ret (results_cell_row2 (by rfl) _ _ _ _ _ _ _ (by rfl) rowF Tryz.underlying55 (by rfl) S_Reply.info) rfl ?_
    unfold takeP
    rw [HE.out, endP_no (y := ((⟨y0.1, y1.1, y2.1, y3.1, y4.1, y5.1, y6.1, y7.1⟩ : GReply), y7.2)) HNE.out]
    exact ⟨[.int .i64 0, .int .u64 0, .int .i64 0, .bool false, .slice none 0 0, .slice none 0 0, .int .i64 0, .int .i64 0, .slice none 0 0, .slice none 0 0, .int .i64 0, .int .i64 0, .slice none 0 0, .int .i64 0, .slice none 0 0], rfl, zGReply_r _ _, rfl, kk3.then kS (fun i hi e => by omega)⟩
end
end Go.Proofs.YtabgbleldbapbaaGreat
