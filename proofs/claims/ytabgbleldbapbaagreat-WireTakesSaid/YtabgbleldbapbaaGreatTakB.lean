/- WHAT BYTES ARE TAKEN AS. Printed by gen10.py. -/
import Derived.Test.YtabgbleldbapbaaGreatInD
import Derived.Test.YtabgbleldbapbaaGreatInC
import Derived.Test.YtabgbleldbapbaaGreatTakC
namespace Go.Proofs.YtabgbleldbapbaaGreat
open Go.RowKit

theorem ldt_Call (a : Act) (dst : Option Tmp) (x : Operand) (ty : TypeId) (pos : String) (after : Array Edge) (guard : Option (Nat × Bool)) : execOp a.eval { dst := dst, op := .load 27 x, type := ty, pos := pos, after := after, guard := guard } = wholeSem 27 (a.eval x) := rfl
section
attribute [local go_sem ↓] ldt_Call st_Call
set_option maxRecDepth 100000 in
set_option maxHeartbeats 8000000 in
theorem iTakeCall_c {p0 : Nat → Prop} (a : Option Addr) (n ca : Nat) (l : List UInt8) (w : World) (hn : l.length = n) (ha : Lies w p0 a (l.map bv)) (hr0 : n ≤ 140737488355328) :
    Calls Tryz.prog 8 #[.slice a n ca] w (Took rGCall w (takeP pGCall zGCall l)) := by
  have rowR : RowIs (w.alloc (.cells #[.int .u64 0, .int .u64 0, .slice none 0 0] 27)) w.heap.size 27 [.int .u64 0, .int .u64 0, .slice none 0 0] := RowIs.alloc w _ _
  have ha1 := ha.keep ((Keep.refl Nix w).alloc (.cells #[.int .u64 0, .int .u64 0, .slice none 0 0] 27)) (fun _ _ h => h)
  have HN := Lib.hid hn
  have kko : Keep Nix w (w.alloc (.cells #[.int .u64 0, .int .u64 0, .slice none 0 0] 27)) := (Keep.refl Nix w).alloc _
  clear hn ha
  go_enter Tryz.func8, Tryz.ntmps8
  go_wp2_with fail
  go_fit (open_c a n ca l _ HN.out ha1 hr0)
  rintro e w0 ⟨x, rfl, hx, hr0', ko⟩
  have hx1 : w.heap.size < x := by simp at hx; omega
  replace rowR := rowR.keep ko id
  have hR0 := rowR.lt
  obtain ⟨p, hpl, hpn, hr⟩ : ∃ p : Nat → Prop, (∀ b, p b → b < w0.heap.size) ∧ (∀ b, p b → w.heap.size < b) ∧ IsIn w0 x p ⟨l, 0, 0, []⟩ := ⟨_, fun b hb => hb.2.1, fun b hb => by have := hb.1; simp at this; omega, hr0'⟩
  have hlt := hr.lt
  have kk : Keep (· = x) w0 w0 := Keep.refl _ _
  replace kko := kko.trans ko
  have hks := kko.size
  clear hr0' ko ha1 hx
  go_wp2_with fail
  go_fit (inum_g x p _ _ hr)
  rintro e w1 ⟨rfl, hr', k0⟩
  have wf0 : Hid ((Lit.int .u64 (pNum (⟨l, 0, 0, []⟩ : RdS)).1).wf = true) := num_wf (numS_lt maxU _)
  generalize hy0 : pNum (⟨l, 0, 0, []⟩ : RdS) = y0 at hr' wf0 ⊢
  replace hy0 := Lib.hid hy0
  have rRl := rowR.lt
  have ks0 := k0.size
  replace rowR := rowR.keep k0 (by omega)
  have rRl1 := rowR.lt
  have hst0 := store_run (P := Tryz.prog) (cs := [.int .u64 y0.1, .int .u64 0, .slice none 0 0]) S_Call (RowIs.alloc w1 #[.int .u64 0, .int .u64 0, .slice none 0 0] 27) rfl rfl rfl
  have rowT := (RowIs.alloc w1 #[.int .u64 0, .int .u64 0, .slice none 0 0] 27).setRow [.int .u64 y0.1, .int .u64 0, .slice none 0 0]
  have kT := ((Keep.refl (· = w1.heap.size) w1).alloc (.cells #[.int .u64 0, .int .u64 0, .slice none 0 0] 27)).setRow (fun _ => rfl) (#[.int .u64 y0.1, .int .u64 0, .slice none 0 0] : Array Value)
  replace rowR := rowR.keep kT (by omega)
  have hr1 := hr'.lt
  have hxT : x < w1.heap.size := hr1
  replace hr := hr'.keep kT (by omega) (fun b hb e => by have := hpl b hb; omega)
  replace kk := (kk.trans k0).then kT (fun i hi e => by omega)
  clear hr' k0 kT hr1
  go_wp2_with fail
  clear hst0
  go_fit (inum_g x p _ _ hr)
  rintro e w2 ⟨rfl, hr', k1⟩
  have wf1 : Hid ((Lit.int .u64 (pNum y0.2).1).wf = true) := num_wf (numS_lt maxU _)
  generalize hy1 : pNum y0.2 = y1 at hr' wf1 ⊢
  replace hy1 := Lib.hid hy1
  have rTl := rowT.lt
  replace rowT := rowT.keep k1 (by omega)
  replace rowR := rowR.keep k1 (by omega)
  have xc0 : w2.cell? ⟨w1.heap.size, 1, none⟩ = some (.int .u64 0) := rowT.cell 1
  have xf0 : w2.frozen? ⟨w1.heap.size, 1, none⟩ = false := rowT.frozen 1
  replace rowT := rowT.set 1 (.int .u64 y1.1)
  replace rowT : RowIs (w2.setCell ⟨w1.heap.size, 1, none⟩ (.int .u64 y1.1)) w1.heap.size 27 [.int .u64 y0.1, .int .u64 y1.1, .slice none 0 0] := rowT
  have kT := (Keep.refl (· = w1.heap.size) w2).setCell (p := ⟨w1.heap.size, 1, none⟩) (fun _ => rfl) (.int .u64 y1.1)
  replace rowR := rowR.keep kT (by omega)
  replace hr := hr'.keep kT (by omega) (fun b hb e => by have := hpl b hb; omega)
  replace kk := (kk.trans k1).then kT (fun i hi e => by omega)
  clear hr' k1 kT rTl
  go_wp2_with fail
  clear xc0 xf0
  go_fit (ibytes_g x p _ _ hr)
  rintro e w3 ⟨v, rfl, q2, hr', k2⟩
  generalize hy2 : pBytes y1.2 = y2 at hr' q2
  replace hy2 := Lib.hid hy2
  obtain ⟨a2, cc2, hv, q2'⟩ := rBytes_open q2
  simp only [List.cons.injEq, and_true] at hv
  subst hv
  clear q2
  have q2 := q2'
  clear q2'
  have rTl := rowT.lt
  replace rowT := rowT.keep k2 (by omega)
  replace rowR := rowR.keep k2 (by omega)
  replace q2 := rBytes_lawful.mono q2 (fun b hb => (⟨by have := hb.1; omega, hb.2, by have := hb.1; omega⟩ : NewBut w0.heap.size w1.heap.size w3 b))
  have xc0 : w3.cell? ⟨w1.heap.size, 2, none⟩ = some (.slice none 0 0) := rowT.cell 2
  have xf0 : w3.frozen? ⟨w1.heap.size, 2, none⟩ = false := rowT.frozen 2
  replace rowT := rowT.set 2 (.slice a2 y2.1.length cc2)
  replace rowT : RowIs (w3.setCell ⟨w1.heap.size, 2, none⟩ (.slice a2 y2.1.length cc2)) w1.heap.size 27 [.int .u64 y0.1, .int .u64 y1.1, .slice a2 y2.1.length cc2] := rowT
  have kT := (Keep.refl (· = w1.heap.size) w3).setCell (p := ⟨w1.heap.size, 2, none⟩) (fun _ => rfl) (.slice a2 y2.1.length cc2)
  replace rowR := rowR.keep kT (by omega)
  replace hr := hr'.keep kT (by omega) (fun b hb e => by have := hpl b hb; omega)
  replace kk := (kk.trans k2).then kT (fun i hi e => by omega)
  replace q2 := rBytes_lawful.mono (rBytes_lawful.keep q2 kT (fun b hb e => hb.2.2 e)) (fun b hb => (⟨hb.1, Nat.lt_of_lt_of_le hb.2.1 kT.size, hb.2.2⟩ : NewBut w0.heap.size w1.heap.size (w3.setCell ⟨w1.heap.size, 2, none⟩ (.slice a2 y2.1.length cc2)) b))
  clear hr' k2 kT rTl
  go_wp2_with fail
  clear xc0 xf0
  have HE : Hid (pGCall ⟨l, 0, 0, []⟩ = (⟨y0.1, y1.1, y2.1⟩, y2.2)) := by show _ = _; simp only [pGCall, hy0.out, hy1.out, hy2.out]
  go_fit (iend_c x p _ _ hr)
  rintro e wE ⟨rfl, kE⟩
  replace rowT := rowT.keep kE id
  replace rowR := rowR.keep kE id
  replace q2 := rBytes_lawful.mono (rBytes_lawful.nix q2 kE) (fun b hb => (⟨hb.1, Nat.lt_of_lt_of_le hb.2.1 kE.size, hb.2.2⟩ : NewBut w0.heap.size w1.heap.size wE b))
  have kk3 : Keep Nix w wE := kko.then (kk.trans kE.nix) (fun i hi e => by omega)
  have kEs := kE.size
  have hTl := rowT.lt
  clear kE hr kk
  rcases test_eq (endS y2.2) 0 with ⟨t, he⟩ | ⟨t, he⟩
  · have t' : (endS y2.2 != 0) = false := by simp [he.out]
    have hld : (wholeSem 27 (.pointer (some ⟨w1.heap.size, 0, none⟩))).run Tryz.prog wE = .ok (.value (.agg #[.int .u64 y0.1, .int .u64 y1.1, .slice a2 y2.1.length cc2])) wE := Whole.row S_Call rfl rowT
    have hst := store_run (P := Tryz.prog) (cs := [.int .u64 y0.1, .int .u64 y1.1, .slice a2 y2.1.length cc2]) S_Call rowR rfl rfl rfl
    have rowF := rowR.setRow [.int .u64 y0.1, .int .u64 y1.1, .slice a2 y2.1.length cc2]
    have kS := (Keep.refl (· = w.heap.size) wE).setRow (fun _ => rfl) (#[.int .u64 y0.1, .int .u64 y1.1, .slice a2 y2.1.length cc2] : Array Value)
    clear rowT
    go_wp2_with fail
    refine bodyPost_ret (results_cell_row2 (by rfl) _ _ _ _ _ _ _ (by rfl) rowF Tryz.underlying27 (by rfl) S_Call.info) rfl ?_
    unfold takeP
    rw [HE.out, endP_ok (y := ((⟨y0.1, y1.1, y2.1⟩ : GCall), y2.2)) he.out]
    replace q2 := rBytes_lawful.mono (rBytes_lawful.keep q2 kS (fun b hb e => by have := hb.1; omega)) (fun b hb => (⟨by have := hb.1; omega, Nat.lt_of_lt_of_le hb.2.1 kS.size⟩ : NewIn w (wE.setRow w.heap.size #[.int .u64 y0.1, .int .u64 y1.1, .slice a2 y2.1.length cc2]) b))
    exact ⟨[.int .u64 y0.1, .int .u64 y1.1, .slice a2 y2.1.length cc2], rfl, ⟨[.int .u64 y0.1], [.int .u64 y1.1], [.slice a2 y2.1.length cc2], rfl, ⟨rfl, wf0.out⟩, ⟨rfl, wf1.out⟩, q2⟩, rfl, kk3.then kS (fun i hi e => by omega)⟩
  · have t' : (endS y2.2 != 0) = true := by simp [he]
    have HNE := Lib.hid he
    clear he
    have hst := store_run (P := Tryz.prog) (cs := [.int .u64 0, .int .u64 0, .slice none 0 0]) S_Call rowR rfl rfl rfl
    have rowF := rowR.setRow [.int .u64 0, .int .u64 0, .slice none 0 0]
    have kS := (Keep.refl (· = w.heap.size) wE).setRow (fun _ => rfl) (#[.int .u64 0, .int .u64 0, .slice none 0 0] : Array Value)
    clear rowT
    go_wp2_with fail
    refine bodyPost_ret (results_cell_row2 (by rfl) _ _ _ _ _ _ _ (by rfl) rowF Tryz.underlying27 (by rfl) S_Call.info) rfl ?_
    unfold takeP
    rw [HE.out, endP_no (y := ((⟨y0.1, y1.1, y2.1⟩ : GCall), y2.2)) HNE.out]
    exact ⟨[.int .u64 0, .int .u64 0, .slice none 0 0], rfl, zGCall_r _ _, rfl, kk3.then kS (fun i hi e => by omega)⟩
end
theorem ldt_Catalog (a : Act) (dst : Option Tmp) (x : Operand) (ty : TypeId) (pos : String) (after : Array Edge) (guard : Option (Nat × Bool)) : execOp a.eval { dst := dst, op := .load 50 x, type := ty, pos := pos, after := after, guard := guard } = wholeSem 50 (a.eval x) := rfl
section
attribute [local go_sem ↓] ldt_Catalog st_Catalog
set_option maxRecDepth 100000 in
set_option maxHeartbeats 8000000 in
theorem iTakeCatalog_c {p0 : Nat → Prop} (a : Option Addr) (n ca : Nat) (l : List UInt8) (w : World) (hn : l.length = n) (ha : Lies w p0 a (l.map bv)) (hr0 : n ≤ 140737488355328) :
    Calls Tryz.prog 14 #[.slice a n ca] w (Took rGCatalog w (takeP pGCatalog zGCatalog l)) := by
  have rowR : RowIs (w.alloc (.cells #[.int .i64 0, .int .i64 0, .slice none 0 0, .slice none 0 0] 50)) w.heap.size 50 [.int .i64 0, .int .i64 0, .slice none 0 0, .slice none 0 0] := RowIs.alloc w _ _
  have ha1 := ha.keep ((Keep.refl Nix w).alloc (.cells #[.int .i64 0, .int .i64 0, .slice none 0 0, .slice none 0 0] 50)) (fun _ _ h => h)
  have HN := Lib.hid hn
  have kko : Keep Nix w (w.alloc (.cells #[.int .i64 0, .int .i64 0, .slice none 0 0, .slice none 0 0] 50)) := (Keep.refl Nix w).alloc _
  clear hn ha
  go_enter Tryz.func14, Tryz.ntmps14
  go_wp2_with fail
  go_fit (open_c a n ca l _ HN.out ha1 hr0)
  rintro e w0 ⟨x, rfl, hx, hr0', ko⟩
  have hx1 : w.heap.size < x := by simp at hx; omega
  replace rowR := rowR.keep ko id
  have hR0 := rowR.lt
  obtain ⟨p, hpl, hpn, hr⟩ : ∃ p : Nat → Prop, (∀ b, p b → b < w0.heap.size) ∧ (∀ b, p b → w.heap.size < b) ∧ IsIn w0 x p ⟨l, 0, 0, []⟩ := ⟨_, fun b hb => hb.2.1, fun b hb => by have := hb.1; simp at this; omega, hr0'⟩
  have hlt := hr.lt
  have kk : Keep (· = x) w0 w0 := Keep.refl _ _
  replace kko := kko.trans ko
  have hks := kko.size
  clear hr0' ko ha1 hx
  go_wp2_with fail
  go_fit (iCatalog_c x p _ _ hr hpl)
  rintro e w1 ⟨cs, rfl, hc, ho, hr1, k1⟩
  have hlc := Lib.hid (rGCatalog_lawful.len hc)
  have HO := Lib.hid ho
  obtain ⟨y, HE⟩ : ∃ y, Hid (pGCatalog ⟨l, 0, 0, []⟩ = y) := ⟨_, rfl⟩
  rw [HE.out] at hc hr1
  have ks1 := k1.size
  have hr1l := hr1.lt
  replace rowR := rowR.keep k1 (by omega)
  have hst0 := store_run (P := Tryz.prog) (cs := cs) S_Catalog (RowIs.alloc w1 #[.int .i64 0, .int .i64 0, .slice none 0 0, .slice none 0 0] 50) rfl hlc.out HO.out
  have rowT := (RowIs.alloc w1 #[.int .i64 0, .int .i64 0, .slice none 0 0, .slice none 0 0] 50).setRow cs
  have kT := ((Keep.refl (· = w1.heap.size) w1).alloc (.cells #[.int .i64 0, .int .i64 0, .slice none 0 0, .slice none 0 0] 50)).setRow (fun _ => rfl) cs.toArray
  replace rowR := rowR.keep kT (by omega)
  replace hr := hr1.keep kT (by omega) (fun b hb e => by have := hpl b hb; omega)
  replace kk := (kk.trans k1).then kT (fun i hi e => by omega)
  replace hc := rGCatalog_lawful.keep hc kT (fun b hb e => by have := hb.2; omega)
  clear ho hr1 k1 kT
  go_wp2_with fail
  clear hst0
  go_fit (iend_c x p _ _ hr)
  rintro e wE ⟨rfl, kE⟩
  replace rowT := rowT.keep kE id
  replace rowR := rowR.keep kE id
  replace hc := rGCatalog_lawful.nix hc kE
  have kk3 : Keep Nix w wE := kko.then (kk.trans kE.nix) (fun i hi e => by omega)
  have kEs := kE.size
  have hTl := rowT.lt
  clear kE hr kk
  rcases test_eq (endS y.2) 0 with ⟨t, he⟩ | ⟨t, he⟩
  · have t' : (endS y.2 != 0) = false := by simp [he.out]
    have hld : (wholeSem 50 (.pointer (some ⟨w1.heap.size, 0, none⟩))).run Tryz.prog wE = .ok (.value (.agg cs.toArray)) wE := Whole.row S_Catalog hlc.out rowT
    have hst := store_run (P := Tryz.prog) (cs := cs) S_Catalog rowR rfl hlc.out HO.out
    have rowF := rowR.setRow cs
    have kS := (Keep.refl (· = w.heap.size) wE).setRow (fun _ => rfl) (cs.toArray : Array Value)
    have hin : (Tryz.prog.info? 50).map (·.size) = some cs.toArray.size := by rw [List.size_toArray, hlc.out]; exact S_Catalog.info
    have HIN := Lib.hid hin
    clear hin
    clear rowT
    go_wp2_with fail
    refine bodyPost_ret (results_cell_row2 (by rfl) _ _ _ _ _ _ _ (by rfl) rowF Tryz.underlying50 (by rfl) HIN.out) rfl ?_
    unfold takeP
    rw [HE.out, endP_ok (y := y) he.out]
    exact ⟨cs, rfl, rGCatalog_lawful.mono (rGCatalog_lawful.keep hc kS (fun b hb e => by have := hb.1; omega)) (fun b hb => (⟨by have := hb.1; omega, by have := hb.2; have := kS.size; omega⟩ : NewIn w (wE.setRow w.heap.size cs.toArray) b)), HO.out, kk3.then kS (fun i hi e => by omega)⟩
  · have t' : (endS y.2 != 0) = true := by simp [he]
    have HNE := Lib.hid he
    clear he
    have hst := store_run (P := Tryz.prog) (cs := [.int .i64 0, .int .i64 0, .slice none 0 0, .slice none 0 0]) S_Catalog rowR rfl rfl rfl
    have rowF := rowR.setRow [.int .i64 0, .int .i64 0, .slice none 0 0, .slice none 0 0]
    have kS := (Keep.refl (· = w.heap.size) wE).setRow (fun _ => rfl) (#[.int .i64 0, .int .i64 0, .slice none 0 0, .slice none 0 0] : Array Value)
    clear rowT
    go_wp2_with fail
    refine bodyPost_ret (results_cell_row2 (by rfl) _ _ _ _ _ _ _ (by rfl) rowF Tryz.underlying50 (by rfl) S_Catalog.info) rfl ?_
    unfold takeP
    rw [HE.out, endP_no (y := y) HNE.out]
    exact ⟨[.int .i64 0, .int .i64 0, .slice none 0 0, .slice none 0 0], rfl, zGCatalog_r _ _, rfl, kk3.then kS (fun i hi e => by omega)⟩
end
theorem ldt_Ask (a : Act) (dst : Option Tmp) (x : Operand) (ty : TypeId) (pos : String) (after : Array Edge) (guard : Option (Nat × Bool)) : execOp a.eval { dst := dst, op := .load 62 x, type := ty, pos := pos, after := after, guard := guard } = wholeSem 62 (a.eval x) := rfl
section
attribute [local go_sem ↓] ldt_Ask st_Ask
set_option maxRecDepth 100000 in
set_option maxHeartbeats 8000000 in
theorem iTakeAsk_c {p0 : Nat → Prop} (a : Option Addr) (n ca : Nat) (l : List UInt8) (w : World) (hn : l.length = n) (ha : Lies w p0 a (l.map bv)) (hr0 : n ≤ 140737488355328) :
    Calls Tryz.prog 16 #[.slice a n ca] w (Took rGAsk w (takeP pGAsk zGAsk l)) := by
  have rowR : RowIs (w.alloc (.cells #[.int .i64 0, .slice none 0 0, .int .i64 0, .string { data := #[] }, .slice none 0 0, .slice none 0 0, .int .i64 0, .int .i64 0, .string { data := #[] }, .slice none 0 0, .bool false, .int .i64 0, .bool false, .string { data := #[] }, .int .i64 0, .slice none 0 0] 62)) w.heap.size 62 [.int .i64 0, .slice none 0 0, .int .i64 0, .string { data := #[] }, .slice none 0 0, .slice none 0 0, .int .i64 0, .int .i64 0, .string { data := #[] }, .slice none 0 0, .bool false, .int .i64 0, .bool false, .string { data := #[] }, .int .i64 0, .slice none 0 0] := RowIs.alloc w _ _
  have ha1 := ha.keep ((Keep.refl Nix w).alloc (.cells #[.int .i64 0, .slice none 0 0, .int .i64 0, .string { data := #[] }, .slice none 0 0, .slice none 0 0, .int .i64 0, .int .i64 0, .string { data := #[] }, .slice none 0 0, .bool false, .int .i64 0, .bool false, .string { data := #[] }, .int .i64 0, .slice none 0 0] 62)) (fun _ _ h => h)
  have HN := Lib.hid hn
  have kko : Keep Nix w (w.alloc (.cells #[.int .i64 0, .slice none 0 0, .int .i64 0, .string { data := #[] }, .slice none 0 0, .slice none 0 0, .int .i64 0, .int .i64 0, .string { data := #[] }, .slice none 0 0, .bool false, .int .i64 0, .bool false, .string { data := #[] }, .int .i64 0, .slice none 0 0] 62)) := (Keep.refl Nix w).alloc _
  clear hn ha
  go_enter Tryz.func16, Tryz.ntmps16
  go_wp2_with fail
  go_fit (open_c a n ca l _ HN.out ha1 hr0)
  rintro e w0 ⟨x, rfl, hx, hr0', ko⟩
  have hx1 : w.heap.size < x := by simp at hx; omega
  replace rowR := rowR.keep ko id
  have hR0 := rowR.lt
  obtain ⟨p, hpl, hpn, hr⟩ : ∃ p : Nat → Prop, (∀ b, p b → b < w0.heap.size) ∧ (∀ b, p b → w.heap.size < b) ∧ IsIn w0 x p ⟨l, 0, 0, []⟩ := ⟨_, fun b hb => hb.2.1, fun b hb => by have := hb.1; simp at this; omega, hr0'⟩
  have hlt := hr.lt
  have kk : Keep (· = x) w0 w0 := Keep.refl _ _
  replace kko := kko.trans ko
  have hks := kko.size
  clear hr0' ko ha1 hx
  go_wp2_with fail
  go_fit (iint_g x p _ _ hr)
  rintro e w1 ⟨rfl, hr', k0⟩
  have wf0 : Hid ((Lit.int .i64 (pInt (⟨l, 0, 0, []⟩ : RdS)).1).wf = true) := zag_wf (numS_lt maxU _)
  generalize hy0 : pInt (⟨l, 0, 0, []⟩ : RdS) = y0 at hr' wf0 ⊢
  replace hy0 := Lib.hid hy0
  have rRl := rowR.lt
  have ks0 := k0.size
  replace rowR := rowR.keep k0 (by omega)
  have rRl1 := rowR.lt
  have hst0 := store_run (P := Tryz.prog) (cs := [.int .i64 y0.1, .slice none 0 0, .int .i64 0, .string { data := #[] }, .slice none 0 0, .slice none 0 0, .int .i64 0, .int .i64 0, .string { data := #[] }, .slice none 0 0, .bool false, .int .i64 0, .bool false, .string { data := #[] }, .int .i64 0, .slice none 0 0]) S_Ask (RowIs.alloc w1 #[.int .i64 0, .slice none 0 0, .int .i64 0, .string { data := #[] }, .slice none 0 0, .slice none 0 0, .int .i64 0, .int .i64 0, .string { data := #[] }, .slice none 0 0, .bool false, .int .i64 0, .bool false, .string { data := #[] }, .int .i64 0, .slice none 0 0] 62) rfl rfl rfl
  have rowT := (RowIs.alloc w1 #[.int .i64 0, .slice none 0 0, .int .i64 0, .string { data := #[] }, .slice none 0 0, .slice none 0 0, .int .i64 0, .int .i64 0, .string { data := #[] }, .slice none 0 0, .bool false, .int .i64 0, .bool false, .string { data := #[] }, .int .i64 0, .slice none 0 0] 62).setRow [.int .i64 y0.1, .slice none 0 0, .int .i64 0, .string { data := #[] }, .slice none 0 0, .slice none 0 0, .int .i64 0, .int .i64 0, .string { data := #[] }, .slice none 0 0, .bool false, .int .i64 0, .bool false, .string { data := #[] }, .int .i64 0, .slice none 0 0]
  have kT := ((Keep.refl (· = w1.heap.size) w1).alloc (.cells #[.int .i64 0, .slice none 0 0, .int .i64 0, .string { data := #[] }, .slice none 0 0, .slice none 0 0, .int .i64 0, .int .i64 0, .string { data := #[] }, .slice none 0 0, .bool false, .int .i64 0, .bool false, .string { data := #[] }, .int .i64 0, .slice none 0 0] 62)).setRow (fun _ => rfl) (#[.int .i64 y0.1, .slice none 0 0, .int .i64 0, .string { data := #[] }, .slice none 0 0, .slice none 0 0, .int .i64 0, .int .i64 0, .string { data := #[] }, .slice none 0 0, .bool false, .int .i64 0, .bool false, .string { data := #[] }, .int .i64 0, .slice none 0 0] : Array Value)
  replace rowR := rowR.keep kT (by omega)
  have hr1 := hr'.lt
  have hxT : x < w1.heap.size := hr1
  replace hr := hr'.keep kT (by omega) (fun b hb e => by have := hpl b hb; omega)
  replace kk := (kk.trans k0).then kT (fun i hi e => by omega)
  clear hr' k0 kT hr1
  go_wp2_with fail
  clear hst0
  go_fit (ilOp_c x p _ _ hr (fun b hb => Nat.lt_of_lt_of_le (hpl b hb) kk.size))
  rintro e w2 ⟨v, rfl, q1, hr', k1⟩
  generalize hy1 : (pList pGOp) y0.2 = y1 at hr' q1
  replace hy1 := Lib.hid hy1
  obtain ⟨a1, cc1, hv, q1'⟩ := rList_open q1
  simp only [List.cons.injEq, and_true] at hv
  subst hv
  clear q1
  have q1 := q1'
  clear q1'
  have rTl := rowT.lt
  replace rowT := rowT.keep k1 (by omega)
  replace rowR := rowR.keep k1 (by omega)
  replace q1 := (rList_lawful rGOp_lawful).mono q1 (fun b hb => (⟨by have := hb.1; omega, hb.2, by have := hb.1; omega⟩ : NewBut w0.heap.size w1.heap.size w2 b))
  have xc0 : w2.cell? ⟨w1.heap.size, 1, none⟩ = some (.slice none 0 0) := rowT.cell 1
  have xf0 : w2.frozen? ⟨w1.heap.size, 1, none⟩ = false := rowT.frozen 1
  replace rowT := rowT.set 1 (.slice a1 y1.1.length cc1)
  replace rowT : RowIs (w2.setCell ⟨w1.heap.size, 1, none⟩ (.slice a1 y1.1.length cc1)) w1.heap.size 62 [.int .i64 y0.1, .slice a1 y1.1.length cc1, .int .i64 0, .string { data := #[] }, .slice none 0 0, .slice none 0 0, .int .i64 0, .int .i64 0, .string { data := #[] }, .slice none 0 0, .bool false, .int .i64 0, .bool false, .string { data := #[] }, .int .i64 0, .slice none 0 0] := rowT
  have kT := (Keep.refl (· = w1.heap.size) w2).setCell (p := ⟨w1.heap.size, 1, none⟩) (fun _ => rfl) (.slice a1 y1.1.length cc1)
  replace rowR := rowR.keep kT (by omega)
  replace hr := hr'.keep kT (by omega) (fun b hb e => by have := hpl b hb; omega)
  replace kk := (kk.trans k1).then kT (fun i hi e => by omega)
  replace q1 := (rList_lawful rGOp_lawful).mono ((rList_lawful rGOp_lawful).keep q1 kT (fun b hb e => hb.2.2 e)) (fun b hb => (⟨hb.1, Nat.lt_of_lt_of_le hb.2.1 kT.size, hb.2.2⟩ : NewBut w0.heap.size w1.heap.size (w2.setCell ⟨w1.heap.size, 1, none⟩ (.slice a1 y1.1.length cc1)) b))
  clear hr' k1 kT rTl
  go_wp2_with fail
  clear xc0 xf0
  go_fit (iTable_c x p _ _ hr (fun b hb => Nat.lt_of_lt_of_le (hpl b hb) kk.size))
  rintro e w3 ⟨c2, rfl, q2, -, hr', k2⟩
  generalize hy2 : pGTable y1.2 = y2 at hr' q2
  replace hy2 := Lib.hid hy2
  obtain ⟨a_2_Columns, c_2_Columns, a_2_Key, c_2_Key, hce, -⟩ := rGTable_open q2
  subst hce
  have rTl := rowT.lt
  replace rowT := rowT.keep k2 (by omega)
  replace rowR := rowR.keep k2 (by omega)
  replace q1 := (rList_lawful rGOp_lawful).mono ((rList_lawful rGOp_lawful).keep q1 k2 (fun b hb e => by have := hb.1; omega)) (fun b hb => (⟨hb.1, Nat.lt_of_lt_of_le hb.2.1 k2.size, hb.2.2⟩ : NewBut w0.heap.size w1.heap.size w3 b))
  replace q2 := rGTable_lawful.mono q2 (fun b hb => (⟨by have := hb.1; omega, hb.2, by have := hb.1; omega⟩ : NewBut w0.heap.size w1.heap.size w3 b))
  have xc0 : w3.cell? ⟨w1.heap.size, 2, none⟩ = some (.int .i64 0) := rowT.cell 2
  have xf0 : w3.frozen? ⟨w1.heap.size, 2, none⟩ = false := rowT.frozen 2
  have xc1 : w3.cell? ⟨w1.heap.size, 3, none⟩ = some (.string { data := #[] }) := rowT.cell 3
  have xf1 : w3.frozen? ⟨w1.heap.size, 3, none⟩ = false := rowT.frozen 3
  have xc2 : w3.cell? ⟨w1.heap.size, 4, none⟩ = some (.slice none 0 0) := rowT.cell 4
  have xf2 : w3.frozen? ⟨w1.heap.size, 4, none⟩ = false := rowT.frozen 4
  have xc3 : w3.cell? ⟨w1.heap.size, 5, none⟩ = some (.slice none 0 0) := rowT.cell 5
  have xf3 : w3.frozen? ⟨w1.heap.size, 5, none⟩ = false := rowT.frozen 5
  replace rowT := rowT.set 2 (.int .i64 y2.1.fID)
  replace rowT := rowT.set 3 (.string (strB y2.1.fName))
  replace rowT := rowT.set 4 (.slice a_2_Columns y2.1.fColumns.length c_2_Columns)
  replace rowT := rowT.set 5 (.slice a_2_Key y2.1.fKey.length c_2_Key)
  replace rowT : RowIs ((((w3.setCell ⟨w1.heap.size, 2, none⟩ (.int .i64 y2.1.fID)).setCell ⟨w1.heap.size, 3, none⟩ (.string (strB y2.1.fName))).setCell ⟨w1.heap.size, 4, none⟩ (.slice a_2_Columns y2.1.fColumns.length c_2_Columns)).setCell ⟨w1.heap.size, 5, none⟩ (.slice a_2_Key y2.1.fKey.length c_2_Key)) w1.heap.size 62 [.int .i64 y0.1, .slice a1 y1.1.length cc1, .int .i64 y2.1.fID, .string (strB y2.1.fName), .slice a_2_Columns y2.1.fColumns.length c_2_Columns, .slice a_2_Key y2.1.fKey.length c_2_Key, .int .i64 0, .int .i64 0, .string { data := #[] }, .slice none 0 0, .bool false, .int .i64 0, .bool false, .string { data := #[] }, .int .i64 0, .slice none 0 0] := rowT
  have kT := ((((Keep.refl (· = w1.heap.size) w3).setCell (p := ⟨w1.heap.size, 2, none⟩) (fun _ => rfl) (.int .i64 y2.1.fID)).setCell (p := ⟨w1.heap.size, 3, none⟩) (fun _ => rfl) (.string (strB y2.1.fName))).setCell (p := ⟨w1.heap.size, 4, none⟩) (fun _ => rfl) (.slice a_2_Columns y2.1.fColumns.length c_2_Columns)).setCell (p := ⟨w1.heap.size, 5, none⟩) (fun _ => rfl) (.slice a_2_Key y2.1.fKey.length c_2_Key)
  replace rowR := rowR.keep kT (by omega)
  replace hr := hr'.keep kT (by omega) (fun b hb e => by have := hpl b hb; omega)
  replace kk := (kk.trans k2).then kT (fun i hi e => by omega)
  replace q1 := (rList_lawful rGOp_lawful).mono ((rList_lawful rGOp_lawful).keep q1 kT (fun b hb e => hb.2.2 e)) (fun b hb => (⟨hb.1, Nat.lt_of_lt_of_le hb.2.1 kT.size, hb.2.2⟩ : NewBut w0.heap.size w1.heap.size ((((w3.setCell ⟨w1.heap.size, 2, none⟩ (.int .i64 y2.1.fID)).setCell ⟨w1.heap.size, 3, none⟩ (.string (strB y2.1.fName))).setCell ⟨w1.heap.size, 4, none⟩ (.slice a_2_Columns y2.1.fColumns.length c_2_Columns)).setCell ⟨w1.heap.size, 5, none⟩ (.slice a_2_Key y2.1.fKey.length c_2_Key)) b))
  replace q2 := rGTable_lawful.mono (rGTable_lawful.keep q2 kT (fun b hb e => hb.2.2 e)) (fun b hb => (⟨hb.1, Nat.lt_of_lt_of_le hb.2.1 kT.size, hb.2.2⟩ : NewBut w0.heap.size w1.heap.size ((((w3.setCell ⟨w1.heap.size, 2, none⟩ (.int .i64 y2.1.fID)).setCell ⟨w1.heap.size, 3, none⟩ (.string (strB y2.1.fName))).setCell ⟨w1.heap.size, 4, none⟩ (.slice a_2_Columns y2.1.fColumns.length c_2_Columns)).setCell ⟨w1.heap.size, 5, none⟩ (.slice a_2_Key y2.1.fKey.length c_2_Key)) b))
  clear hr' k2 kT rTl
  go_wp2_with fail
  clear xc0 xf0 xc1 xf1 xc2 xf2 xc3 xf3
  go_fit (iIndex_c x p _ _ hr (fun b hb => Nat.lt_of_lt_of_le (hpl b hb) kk.size))
  rintro e w4 ⟨c3, rfl, q3, -, hr', k3⟩
  generalize hy3 : pGIndex y2.2 = y3 at hr' q3
  replace hy3 := Lib.hid hy3
  obtain ⟨a_3_Columns, c_3_Columns, hce, -⟩ := rGIndex_open q3
  subst hce
  have rTl := rowT.lt
  replace rowT := rowT.keep k3 (by omega)
  replace rowR := rowR.keep k3 (by omega)
  replace q1 := (rList_lawful rGOp_lawful).mono ((rList_lawful rGOp_lawful).keep q1 k3 (fun b hb e => by have := hb.1; omega)) (fun b hb => (⟨hb.1, Nat.lt_of_lt_of_le hb.2.1 k3.size, hb.2.2⟩ : NewBut w0.heap.size w1.heap.size w4 b))
  replace q2 := rGTable_lawful.mono (rGTable_lawful.keep q2 k3 (fun b hb e => by have := hb.1; omega)) (fun b hb => (⟨hb.1, Nat.lt_of_lt_of_le hb.2.1 k3.size, hb.2.2⟩ : NewBut w0.heap.size w1.heap.size w4 b))
  replace q3 := rGIndex_lawful.mono q3 (fun b hb => (⟨by have := hb.1; omega, hb.2, by have := hb.1; omega⟩ : NewBut w0.heap.size w1.heap.size w4 b))
  have xc0 : w4.cell? ⟨w1.heap.size, 6, none⟩ = some (.int .i64 0) := rowT.cell 6
  have xf0 : w4.frozen? ⟨w1.heap.size, 6, none⟩ = false := rowT.frozen 6
  have xc1 : w4.cell? ⟨w1.heap.size, 7, none⟩ = some (.int .i64 0) := rowT.cell 7
  have xf1 : w4.frozen? ⟨w1.heap.size, 7, none⟩ = false := rowT.frozen 7
  have xc2 : w4.cell? ⟨w1.heap.size, 8, none⟩ = some (.string { data := #[] }) := rowT.cell 8
  have xf2 : w4.frozen? ⟨w1.heap.size, 8, none⟩ = false := rowT.frozen 8
  have xc3 : w4.cell? ⟨w1.heap.size, 9, none⟩ = some (.slice none 0 0) := rowT.cell 9
  have xf3 : w4.frozen? ⟨w1.heap.size, 9, none⟩ = false := rowT.frozen 9
  have xc4 : w4.cell? ⟨w1.heap.size, 10, none⟩ = some (.bool false) := rowT.cell 10
  have xf4 : w4.frozen? ⟨w1.heap.size, 10, none⟩ = false := rowT.frozen 10
  have xc5 : w4.cell? ⟨w1.heap.size, 11, none⟩ = some (.int .i64 0) := rowT.cell 11
  have xf5 : w4.frozen? ⟨w1.heap.size, 11, none⟩ = false := rowT.frozen 11
  have xc6 : w4.cell? ⟨w1.heap.size, 12, none⟩ = some (.bool false) := rowT.cell 12
  have xf6 : w4.frozen? ⟨w1.heap.size, 12, none⟩ = false := rowT.frozen 12
  replace rowT := rowT.set 6 (.int .i64 y3.1.fID)
  replace rowT := rowT.set 7 (.int .i64 y3.1.fTable)
  replace rowT := rowT.set 8 (.string (strB y3.1.fName))
  replace rowT := rowT.set 9 (.slice a_3_Columns y3.1.fColumns.length c_3_Columns)
  replace rowT := rowT.set 10 (.bool y3.1.fUnique)
  replace rowT := rowT.set 11 (.int .i64 y3.1.fState)
  replace rowT := rowT.set 12 (.bool y3.1.fBad)
  replace rowT : RowIs (((((((w4.setCell ⟨w1.heap.size, 6, none⟩ (.int .i64 y3.1.fID)).setCell ⟨w1.heap.size, 7, none⟩ (.int .i64 y3.1.fTable)).setCell ⟨w1.heap.size, 8, none⟩ (.string (strB y3.1.fName))).setCell ⟨w1.heap.size, 9, none⟩ (.slice a_3_Columns y3.1.fColumns.length c_3_Columns)).setCell ⟨w1.heap.size, 10, none⟩ (.bool y3.1.fUnique)).setCell ⟨w1.heap.size, 11, none⟩ (.int .i64 y3.1.fState)).setCell ⟨w1.heap.size, 12, none⟩ (.bool y3.1.fBad)) w1.heap.size 62 [.int .i64 y0.1, .slice a1 y1.1.length cc1, .int .i64 y2.1.fID, .string (strB y2.1.fName), .slice a_2_Columns y2.1.fColumns.length c_2_Columns, .slice a_2_Key y2.1.fKey.length c_2_Key, .int .i64 y3.1.fID, .int .i64 y3.1.fTable, .string (strB y3.1.fName), .slice a_3_Columns y3.1.fColumns.length c_3_Columns, .bool y3.1.fUnique, .int .i64 y3.1.fState, .bool y3.1.fBad, .string { data := #[] }, .int .i64 0, .slice none 0 0] := rowT
  have kT := (((((((Keep.refl (· = w1.heap.size) w4).setCell (p := ⟨w1.heap.size, 6, none⟩) (fun _ => rfl) (.int .i64 y3.1.fID)).setCell (p := ⟨w1.heap.size, 7, none⟩) (fun _ => rfl) (.int .i64 y3.1.fTable)).setCell (p := ⟨w1.heap.size, 8, none⟩) (fun _ => rfl) (.string (strB y3.1.fName))).setCell (p := ⟨w1.heap.size, 9, none⟩) (fun _ => rfl) (.slice a_3_Columns y3.1.fColumns.length c_3_Columns)).setCell (p := ⟨w1.heap.size, 10, none⟩) (fun _ => rfl) (.bool y3.1.fUnique)).setCell (p := ⟨w1.heap.size, 11, none⟩) (fun _ => rfl) (.int .i64 y3.1.fState)).setCell (p := ⟨w1.heap.size, 12, none⟩) (fun _ => rfl) (.bool y3.1.fBad)
  replace rowR := rowR.keep kT (by omega)
  replace hr := hr'.keep kT (by omega) (fun b hb e => by have := hpl b hb; omega)
  replace kk := (kk.trans k3).then kT (fun i hi e => by omega)
  replace q1 := (rList_lawful rGOp_lawful).mono ((rList_lawful rGOp_lawful).keep q1 kT (fun b hb e => hb.2.2 e)) (fun b hb => (⟨hb.1, Nat.lt_of_lt_of_le hb.2.1 kT.size, hb.2.2⟩ : NewBut w0.heap.size w1.heap.size (((((((w4.setCell ⟨w1.heap.size, 6, none⟩ (.int .i64 y3.1.fID)).setCell ⟨w1.heap.size, 7, none⟩ (.int .i64 y3.1.fTable)).setCell ⟨w1.heap.size, 8, none⟩ (.string (strB y3.1.fName))).setCell ⟨w1.heap.size, 9, none⟩ (.slice a_3_Columns y3.1.fColumns.length c_3_Columns)).setCell ⟨w1.heap.size, 10, none⟩ (.bool y3.1.fUnique)).setCell ⟨w1.heap.size, 11, none⟩ (.int .i64 y3.1.fState)).setCell ⟨w1.heap.size, 12, none⟩ (.bool y3.1.fBad)) b))
  replace q2 := rGTable_lawful.mono (rGTable_lawful.keep q2 kT (fun b hb e => hb.2.2 e)) (fun b hb => (⟨hb.1, Nat.lt_of_lt_of_le hb.2.1 kT.size, hb.2.2⟩ : NewBut w0.heap.size w1.heap.size (((((((w4.setCell ⟨w1.heap.size, 6, none⟩ (.int .i64 y3.1.fID)).setCell ⟨w1.heap.size, 7, none⟩ (.int .i64 y3.1.fTable)).setCell ⟨w1.heap.size, 8, none⟩ (.string (strB y3.1.fName))).setCell ⟨w1.heap.size, 9, none⟩ (.slice a_3_Columns y3.1.fColumns.length c_3_Columns)).setCell ⟨w1.heap.size, 10, none⟩ (.bool y3.1.fUnique)).setCell ⟨w1.heap.size, 11, none⟩ (.int .i64 y3.1.fState)).setCell ⟨w1.heap.size, 12, none⟩ (.bool y3.1.fBad)) b))
  replace q3 := rGIndex_lawful.mono (rGIndex_lawful.keep q3 kT (fun b hb e => hb.2.2 e)) (fun b hb => (⟨hb.1, Nat.lt_of_lt_of_le hb.2.1 kT.size, hb.2.2⟩ : NewBut w0.heap.size w1.heap.size (((((((w4.setCell ⟨w1.heap.size, 6, none⟩ (.int .i64 y3.1.fID)).setCell ⟨w1.heap.size, 7, none⟩ (.int .i64 y3.1.fTable)).setCell ⟨w1.heap.size, 8, none⟩ (.string (strB y3.1.fName))).setCell ⟨w1.heap.size, 9, none⟩ (.slice a_3_Columns y3.1.fColumns.length c_3_Columns)).setCell ⟨w1.heap.size, 10, none⟩ (.bool y3.1.fUnique)).setCell ⟨w1.heap.size, 11, none⟩ (.int .i64 y3.1.fState)).setCell ⟨w1.heap.size, 12, none⟩ (.bool y3.1.fBad)) b))
  clear hr' k3 kT rTl
  go_wp2_with fail
  clear xc0 xf0 xc1 xf1 xc2 xf2 xc3 xf3 xc4 xf4 xc5 xf5 xc6 xf6
  go_fit (itext_g x p _ _ hr)
  rintro e w5 ⟨rfl, hr', k4⟩
  have wf4 : Hid ((pBytes y3.2).1.length ≤ far) := Nat.le_trans (textS_len 65536 _) (by decide)
  generalize hy4 : pBytes y3.2 = y4 at hr' wf4 ⊢
  replace hy4 := Lib.hid hy4
  have rTl := rowT.lt
  replace rowT := rowT.keep k4 (by omega)
  replace rowR := rowR.keep k4 (by omega)
  replace q1 := (rList_lawful rGOp_lawful).mono ((rList_lawful rGOp_lawful).keep q1 k4 (fun b hb e => by have := hb.1; omega)) (fun b hb => (⟨hb.1, Nat.lt_of_lt_of_le hb.2.1 k4.size, hb.2.2⟩ : NewBut w0.heap.size w1.heap.size w5 b))
  replace q2 := rGTable_lawful.mono (rGTable_lawful.keep q2 k4 (fun b hb e => by have := hb.1; omega)) (fun b hb => (⟨hb.1, Nat.lt_of_lt_of_le hb.2.1 k4.size, hb.2.2⟩ : NewBut w0.heap.size w1.heap.size w5 b))
  replace q3 := rGIndex_lawful.mono (rGIndex_lawful.keep q3 k4 (fun b hb e => by have := hb.1; omega)) (fun b hb => (⟨hb.1, Nat.lt_of_lt_of_le hb.2.1 k4.size, hb.2.2⟩ : NewBut w0.heap.size w1.heap.size w5 b))
  have xc0 : w5.cell? ⟨w1.heap.size, 13, none⟩ = some (.string { data := #[] }) := rowT.cell 13
  have xf0 : w5.frozen? ⟨w1.heap.size, 13, none⟩ = false := rowT.frozen 13
  replace rowT := rowT.set 13 (.string (strB y4.1))
  replace rowT : RowIs (w5.setCell ⟨w1.heap.size, 13, none⟩ (.string (strB y4.1))) w1.heap.size 62 [.int .i64 y0.1, .slice a1 y1.1.length cc1, .int .i64 y2.1.fID, .string (strB y2.1.fName), .slice a_2_Columns y2.1.fColumns.length c_2_Columns, .slice a_2_Key y2.1.fKey.length c_2_Key, .int .i64 y3.1.fID, .int .i64 y3.1.fTable, .string (strB y3.1.fName), .slice a_3_Columns y3.1.fColumns.length c_3_Columns, .bool y3.1.fUnique, .int .i64 y3.1.fState, .bool y3.1.fBad, .string (strB y4.1), .int .i64 0, .slice none 0 0] := rowT
  have kT := (Keep.refl (· = w1.heap.size) w5).setCell (p := ⟨w1.heap.size, 13, none⟩) (fun _ => rfl) (.string (strB y4.1))
  replace rowR := rowR.keep kT (by omega)
  replace hr := hr'.keep kT (by omega) (fun b hb e => by have := hpl b hb; omega)
  replace kk := (kk.trans k4).then kT (fun i hi e => by omega)
  replace q1 := (rList_lawful rGOp_lawful).mono ((rList_lawful rGOp_lawful).keep q1 kT (fun b hb e => hb.2.2 e)) (fun b hb => (⟨hb.1, Nat.lt_of_lt_of_le hb.2.1 kT.size, hb.2.2⟩ : NewBut w0.heap.size w1.heap.size (w5.setCell ⟨w1.heap.size, 13, none⟩ (.string (strB y4.1))) b))
  replace q2 := rGTable_lawful.mono (rGTable_lawful.keep q2 kT (fun b hb e => hb.2.2 e)) (fun b hb => (⟨hb.1, Nat.lt_of_lt_of_le hb.2.1 kT.size, hb.2.2⟩ : NewBut w0.heap.size w1.heap.size (w5.setCell ⟨w1.heap.size, 13, none⟩ (.string (strB y4.1))) b))
  replace q3 := rGIndex_lawful.mono (rGIndex_lawful.keep q3 kT (fun b hb e => hb.2.2 e)) (fun b hb => (⟨hb.1, Nat.lt_of_lt_of_le hb.2.1 kT.size, hb.2.2⟩ : NewBut w0.heap.size w1.heap.size (w5.setCell ⟨w1.heap.size, 13, none⟩ (.string (strB y4.1))) b))
  clear hr' k4 kT rTl
  go_wp2_with fail
  clear xc0 xf0
  go_fit (iint_g x p _ _ hr)
  rintro e w6 ⟨rfl, hr', k5⟩
  have wf5 : Hid ((Lit.int .i64 (pInt y4.2).1).wf = true) := zag_wf (numS_lt maxU _)
  generalize hy5 : pInt y4.2 = y5 at hr' wf5 ⊢
  replace hy5 := Lib.hid hy5
  have rTl := rowT.lt
  replace rowT := rowT.keep k5 (by omega)
  replace rowR := rowR.keep k5 (by omega)
  replace q1 := (rList_lawful rGOp_lawful).mono ((rList_lawful rGOp_lawful).keep q1 k5 (fun b hb e => by have := hb.1; omega)) (fun b hb => (⟨hb.1, Nat.lt_of_lt_of_le hb.2.1 k5.size, hb.2.2⟩ : NewBut w0.heap.size w1.heap.size w6 b))
  replace q2 := rGTable_lawful.mono (rGTable_lawful.keep q2 k5 (fun b hb e => by have := hb.1; omega)) (fun b hb => (⟨hb.1, Nat.lt_of_lt_of_le hb.2.1 k5.size, hb.2.2⟩ : NewBut w0.heap.size w1.heap.size w6 b))
  replace q3 := rGIndex_lawful.mono (rGIndex_lawful.keep q3 k5 (fun b hb e => by have := hb.1; omega)) (fun b hb => (⟨hb.1, Nat.lt_of_lt_of_le hb.2.1 k5.size, hb.2.2⟩ : NewBut w0.heap.size w1.heap.size w6 b))
  have xc0 : w6.cell? ⟨w1.heap.size, 14, none⟩ = some (.int .i64 0) := rowT.cell 14
  have xf0 : w6.frozen? ⟨w1.heap.size, 14, none⟩ = false := rowT.frozen 14
  replace rowT := rowT.set 14 (.int .i64 y5.1)
  replace rowT : RowIs (w6.setCell ⟨w1.heap.size, 14, none⟩ (.int .i64 y5.1)) w1.heap.size 62 [.int .i64 y0.1, .slice a1 y1.1.length cc1, .int .i64 y2.1.fID, .string (strB y2.1.fName), .slice a_2_Columns y2.1.fColumns.length c_2_Columns, .slice a_2_Key y2.1.fKey.length c_2_Key, .int .i64 y3.1.fID, .int .i64 y3.1.fTable, .string (strB y3.1.fName), .slice a_3_Columns y3.1.fColumns.length c_3_Columns, .bool y3.1.fUnique, .int .i64 y3.1.fState, .bool y3.1.fBad, .string (strB y4.1), .int .i64 y5.1, .slice none 0 0] := rowT
  have kT := (Keep.refl (· = w1.heap.size) w6).setCell (p := ⟨w1.heap.size, 14, none⟩) (fun _ => rfl) (.int .i64 y5.1)
  replace rowR := rowR.keep kT (by omega)
  replace hr := hr'.keep kT (by omega) (fun b hb e => by have := hpl b hb; omega)
  replace kk := (kk.trans k5).then kT (fun i hi e => by omega)
  replace q1 := (rList_lawful rGOp_lawful).mono ((rList_lawful rGOp_lawful).keep q1 kT (fun b hb e => hb.2.2 e)) (fun b hb => (⟨hb.1, Nat.lt_of_lt_of_le hb.2.1 kT.size, hb.2.2⟩ : NewBut w0.heap.size w1.heap.size (w6.setCell ⟨w1.heap.size, 14, none⟩ (.int .i64 y5.1)) b))
  replace q2 := rGTable_lawful.mono (rGTable_lawful.keep q2 kT (fun b hb e => hb.2.2 e)) (fun b hb => (⟨hb.1, Nat.lt_of_lt_of_le hb.2.1 kT.size, hb.2.2⟩ : NewBut w0.heap.size w1.heap.size (w6.setCell ⟨w1.heap.size, 14, none⟩ (.int .i64 y5.1)) b))
  replace q3 := rGIndex_lawful.mono (rGIndex_lawful.keep q3 kT (fun b hb e => hb.2.2 e)) (fun b hb => (⟨hb.1, Nat.lt_of_lt_of_le hb.2.1 kT.size, hb.2.2⟩ : NewBut w0.heap.size w1.heap.size (w6.setCell ⟨w1.heap.size, 14, none⟩ (.int .i64 y5.1)) b))
  clear hr' k5 kT rTl
  go_wp2_with fail
  clear xc0 xf0
  go_fit (ibytes_g x p _ _ hr)
  rintro e w7 ⟨v, rfl, q6, hr', k6⟩
  generalize hy6 : pBytes y5.2 = y6 at hr' q6
  replace hy6 := Lib.hid hy6
  obtain ⟨a6, cc6, hv, q6'⟩ := rBytes_open q6
  simp only [List.cons.injEq, and_true] at hv
  subst hv
  clear q6
  have q6 := q6'
  clear q6'
  have rTl := rowT.lt
  replace rowT := rowT.keep k6 (by omega)
  replace rowR := rowR.keep k6 (by omega)
  replace q1 := (rList_lawful rGOp_lawful).mono ((rList_lawful rGOp_lawful).keep q1 k6 (fun b hb e => by have := hb.1; omega)) (fun b hb => (⟨hb.1, Nat.lt_of_lt_of_le hb.2.1 k6.size, hb.2.2⟩ : NewBut w0.heap.size w1.heap.size w7 b))
  replace q2 := rGTable_lawful.mono (rGTable_lawful.keep q2 k6 (fun b hb e => by have := hb.1; omega)) (fun b hb => (⟨hb.1, Nat.lt_of_lt_of_le hb.2.1 k6.size, hb.2.2⟩ : NewBut w0.heap.size w1.heap.size w7 b))
  replace q3 := rGIndex_lawful.mono (rGIndex_lawful.keep q3 k6 (fun b hb e => by have := hb.1; omega)) (fun b hb => (⟨hb.1, Nat.lt_of_lt_of_le hb.2.1 k6.size, hb.2.2⟩ : NewBut w0.heap.size w1.heap.size w7 b))
  replace q6 := rBytes_lawful.mono q6 (fun b hb => (⟨by have := hb.1; omega, hb.2, by have := hb.1; omega⟩ : NewBut w0.heap.size w1.heap.size w7 b))
  have xc0 : w7.cell? ⟨w1.heap.size, 15, none⟩ = some (.slice none 0 0) := rowT.cell 15
  have xf0 : w7.frozen? ⟨w1.heap.size, 15, none⟩ = false := rowT.frozen 15
  replace rowT := rowT.set 15 (.slice a6 y6.1.length cc6)
  replace rowT : RowIs (w7.setCell ⟨w1.heap.size, 15, none⟩ (.slice a6 y6.1.length cc6)) w1.heap.size 62 [.int .i64 y0.1, .slice a1 y1.1.length cc1, .int .i64 y2.1.fID, .string (strB y2.1.fName), .slice a_2_Columns y2.1.fColumns.length c_2_Columns, .slice a_2_Key y2.1.fKey.length c_2_Key, .int .i64 y3.1.fID, .int .i64 y3.1.fTable, .string (strB y3.1.fName), .slice a_3_Columns y3.1.fColumns.length c_3_Columns, .bool y3.1.fUnique, .int .i64 y3.1.fState, .bool y3.1.fBad, .string (strB y4.1), .int .i64 y5.1, .slice a6 y6.1.length cc6] := rowT
  have kT := (Keep.refl (· = w1.heap.size) w7).setCell (p := ⟨w1.heap.size, 15, none⟩) (fun _ => rfl) (.slice a6 y6.1.length cc6)
  replace rowR := rowR.keep kT (by omega)
  replace hr := hr'.keep kT (by omega) (fun b hb e => by have := hpl b hb; omega)
  replace kk := (kk.trans k6).then kT (fun i hi e => by omega)
  replace q1 := (rList_lawful rGOp_lawful).mono ((rList_lawful rGOp_lawful).keep q1 kT (fun b hb e => hb.2.2 e)) (fun b hb => (⟨hb.1, Nat.lt_of_lt_of_le hb.2.1 kT.size, hb.2.2⟩ : NewBut w0.heap.size w1.heap.size (w7.setCell ⟨w1.heap.size, 15, none⟩ (.slice a6 y6.1.length cc6)) b))
  replace q2 := rGTable_lawful.mono (rGTable_lawful.keep q2 kT (fun b hb e => hb.2.2 e)) (fun b hb => (⟨hb.1, Nat.lt_of_lt_of_le hb.2.1 kT.size, hb.2.2⟩ : NewBut w0.heap.size w1.heap.size (w7.setCell ⟨w1.heap.size, 15, none⟩ (.slice a6 y6.1.length cc6)) b))
  replace q3 := rGIndex_lawful.mono (rGIndex_lawful.keep q3 kT (fun b hb e => hb.2.2 e)) (fun b hb => (⟨hb.1, Nat.lt_of_lt_of_le hb.2.1 kT.size, hb.2.2⟩ : NewBut w0.heap.size w1.heap.size (w7.setCell ⟨w1.heap.size, 15, none⟩ (.slice a6 y6.1.length cc6)) b))
  replace q6 := rBytes_lawful.mono (rBytes_lawful.keep q6 kT (fun b hb e => hb.2.2 e)) (fun b hb => (⟨hb.1, Nat.lt_of_lt_of_le hb.2.1 kT.size, hb.2.2⟩ : NewBut w0.heap.size w1.heap.size (w7.setCell ⟨w1.heap.size, 15, none⟩ (.slice a6 y6.1.length cc6)) b))
  clear hr' k6 kT rTl
  go_wp2_with fail
  clear xc0 xf0
  have HE : Hid (pGAsk ⟨l, 0, 0, []⟩ = (⟨y0.1, y1.1, y2.1, y3.1, y4.1, y5.1, y6.1⟩, y6.2)) := by show _ = _; simp only [pGAsk, hy0.out, hy1.out, hy2.out, hy3.out, hy4.out, hy5.out, hy6.out]
  go_fit (iend_c x p _ _ hr)
  rintro e wE ⟨rfl, kE⟩
  replace rowT := rowT.keep kE id
  replace rowR := rowR.keep kE id
  replace q1 := (rList_lawful rGOp_lawful).mono ((rList_lawful rGOp_lawful).nix q1 kE) (fun b hb => (⟨hb.1, Nat.lt_of_lt_of_le hb.2.1 kE.size, hb.2.2⟩ : NewBut w0.heap.size w1.heap.size wE b))
  replace q2 := rGTable_lawful.mono (rGTable_lawful.nix q2 kE) (fun b hb => (⟨hb.1, Nat.lt_of_lt_of_le hb.2.1 kE.size, hb.2.2⟩ : NewBut w0.heap.size w1.heap.size wE b))
  replace q3 := rGIndex_lawful.mono (rGIndex_lawful.nix q3 kE) (fun b hb => (⟨hb.1, Nat.lt_of_lt_of_le hb.2.1 kE.size, hb.2.2⟩ : NewBut w0.heap.size w1.heap.size wE b))
  replace q6 := rBytes_lawful.mono (rBytes_lawful.nix q6 kE) (fun b hb => (⟨hb.1, Nat.lt_of_lt_of_le hb.2.1 kE.size, hb.2.2⟩ : NewBut w0.heap.size w1.heap.size wE b))
  have kk3 : Keep Nix w wE := kko.then (kk.trans kE.nix) (fun i hi e => by omega)
  have kEs := kE.size
  have hTl := rowT.lt
  clear kE hr kk
  rcases test_eq (endS y6.2) 0 with ⟨t, he⟩ | ⟨t, he⟩
  · have t' : (endS y6.2 != 0) = false := by simp [he.out]
    have hld : (wholeSem 62 (.pointer (some ⟨w1.heap.size, 0, none⟩))).run Tryz.prog wE = .ok (.value (.agg #[.int .i64 y0.1, .slice a1 y1.1.length cc1, .int .i64 y2.1.fID, .string (strB y2.1.fName), .slice a_2_Columns y2.1.fColumns.length c_2_Columns, .slice a_2_Key y2.1.fKey.length c_2_Key, .int .i64 y3.1.fID, .int .i64 y3.1.fTable, .string (strB y3.1.fName), .slice a_3_Columns y3.1.fColumns.length c_3_Columns, .bool y3.1.fUnique, .int .i64 y3.1.fState, .bool y3.1.fBad, .string (strB y4.1), .int .i64 y5.1, .slice a6 y6.1.length cc6])) wE := Whole.row S_Ask rfl rowT
    have hst := store_run (P := Tryz.prog) (cs := [.int .i64 y0.1, .slice a1 y1.1.length cc1, .int .i64 y2.1.fID, .string (strB y2.1.fName), .slice a_2_Columns y2.1.fColumns.length c_2_Columns, .slice a_2_Key y2.1.fKey.length c_2_Key, .int .i64 y3.1.fID, .int .i64 y3.1.fTable, .string (strB y3.1.fName), .slice a_3_Columns y3.1.fColumns.length c_3_Columns, .bool y3.1.fUnique, .int .i64 y3.1.fState, .bool y3.1.fBad, .string (strB y4.1), .int .i64 y5.1, .slice a6 y6.1.length cc6]) S_Ask rowR rfl rfl rfl
    have rowF := rowR.setRow [.int .i64 y0.1, .slice a1 y1.1.length cc1, .int .i64 y2.1.fID, .string (strB y2.1.fName), .slice a_2_Columns y2.1.fColumns.length c_2_Columns, .slice a_2_Key y2.1.fKey.length c_2_Key, .int .i64 y3.1.fID, .int .i64 y3.1.fTable, .string (strB y3.1.fName), .slice a_3_Columns y3.1.fColumns.length c_3_Columns, .bool y3.1.fUnique, .int .i64 y3.1.fState, .bool y3.1.fBad, .string (strB y4.1), .int .i64 y5.1, .slice a6 y6.1.length cc6]
    have kS := (Keep.refl (· = w.heap.size) wE).setRow (fun _ => rfl) (#[.int .i64 y0.1, .slice a1 y1.1.length cc1, .int .i64 y2.1.fID, .string (strB y2.1.fName), .slice a_2_Columns y2.1.fColumns.length c_2_Columns, .slice a_2_Key y2.1.fKey.length c_2_Key, .int .i64 y3.1.fID, .int .i64 y3.1.fTable, .string (strB y3.1.fName), .slice a_3_Columns y3.1.fColumns.length c_3_Columns, .bool y3.1.fUnique, .int .i64 y3.1.fState, .bool y3.1.fBad, .string (strB y4.1), .int .i64 y5.1, .slice a6 y6.1.length cc6] : Array Value)
    clear rowT
    go_wp2_with fail
    refine bodyPost_ret (results_cell_row2 (by rfl) _ _ _ _ _ _ _ (by rfl) rowF Tryz.underlying62 (by rfl) S_Ask.info) rfl ?_
    unfold takeP
    rw [HE.out, endP_ok (y := ((⟨y0.1, y1.1, y2.1, y3.1, y4.1, y5.1, y6.1⟩ : GAsk), y6.2)) he.out]
    replace q1 := (rList_lawful rGOp_lawful).mono ((rList_lawful rGOp_lawful).keep q1 kS (fun b hb e => by have := hb.1; omega)) (fun b hb => (⟨by have := hb.1; omega, Nat.lt_of_lt_of_le hb.2.1 kS.size⟩ : NewIn w (wE.setRow w.heap.size #[.int .i64 y0.1, .slice a1 y1.1.length cc1, .int .i64 y2.1.fID, .string (strB y2.1.fName), .slice a_2_Columns y2.1.fColumns.length c_2_Columns, .slice a_2_Key y2.1.fKey.length c_2_Key, .int .i64 y3.1.fID, .int .i64 y3.1.fTable, .string (strB y3.1.fName), .slice a_3_Columns y3.1.fColumns.length c_3_Columns, .bool y3.1.fUnique, .int .i64 y3.1.fState, .bool y3.1.fBad, .string (strB y4.1), .int .i64 y5.1, .slice a6 y6.1.length cc6]) b))
    replace q2 := rGTable_lawful.mono (rGTable_lawful.keep q2 kS (fun b hb e => by have := hb.1; omega)) (fun b hb => (⟨by have := hb.1; omega, Nat.lt_of_lt_of_le hb.2.1 kS.size⟩ : NewIn w (wE.setRow w.heap.size #[.int .i64 y0.1, .slice a1 y1.1.length cc1, .int .i64 y2.1.fID, .string (strB y2.1.fName), .slice a_2_Columns y2.1.fColumns.length c_2_Columns, .slice a_2_Key y2.1.fKey.length c_2_Key, .int .i64 y3.1.fID, .int .i64 y3.1.fTable, .string (strB y3.1.fName), .slice a_3_Columns y3.1.fColumns.length c_3_Columns, .bool y3.1.fUnique, .int .i64 y3.1.fState, .bool y3.1.fBad, .string (strB y4.1), .int .i64 y5.1, .slice a6 y6.1.length cc6]) b))
    replace q3 := rGIndex_lawful.mono (rGIndex_lawful.keep q3 kS (fun b hb e => by have := hb.1; omega)) (fun b hb => (⟨by have := hb.1; omega, Nat.lt_of_lt_of_le hb.2.1 kS.size⟩ : NewIn w (wE.setRow w.heap.size #[.int .i64 y0.1, .slice a1 y1.1.length cc1, .int .i64 y2.1.fID, .string (strB y2.1.fName), .slice a_2_Columns y2.1.fColumns.length c_2_Columns, .slice a_2_Key y2.1.fKey.length c_2_Key, .int .i64 y3.1.fID, .int .i64 y3.1.fTable, .string (strB y3.1.fName), .slice a_3_Columns y3.1.fColumns.length c_3_Columns, .bool y3.1.fUnique, .int .i64 y3.1.fState, .bool y3.1.fBad, .string (strB y4.1), .int .i64 y5.1, .slice a6 y6.1.length cc6]) b))
    replace q6 := rBytes_lawful.mono (rBytes_lawful.keep q6 kS (fun b hb e => by have := hb.1; omega)) (fun b hb => (⟨by have := hb.1; omega, Nat.lt_of_lt_of_le hb.2.1 kS.size⟩ : NewIn w (wE.setRow w.heap.size #[.int .i64 y0.1, .slice a1 y1.1.length cc1, .int .i64 y2.1.fID, .string (strB y2.1.fName), .slice a_2_Columns y2.1.fColumns.length c_2_Columns, .slice a_2_Key y2.1.fKey.length c_2_Key, .int .i64 y3.1.fID, .int .i64 y3.1.fTable, .string (strB y3.1.fName), .slice a_3_Columns y3.1.fColumns.length c_3_Columns, .bool y3.1.fUnique, .int .i64 y3.1.fState, .bool y3.1.fBad, .string (strB y4.1), .int .i64 y5.1, .slice a6 y6.1.length cc6]) b))
    exact ⟨[.int .i64 y0.1, .slice a1 y1.1.length cc1, .int .i64 y2.1.fID, .string (strB y2.1.fName), .slice a_2_Columns y2.1.fColumns.length c_2_Columns, .slice a_2_Key y2.1.fKey.length c_2_Key, .int .i64 y3.1.fID, .int .i64 y3.1.fTable, .string (strB y3.1.fName), .slice a_3_Columns y3.1.fColumns.length c_3_Columns, .bool y3.1.fUnique, .int .i64 y3.1.fState, .bool y3.1.fBad, .string (strB y4.1), .int .i64 y5.1, .slice a6 y6.1.length cc6], rfl, ⟨[.int .i64 y0.1], [.slice a1 y1.1.length cc1], [.int .i64 y2.1.fID, .string (strB y2.1.fName), .slice a_2_Columns y2.1.fColumns.length c_2_Columns, .slice a_2_Key y2.1.fKey.length c_2_Key], [.int .i64 y3.1.fID, .int .i64 y3.1.fTable, .string (strB y3.1.fName), .slice a_3_Columns y3.1.fColumns.length c_3_Columns, .bool y3.1.fUnique, .int .i64 y3.1.fState, .bool y3.1.fBad], [.string (strB y4.1)], [.int .i64 y5.1], [.slice a6 y6.1.length cc6], rfl, ⟨rfl, wf0.out⟩, q1, q2, q3, ⟨rfl, wf4.out⟩, ⟨rfl, wf5.out⟩, q6⟩, rfl, kk3.then kS (fun i hi e => by omega)⟩
  · have t' : (endS y6.2 != 0) = true := by simp [he]
    have HNE := Lib.hid he
    clear he
    have hst := store_run (P := Tryz.prog) (cs := [.int .i64 0, .slice none 0 0, .int .i64 0, .string { data := #[] }, .slice none 0 0, .slice none 0 0, .int .i64 0, .int .i64 0, .string { data := #[] }, .slice none 0 0, .bool false, .int .i64 0, .bool false, .string { data := #[] }, .int .i64 0, .slice none 0 0]) S_Ask rowR rfl rfl rfl
    have rowF := rowR.setRow [.int .i64 0, .slice none 0 0, .int .i64 0, .string { data := #[] }, .slice none 0 0, .slice none 0 0, .int .i64 0, .int .i64 0, .string { data := #[] }, .slice none 0 0, .bool false, .int .i64 0, .bool false, .string { data := #[] }, .int .i64 0, .slice none 0 0]
    have kS := (Keep.refl (· = w.heap.size) wE).setRow (fun _ => rfl) (#[.int .i64 0, .slice none 0 0, .int .i64 0, .string { data := #[] }, .slice none 0 0, .slice none 0 0, .int .i64 0, .int .i64 0, .string { data := #[] }, .slice none 0 0, .bool false, .int .i64 0, .bool false, .string { data := #[] }, .int .i64 0, .slice none 0 0] : Array Value)
    clear rowT
    go_wp2_with fail
    refine bodyPost_ret (results_cell_row2 (by rfl) _ _ _ _ _ _ _ (by rfl) rowF Tryz.underlying62 (by rfl) S_Ask.info) rfl ?_
    unfold takeP
    rw [HE.out, endP_no (y := ((⟨y0.1, y1.1, y2.1, y3.1, y4.1, y5.1, y6.1⟩ : GAsk), y6.2)) HNE.out]
    exact ⟨[.int .i64 0, .slice none 0 0, .int .i64 0, .string { data := #[] }, .slice none 0 0, .slice none 0 0, .int .i64 0, .int .i64 0, .string { data := #[] }, .slice none 0 0, .bool false, .int .i64 0, .bool false, .string { data := #[] }, .int .i64 0, .slice none 0 0], rfl, zGAsk_r _ _, rfl, kk3.then kS (fun i hi e => by omega)⟩
end
end Go.Proofs.YtabgbleldbapbaaGreat
