/- WHAT BYTES ARE TAKEN AS. Printed by gen10.py. -/
import Derived.Test.YtabgbleldbapbaaGreatTakA
import Derived.Test.YtabgbleldbapbaaGreatGetE
namespace Go.Proofs.YtabgbleldbapbaaGreat
open Go.RowKit

theorem lda_Catalog (a : Act) (dst : Option Tmp) (x : Operand) (ty : TypeId) (pos : String) (after : Array Edge) (guard : Option (Nat × Bool)) : execOp a.eval { dst := dst, op := .load 50 x, type := ty, pos := pos, after := after, guard := guard } = wholeSem 50 (a.eval x) := rfl
section
attribute [local go_sem ↓] lda_Catalog st_Catalog
set_option maxRecDepth 100000 in
set_option maxHeartbeats 8000000 in
theorem allCatalog_c (rd : Nat) (p : Nat → Prop) (s : RdS) (w : World) (h : IsRd w 165 rd p s) (hpl : ∀ b, p b → b < w.heap.size) :
    Calls Tryz.prog 52 #[.agg #[.pointer (some ⟨rd, 0, none⟩)], .func (.func 53) #[.agg #[.pointer (some ⟨rd, 0, none⟩)]] #[]] w (TookR wGCatalog rd w (endP zGCatalog (pGCatalog s))) := by
  have hlt := h.lt
  have hsz : (w.alloc (.cells #[.pointer (some ⟨rd, 0, none⟩)] 85)).heap.size = w.heap.size + 1 := by simp
  have rowB : RowIs ((w.alloc (.cells #[.pointer (some ⟨rd, 0, none⟩)] 85)).alloc (.cells #[.int .i64 0, .int .i64 0, .slice none 0 0, .slice none 0 0] 50)) w.heap.size 85 [.pointer (some ⟨rd, 0, none⟩)] := (RowIs.alloc w _ _).keep ((Keep.refl Nix _).alloc _) id
  have rowR : RowIs ((w.alloc (.cells #[.pointer (some ⟨rd, 0, none⟩)] 85)).alloc (.cells #[.int .i64 0, .int .i64 0, .slice none 0 0, .slice none 0 0] 50)) (w.heap.size + 1) 50 [.int .i64 0, .int .i64 0, .slice none 0 0, .slice none 0 0] := by
    rw [← hsz]
    exact RowIs.alloc (w.alloc (.cells #[.pointer (some ⟨rd, 0, none⟩)] 85)) _ _
  have hr := h.nix (((Keep.refl Nix w).alloc (.cells #[.pointer (some ⟨rd, 0, none⟩)] 85)).alloc (.cells #[.int .i64 0, .int .i64 0, .slice none 0 0, .slice none 0 0] 50))
  have kk : Keep (· = rd) w ((w.alloc (.cells #[.pointer (some ⟨rd, 0, none⟩)] 85)).alloc (.cells #[.int .i64 0, .int .i64 0, .slice none 0 0, .slice none 0 0] 50)) := ((Keep.refl (· = rd) w).alloc _).alloc _
  clear h hsz
  go_enter Tryz.func52, Tryz.ntmps52
  go_wp2_with fail
  go_fit (gCatalog_c rd p _ _ hr (fun b hb => Nat.lt_of_lt_of_le (hpl b hb) kk.size))
  rintro e w1 ⟨cs, rfl, hc, ho, hr1, k1⟩
  have hlc := Lib.hid (wGCatalog_lawful.len hc)
  have HO := Lib.hid ho
  clear ho hr
  obtain ⟨y, HY⟩ : ∃ y, Hid (pGCatalog s = y) := ⟨_, rfl⟩
  rw [HY.out] at hc hr1
  have rRl0 := rowR.lt
  replace rowB := rowB.keep k1 (by omega)
  replace rowR := rowR.keep k1 (by omega)
  have rRl := rowR.lt
  have hrl := hr1.lt
  have hst0 := store_run (P := Tryz.prog) (cs := cs) S_Catalog (RowIs.alloc w1 #[.int .i64 0, .int .i64 0, .slice none 0 0, .slice none 0 0] 50) rfl hlc.out HO.out
  have rowV := (RowIs.alloc w1 #[.int .i64 0, .int .i64 0, .slice none 0 0, .slice none 0 0] 50).setRow cs
  have kT := ((Keep.refl (· = w1.heap.size) w1).alloc (.cells #[.int .i64 0, .int .i64 0, .slice none 0 0, .slice none 0 0] 50)).setRow (fun _ => rfl) cs.toArray
  replace rowB := rowB.keep kT (by omega)
  replace rowR := rowR.keep kT (by omega)
  have hr2 := hr1.keep kT (by omega) (fun b hb e => by have := hpl b hb; omega)
  have kk2 : Keep (· = rd) w ((w1.alloc (.cells #[.int .i64 0, .int .i64 0, .slice none 0 0, .slice none 0 0] 50)).setRow w1.heap.size cs.toArray) := (kk.trans k1).then kT (fun i hi e => by omega)
  have hs2 : w.heap.size + 2 ≤ ((w.alloc (.cells #[.pointer (some ⟨rd, 0, none⟩)] 85)).alloc (.cells #[.int .i64 0, .int .i64 0, .slice none 0 0, .slice none 0 0] 50)).heap.size := by simp
  replace hc := wGCatalog_lawful.keep hc kT (fun b hb e => by have := hb.2; omega)
  have xB : ((w1.alloc (.cells #[.int .i64 0, .int .i64 0, .slice none 0 0, .slice none 0 0] 50)).setRow w1.heap.size cs.toArray).cell? ⟨w.heap.size, 0, none⟩ = some (.pointer (some ⟨rd, 0, none⟩)) := rowB.cell 0
  clear k1 kT hr1 rowB kk
  go_wp2_with fail
  go_fit (End_rd rd p y.2 _ hr2)
  rintro e w2 ⟨rfl, k2⟩
  clear xB hst0
  replace rowR := rowR.keep k2 id
  replace rowV := rowV.keep k2 id
  replace hc := wGCatalog_lawful.nix hc k2
  have kk3 := kk2.trans k2.nix
  have rRl2 := rowV.lt
  clear hr2 k2 kk2
  rcases test_eq (endS y.2) 0 with ⟨t, he⟩ | ⟨t, he⟩
  · have t' : (endS y.2 != 0) = false := by simp [he.out]
    have hld : (wholeSem 50 (.pointer (some ⟨w1.heap.size, 0, none⟩))).run Tryz.prog w2 = .ok (.value (.agg cs.toArray)) w2 := Whole.row S_Catalog hlc.out rowV
    have hst := store_run (P := Tryz.prog) (cs := cs) S_Catalog rowR rfl hlc.out HO.out
    have rowF := rowR.setRow cs
    have kS := (Keep.refl (· = w.heap.size + 1) w2).setRow (fun _ => rfl) cs.toArray
    have hin : (Tryz.prog.info? 50).map (·.size) = some cs.toArray.size := by rw [List.size_toArray, hlc.out]; exact S_Catalog.info
    have HIN := Lib.hid hin
    clear hin rowV
    go_wp2_with fail
    refine bodyPost_ret (results_cell_row2 (by rfl) _ _ _ _ _ _ _ (by rfl) rowF Tryz.underlying50 (by rfl) HIN.out) rfl ?_
    rw [HY.out, endP_ok he.out]
    exact ⟨cs, rfl, wGCatalog_lawful.mono (wGCatalog_lawful.keep hc kS (fun b hb e => by have := hb.1; omega)) (fun b hb => (⟨by have := hb.1; omega, by have := hb.2; have := kS.size; omega⟩ : NewIn w (w2.setRow (w.heap.size + 1) cs.toArray) b)), HO.out, kk3.then kS (fun i hi e => by omega)⟩
  · have t' : (endS y.2 != 0) = true := by simp [he]
    have HE := Lib.hid he
    clear he
    have rowN : RowIs (w2.alloc (.cells #[.int .i64 0, .int .i64 0, .slice none 0 0, .slice none 0 0] 50)) w2.heap.size 50 [.int .i64 0, .int .i64 0, .slice none 0 0, .slice none 0 0] := RowIs.alloc w2 _ _
    have rowR2 := rowR.keep ((Keep.refl Nix w2).alloc (.cells #[.int .i64 0, .int .i64 0, .slice none 0 0, .slice none 0 0] 50)) id
    have hld : (wholeSem 50 (.pointer (some ⟨w2.heap.size, 0, none⟩))).run Tryz.prog (w2.alloc (.cells #[.int .i64 0, .int .i64 0, .slice none 0 0, .slice none 0 0] 50)) = .ok (.value (.agg #[.int .i64 0, .int .i64 0, .slice none 0 0, .slice none 0 0])) (w2.alloc (.cells #[.int .i64 0, .int .i64 0, .slice none 0 0, .slice none 0 0] 50)) := Whole.row S_Catalog rfl rowN
    have hst := store_run (P := Tryz.prog) (cs := [.int .i64 0, .int .i64 0, .slice none 0 0, .slice none 0 0]) S_Catalog rowR2 rfl rfl rfl
    have rowF := rowR2.setRow [.int .i64 0, .int .i64 0, .slice none 0 0, .slice none 0 0]
    have kS := ((Keep.refl (· = w.heap.size + 1) w2).alloc (.cells #[.int .i64 0, .int .i64 0, .slice none 0 0, .slice none 0 0] 50)).setRow (fun _ => rfl) (#[.int .i64 0, .int .i64 0, .slice none 0 0, .slice none 0 0] : Array Value)
    clear rowN rowV rowR2
    go_wp2_with fail
    refine bodyPost_ret (results_cell_row2 (by rfl) _ _ _ _ _ _ _ (by rfl) rowF Tryz.underlying50 (by rfl) S_Catalog.info) rfl ?_
    rw [HY.out, endP_no HE.out]
    exact ⟨[.int .i64 0, .int .i64 0, .slice none 0 0, .slice none 0 0], rfl, zGCatalog_w _ _, rfl, kk3.then kS (fun i hi e => by omega)⟩
end
section
attribute [local go_sem ↓] st_Catalog
set_option maxRecDepth 100000 in
set_option maxHeartbeats 8000000 in
theorem wTakeCatalog_c {p : Nat → Prop} (a : Option Addr) (n ca : Nat) (l : List UInt8) (w : World) (hn : l.length = n) (ha : Lies w p a (l.map bv)) (hr0 : n ≤ 140737488355328) :
    Calls Tryz.prog 13 #[.slice a n ca] w (Took wGCatalog w (takeP pGCatalog zGCatalog l)) := by
  have rowR : RowIs (w.alloc (.cells #[.int .i64 0, .int .i64 0, .slice none 0 0, .slice none 0 0] 50)) w.heap.size 50 [.int .i64 0, .int .i64 0, .slice none 0 0, .slice none 0 0] := RowIs.alloc w _ _
  have ha1 := ha.keep ((Keep.refl Nix w).alloc (.cells #[.int .i64 0, .int .i64 0, .slice none 0 0, .slice none 0 0] 50)) (fun _ _ h => h)
  have hmf : ∀ (fn : Fn) (first cap : Array Value) (w : World), (Instr.makeFunc fn first cap).run Tryz.prog w = .ok (.func fn first cap) w := fun _ _ _ _ => rfl
  have HN := Lib.hid hn
  have kk : Keep Nix w (w.alloc (.cells #[.int .i64 0, .int .i64 0, .slice none 0 0, .slice none 0 0] 50)) := (Keep.refl Nix w).alloc _
  clear hn ha
  go_enter Tryz.func13, Tryz.ntmps13
  go_wp2_with fail
  go_fit (New_rd a n ca l _ HN.out ha1 hr0)
  rintro e w1 ⟨rd, rfl, hrd, hr, k1⟩
  have hrt := hr.tight
  have rRl0 := rowR.lt
  replace rowR := rowR.keep k1 id
  have rRl := rowR.lt
  have hrd' : w.heap.size < rd := by simp at hrd; omega
  have hrl := hr.lt
  have hr2 := hrt.nix ((Keep.refl Nix w1).alloc (.cells #[.pointer (some ⟨rd, 0, none⟩)] 85))
  have rowR2 := rowR.keep ((Keep.refl Nix w1).alloc (.cells #[.pointer (some ⟨rd, 0, none⟩)] 85)) id
  have kk2 : Keep Nix w (w1.alloc (.cells #[.pointer (some ⟨rd, 0, none⟩)] 85)) := (kk.trans k1).alloc _
  have hs1 : w1.heap.size ≤ (w1.alloc (.cells #[.pointer (some ⟨rd, 0, none⟩)] 85)).heap.size := by simp
  clear hr hrt k1 kk ha1 rowR hrd
  go_wp2_with fail
  go_fit (allCatalog_c rd _ ⟨l, 0, 0, []⟩ _ hr2 (fun b hb => Nat.lt_of_lt_of_le hb.2 hs1))
  rintro e w2 ⟨cs, rfl, hc, ho, k2⟩
  have hlc := Lib.hid (wGCatalog_lawful.len hc)
  have HO := Lib.hid ho
  have hT : Hid (takeP pGCatalog zGCatalog l = endP zGCatalog (pGCatalog ⟨l, 0, 0, []⟩)) := rfl
  generalize endP zGCatalog (pGCatalog ⟨l, 0, 0, []⟩) = y at hc hT ⊢
  replace rowR2 := rowR2.keep k2 (by omega)
  have kk3 : Keep Nix w w2 := kk2.then k2 (fun i hi e => by omega)
  have hst := store_run (P := Tryz.prog) (cs := cs) S_Catalog rowR2 rfl hlc.out HO.out
  have rowF := rowR2.setRow cs
  have kS := (Keep.refl (· = w.heap.size) w2).setRow (fun _ => rfl) cs.toArray
  have hin : (Tryz.prog.info? 50).map (·.size) = some cs.toArray.size := by rw [List.size_toArray, hlc.out]; exact S_Catalog.info
  have HIN := Lib.hid hin
  have hs3 := k2.size
  clear hin ho hr2 k2 kk2
  go_wp2_with fail
  refine bodyPost_ret (results_cell_row2 (by rfl) _ _ _ _ _ _ _ (by rfl) rowF Tryz.underlying50 (by rfl) HIN.out) rfl ?_
  rw [hT.out]
  exact ⟨cs, rfl, wGCatalog_lawful.mono (wGCatalog_lawful.keep hc kS (fun b hb e => by have := hb.1; omega)) (fun b hb => (⟨by have := hb.1; omega, by have := hb.2; have := kS.size; omega⟩ : NewIn w (w2.setRow w.heap.size cs.toArray) b)), HO.out, kk3.then kS (fun i hi e => by omega)⟩
end
theorem lda_Ask (a : Act) (dst : Option Tmp) (x : Operand) (ty : TypeId) (pos : String) (after : Array Edge) (guard : Option (Nat × Bool)) : execOp a.eval { dst := dst, op := .load 62 x, type := ty, pos := pos, after := after, guard := guard } = wholeSem 62 (a.eval x) := rfl
section
attribute [local go_sem ↓] lda_Ask st_Ask
set_option maxRecDepth 100000 in
set_option maxHeartbeats 8000000 in
theorem allAsk_c (rd : Nat) (p : Nat → Prop) (s : RdS) (w : World) (h : IsRd w 165 rd p s) (hpl : ∀ b, p b → b < w.heap.size) :
    Calls Tryz.prog 54 #[.agg #[.pointer (some ⟨rd, 0, none⟩)], .func (.func 55) #[.agg #[.pointer (some ⟨rd, 0, none⟩)]] #[]] w (TookR wGAsk rd w (endP zGAsk (pGAsk s))) := by
  have hlt := h.lt
  have hsz : (w.alloc (.cells #[.pointer (some ⟨rd, 0, none⟩)] 85)).heap.size = w.heap.size + 1 := by simp
  have rowB : RowIs ((w.alloc (.cells #[.pointer (some ⟨rd, 0, none⟩)] 85)).alloc (.cells #[.int .i64 0, .slice none 0 0, .int .i64 0, .string { data := #[] }, .slice none 0 0, .slice none 0 0, .int .i64 0, .int .i64 0, .string { data := #[] }, .slice none 0 0, .bool false, .int .i64 0, .bool false, .string { data := #[] }, .int .i64 0, .slice none 0 0] 62)) w.heap.size 85 [.pointer (some ⟨rd, 0, none⟩)] := (RowIs.alloc w _ _).keep ((Keep.refl Nix _).alloc _) id
  have rowR : RowIs ((w.alloc (.cells #[.pointer (some ⟨rd, 0, none⟩)] 85)).alloc (.cells #[.int .i64 0, .slice none 0 0, .int .i64 0, .string { data := #[] }, .slice none 0 0, .slice none 0 0, .int .i64 0, .int .i64 0, .string { data := #[] }, .slice none 0 0, .bool false, .int .i64 0, .bool false, .string { data := #[] }, .int .i64 0, .slice none 0 0] 62)) (w.heap.size + 1) 62 [.int .i64 0, .slice none 0 0, .int .i64 0, .string { data := #[] }, .slice none 0 0, .slice none 0 0, .int .i64 0, .int .i64 0, .string { data := #[] }, .slice none 0 0, .bool false, .int .i64 0, .bool false, .string { data := #[] }, .int .i64 0, .slice none 0 0] := by
    rw [← hsz]
    exact RowIs.alloc (w.alloc (.cells #[.pointer (some ⟨rd, 0, none⟩)] 85)) _ _
  have hr := h.nix (((Keep.refl Nix w).alloc (.cells #[.pointer (some ⟨rd, 0, none⟩)] 85)).alloc (.cells #[.int .i64 0, .slice none 0 0, .int .i64 0, .string { data := #[] }, .slice none 0 0, .slice none 0 0, .int .i64 0, .int .i64 0, .string { data := #[] }, .slice none 0 0, .bool false, .int .i64 0, .bool false, .string { data := #[] }, .int .i64 0, .slice none 0 0] 62))
  have kk : Keep (· = rd) w ((w.alloc (.cells #[.pointer (some ⟨rd, 0, none⟩)] 85)).alloc (.cells #[.int .i64 0, .slice none 0 0, .int .i64 0, .string { data := #[] }, .slice none 0 0, .slice none 0 0, .int .i64 0, .int .i64 0, .string { data := #[] }, .slice none 0 0, .bool false, .int .i64 0, .bool false, .string { data := #[] }, .int .i64 0, .slice none 0 0] 62)) := ((Keep.refl (· = rd) w).alloc _).alloc _
  clear h hsz
  go_enter Tryz.func54, Tryz.ntmps54
  go_wp2_with fail
  go_fit (gAsk_c rd p _ _ hr (fun b hb => Nat.lt_of_lt_of_le (hpl b hb) kk.size))
  rintro e w1 ⟨cs, rfl, hc, ho, hr1, k1⟩
  have hlc := Lib.hid (wGAsk_lawful.len hc)
  have HO := Lib.hid ho
  clear ho hr
  obtain ⟨y, HY⟩ : ∃ y, Hid (pGAsk s = y) := ⟨_, rfl⟩
  rw [HY.out] at hc hr1
  have rRl0 := rowR.lt
  replace rowB := rowB.keep k1 (by omega)
  replace rowR := rowR.keep k1 (by omega)
  have rRl := rowR.lt
  have hrl := hr1.lt
  have hst0 := store_run (P := Tryz.prog) (cs := cs) S_Ask (RowIs.alloc w1 #[.int .i64 0, .slice none 0 0, .int .i64 0, .string { data := #[] }, .slice none 0 0, .slice none 0 0, .int .i64 0, .int .i64 0, .string { data := #[] }, .slice none 0 0, .bool false, .int .i64 0, .bool false, .string { data := #[] }, .int .i64 0, .slice none 0 0] 62) rfl hlc.out HO.out
  have rowV := (RowIs.alloc w1 #[.int .i64 0, .slice none 0 0, .int .i64 0, .string { data := #[] }, .slice none 0 0, .slice none 0 0, .int .i64 0, .int .i64 0, .string { data := #[] }, .slice none 0 0, .bool false, .int .i64 0, .bool false, .string { data := #[] }, .int .i64 0, .slice none 0 0] 62).setRow cs
  have kT := ((Keep.refl (· = w1.heap.size) w1).alloc (.cells #[.int .i64 0, .slice none 0 0, .int .i64 0, .string { data := #[] }, .slice none 0 0, .slice none 0 0, .int .i64 0, .int .i64 0, .string { data := #[] }, .slice none 0 0, .bool false, .int .i64 0, .bool false, .string { data := #[] }, .int .i64 0, .slice none 0 0] 62)).setRow (fun _ => rfl) cs.toArray
  replace rowB := rowB.keep kT (by omega)
  replace rowR := rowR.keep kT (by omega)
  have hr2 := hr1.keep kT (by omega) (fun b hb e => by have := hpl b hb; omega)
  have kk2 : Keep (· = rd) w ((w1.alloc (.cells #[.int .i64 0, .slice none 0 0, .int .i64 0, .string { data := #[] }, .slice none 0 0, .slice none 0 0, .int .i64 0, .int .i64 0, .string { data := #[] }, .slice none 0 0, .bool false, .int .i64 0, .bool false, .string { data := #[] }, .int .i64 0, .slice none 0 0] 62)).setRow w1.heap.size cs.toArray) := (kk.trans k1).then kT (fun i hi e => by omega)
  have hs2 : w.heap.size + 2 ≤ ((w.alloc (.cells #[.pointer (some ⟨rd, 0, none⟩)] 85)).alloc (.cells #[.int .i64 0, .slice none 0 0, .int .i64 0, .string { data := #[] }, .slice none 0 0, .slice none 0 0, .int .i64 0, .int .i64 0, .string { data := #[] }, .slice none 0 0, .bool false, .int .i64 0, .bool false, .string { data := #[] }, .int .i64 0, .slice none 0 0] 62)).heap.size := by simp
  replace hc := wGAsk_lawful.keep hc kT (fun b hb e => by have := hb.2; omega)
  have xB : ((w1.alloc (.cells #[.int .i64 0, .slice none 0 0, .int .i64 0, .string { data := #[] }, .slice none 0 0, .slice none 0 0, .int .i64 0, .int .i64 0, .string { data := #[] }, .slice none 0 0, .bool false, .int .i64 0, .bool false, .string { data := #[] }, .int .i64 0, .slice none 0 0] 62)).setRow w1.heap.size cs.toArray).cell? ⟨w.heap.size, 0, none⟩ = some (.pointer (some ⟨rd, 0, none⟩)) := rowB.cell 0
  clear k1 kT hr1 rowB kk
  go_wp2_with fail
  go_fit (End_rd rd p y.2 _ hr2)
  rintro e w2 ⟨rfl, k2⟩
  clear xB hst0
  replace rowR := rowR.keep k2 id
  replace rowV := rowV.keep k2 id
  replace hc := wGAsk_lawful.nix hc k2
  have kk3 := kk2.trans k2.nix
  have rRl2 := rowV.lt
  clear hr2 k2 kk2
  rcases test_eq (endS y.2) 0 with ⟨t, he⟩ | ⟨t, he⟩
  · have t' : (endS y.2 != 0) = false := by simp [he.out]
    have hld : (wholeSem 62 (.pointer (some ⟨w1.heap.size, 0, none⟩))).run Tryz.prog w2 = .ok (.value (.agg cs.toArray)) w2 := Whole.row S_Ask hlc.out rowV
    have hst := store_run (P := Tryz.prog) (cs := cs) S_Ask rowR rfl hlc.out HO.out
    have rowF := rowR.setRow cs
    have kS := (Keep.refl (· = w.heap.size + 1) w2).setRow (fun _ => rfl) cs.toArray
    have hin : (Tryz.prog.info? 62).map (·.size) = some cs.toArray.size := by rw [List.size_toArray, hlc.out]; exact S_Ask.info
    have HIN := Lib.hid hin
    clear hin rowV
    go_wp2_with fail
    refine bodyPost_ret (results_cell_row2 (by rfl) _ _ _ _ _ _ _ (by rfl) rowF Tryz.underlying62 (by rfl) HIN.out) rfl ?_
    rw [HY.out, endP_ok he.out]
    exact ⟨cs, rfl, wGAsk_lawful.mono (wGAsk_lawful.keep hc kS (fun b hb e => by have := hb.1; omega)) (fun b hb => (⟨by have := hb.1; omega, by have := hb.2; have := kS.size; omega⟩ : NewIn w (w2.setRow (w.heap.size + 1) cs.toArray) b)), HO.out, kk3.then kS (fun i hi e => by omega)⟩
  · have t' : (endS y.2 != 0) = true := by simp [he]
    have HE := Lib.hid he
    clear he
    have rowN : RowIs (w2.alloc (.cells #[.int .i64 0, .slice none 0 0, .int .i64 0, .string { data := #[] }, .slice none 0 0, .slice none 0 0, .int .i64 0, .int .i64 0, .string { data := #[] }, .slice none 0 0, .bool false, .int .i64 0, .bool false, .string { data := #[] }, .int .i64 0, .slice none 0 0] 62)) w2.heap.size 62 [.int .i64 0, .slice none 0 0, .int .i64 0, .string { data := #[] }, .slice none 0 0, .slice none 0 0, .int .i64 0, .int .i64 0, .string { data := #[] }, .slice none 0 0, .bool false, .int .i64 0, .bool false, .string { data := #[] }, .int .i64 0, .slice none 0 0] := RowIs.alloc w2 _ _
    have rowR2 := rowR.keep ((Keep.refl Nix w2).alloc (.cells #[.int .i64 0, .slice none 0 0, .int .i64 0, .string { data := #[] }, .slice none 0 0, .slice none 0 0, .int .i64 0, .int .i64 0, .string { data := #[] }, .slice none 0 0, .bool false, .int .i64 0, .bool false, .string { data := #[] }, .int .i64 0, .slice none 0 0] 62)) id
    have hld : (wholeSem 62 (.pointer (some ⟨w2.heap.size, 0, none⟩))).run Tryz.prog (w2.alloc (.cells #[.int .i64 0, .slice none 0 0, .int .i64 0, .string { data := #[] }, .slice none 0 0, .slice none 0 0, .int .i64 0, .int .i64 0, .string { data := #[] }, .slice none 0 0, .bool false, .int .i64 0, .bool false, .string { data := #[] }, .int .i64 0, .slice none 0 0] 62)) = .ok (.value (.agg #[.int .i64 0, .slice none 0 0, .int .i64 0, .string { data := #[] }, .slice none 0 0, .slice none 0 0, .int .i64 0, .int .i64 0, .string { data := #[] }, .slice none 0 0, .bool false, .int .i64 0, .bool false, .string { data := #[] }, .int .i64 0, .slice none 0 0])) (w2.alloc (.cells #[.int .i64 0, .slice none 0 0, .int .i64 0, .string { data := #[] }, .slice none 0 0, .slice none 0 0, .int .i64 0, .int .i64 0, .string { data := #[] }, .slice none 0 0, .bool false, .int .i64 0, .bool false, .string { data := #[] }, .int .i64 0, .slice none 0 0] 62)) := Whole.row S_Ask rfl rowN
    have hst := store_run (P := Tryz.prog) (cs := [.int .i64 0, .slice none 0 0, .int .i64 0, .string { data := #[] }, .slice none 0 0, .slice none 0 0, .int .i64 0, .int .i64 0, .string { data := #[] }, .slice none 0 0, .bool false, .int .i64 0, .bool false, .string { data := #[] }, .int .i64 0, .slice none 0 0]) S_Ask rowR2 rfl rfl rfl
    have rowF := rowR2.setRow [.int .i64 0, .slice none 0 0, .int .i64 0, .string { data := #[] }, .slice none 0 0, .slice none 0 0, .int .i64 0, .int .i64 0, .string { data := #[] }, .slice none 0 0, .bool false, .int .i64 0, .bool false, .string { data := #[] }, .int .i64 0, .slice none 0 0]
    have kS := ((Keep.refl (· = w.heap.size + 1) w2).alloc (.cells #[.int .i64 0, .slice none 0 0, .int .i64 0, .string { data := #[] }, .slice none 0 0, .slice none 0 0, .int .i64 0, .int .i64 0, .string { data := #[] }, .slice none 0 0, .bool false, .int .i64 0, .bool false, .string { data := #[] }, .int .i64 0, .slice none 0 0] 62)).setRow (fun _ => rfl) (#[.int .i64 0, .slice none 0 0, .int .i64 0, .string { data := #[] }, .slice none 0 0, .slice none 0 0, .int .i64 0, .int .i64 0, .string { data := #[] }, .slice none 0 0, .bool false, .int .i64 0, .bool false, .string { data := #[] }, .int .i64 0, .slice none 0 0] : Array Value)
    clear rowN rowV rowR2
    go_wp2_with fail
    refine bodyPost_ret (results_cell_row2 (by rfl) _ _ _ _ _ _ _ (by rfl) rowF Tryz.underlying62 (by rfl) S_Ask.info) rfl ?_
    rw [HY.out, endP_no HE.out]
    exact ⟨[.int .i64 0, .slice none 0 0, .int .i64 0, .string { data := #[] }, .slice none 0 0, .slice none 0 0, .int .i64 0, .int .i64 0, .string { data := #[] }, .slice none 0 0, .bool false, .int .i64 0, .bool false, .string { data := #[] }, .int .i64 0, .slice none 0 0], rfl, zGAsk_w _ _, rfl, kk3.then kS (fun i hi e => by omega)⟩
end
section
attribute [local go_sem ↓] st_Ask
set_option maxRecDepth 100000 in
set_option maxHeartbeats 8000000 in
theorem wTakeAsk_c {p : Nat → Prop} (a : Option Addr) (n ca : Nat) (l : List UInt8) (w : World) (hn : l.length = n) (ha : Lies w p a (l.map bv)) (hr0 : n ≤ 140737488355328) :
    Calls Tryz.prog 15 #[.slice a n ca] w (Took wGAsk w (takeP pGAsk zGAsk l)) := by
  have rowR : RowIs (w.alloc (.cells #[.int .i64 0, .slice none 0 0, .int .i64 0, .string { data := #[] }, .slice none 0 0, .slice none 0 0, .int .i64 0, .int .i64 0, .string { data := #[] }, .slice none 0 0, .bool false, .int .i64 0, .bool false, .string { data := #[] }, .int .i64 0, .slice none 0 0] 62)) w.heap.size 62 [.int .i64 0, .slice none 0 0, .int .i64 0, .string { data := #[] }, .slice none 0 0, .slice none 0 0, .int .i64 0, .int .i64 0, .string { data := #[] }, .slice none 0 0, .bool false, .int .i64 0, .bool false, .string { data := #[] }, .int .i64 0, .slice none 0 0] := RowIs.alloc w _ _
  have ha1 := ha.keep ((Keep.refl Nix w).alloc (.cells #[.int .i64 0, .slice none 0 0, .int .i64 0, .string { data := #[] }, .slice none 0 0, .slice none 0 0, .int .i64 0, .int .i64 0, .string { data := #[] }, .slice none 0 0, .bool false, .int .i64 0, .bool false, .string { data := #[] }, .int .i64 0, .slice none 0 0] 62)) (fun _ _ h => h)
  have hmf : ∀ (fn : Fn) (first cap : Array Value) (w : World), (Instr.makeFunc fn first cap).run Tryz.prog w = .ok (.func fn first cap) w := fun _ _ _ _ => rfl
  have HN := Lib.hid hn
  have kk : Keep Nix w (w.alloc (.cells #[.int .i64 0, .slice none 0 0, .int .i64 0, .string { data := #[] }, .slice none 0 0, .slice none 0 0, .int .i64 0, .int .i64 0, .string { data := #[] }, .slice none 0 0, .bool false, .int .i64 0, .bool false, .string { data := #[] }, .int .i64 0, .slice none 0 0] 62)) := (Keep.refl Nix w).alloc _
  clear hn ha
  go_enter Tryz.func15, Tryz.ntmps15
  go_wp2_with fail
  go_fit (New_rd a n ca l _ HN.out ha1 hr0)
  rintro e w1 ⟨rd, rfl, hrd, hr, k1⟩
  have hrt := hr.tight
  have rRl0 := rowR.lt
  replace rowR := rowR.keep k1 id
  have rRl := rowR.lt
  have hrd' : w.heap.size < rd := by simp at hrd; omega
  have hrl := hr.lt
  have hr2 := hrt.nix ((Keep.refl Nix w1).alloc (.cells #[.pointer (some ⟨rd, 0, none⟩)] 85))
  have rowR2 := rowR.keep ((Keep.refl Nix w1).alloc (.cells #[.pointer (some ⟨rd, 0, none⟩)] 85)) id
  have kk2 : Keep Nix w (w1.alloc (.cells #[.pointer (some ⟨rd, 0, none⟩)] 85)) := (kk.trans k1).alloc _
  have hs1 : w1.heap.size ≤ (w1.alloc (.cells #[.pointer (some ⟨rd, 0, none⟩)] 85)).heap.size := by simp
  clear hr hrt k1 kk ha1 rowR hrd
  go_wp2_with fail
  go_fit (allAsk_c rd _ ⟨l, 0, 0, []⟩ _ hr2 (fun b hb => Nat.lt_of_lt_of_le hb.2 hs1))
  rintro e w2 ⟨cs, rfl, hc, ho, k2⟩
  have hlc := Lib.hid (wGAsk_lawful.len hc)
  have HO := Lib.hid ho
  have hT : Hid (takeP pGAsk zGAsk l = endP zGAsk (pGAsk ⟨l, 0, 0, []⟩)) := rfl
  generalize endP zGAsk (pGAsk ⟨l, 0, 0, []⟩) = y at hc hT ⊢
  replace rowR2 := rowR2.keep k2 (by omega)
  have kk3 : Keep Nix w w2 := kk2.then k2 (fun i hi e => by omega)
  have hst := store_run (P := Tryz.prog) (cs := cs) S_Ask rowR2 rfl hlc.out HO.out
  have rowF := rowR2.setRow cs
  have kS := (Keep.refl (· = w.heap.size) w2).setRow (fun _ => rfl) cs.toArray
  have hin : (Tryz.prog.info? 62).map (·.size) = some cs.toArray.size := by rw [List.size_toArray, hlc.out]; exact S_Ask.info
  have HIN := Lib.hid hin
  have hs3 := k2.size
  clear hin ho hr2 k2 kk2
  go_wp2_with fail
  refine bodyPost_ret (results_cell_row2 (by rfl) _ _ _ _ _ _ _ (by rfl) rowF Tryz.underlying62 (by rfl) HIN.out) rfl ?_
  rw [hT.out]
  exact ⟨cs, rfl, wGAsk_lawful.mono (wGAsk_lawful.keep hc kS (fun b hb e => by have := hb.1; omega)) (fun b hb => (⟨by have := hb.1; omega, by have := hb.2; have := kS.size; omega⟩ : NewIn w (w2.setRow w.heap.size cs.toArray) b)), HO.out, kk3.then kS (fun i hi e => by omega)⟩
end
end Go.Proofs.YtabgbleldbapbaaGreat
