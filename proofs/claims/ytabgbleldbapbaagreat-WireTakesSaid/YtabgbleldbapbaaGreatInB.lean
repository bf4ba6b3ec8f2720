/- THE REFERENCE's READER: lists and structs. Printed by gen9.py. -/
import Derived.Test.YtabgbleldbapbaaGreatInA
import Derived.Test.YtabgbleldbapbaaGreatGetA
namespace Go.Proofs.YtabgbleldbapbaaGreat
open Go.RowKit

theorem ld_Value (a : Act) (dst : Option Tmp) (x : Operand) (ty : TypeId) (pos : String) (after : Array Edge) (guard : Option (Nat × Bool)) : execOp a.eval { dst := dst, op := .load 200 x, type := ty, pos := pos, after := after, guard := guard } = wholeSem 200 (a.eval x) := rfl
section
attribute [local go_sem ↓] ld_Value st_Value
set_option maxRecDepth 100000 in
set_option maxHeartbeats 8000000 in
theorem iValue_c (x : Nat) (p : Nat → Prop) (s : RdS) (w : World) (h : IsIn w x p s) (hpl : ∀ b, p b → b < w.heap.size) :
    Calls Tryz.prog 189 #[.pointer (some ⟨x, 0, none⟩)] w (GotS rGValue x p w (pGValue s)) := by
  have hlt := h.lt
  have rowR : RowIs (w.alloc (.cells #[.int .i64 0, .int .i64 0, .string { data := #[] }] 200)) w.heap.size 200 [.int .i64 0, .int .i64 0, .string { data := #[] }] := RowIs.alloc w _ _
  have hr := h.nix ((Keep.refl Nix w).alloc (.cells #[.int .i64 0, .int .i64 0, .string { data := #[] }] 200))
  have kk : Keep (· = x) w (w.alloc (.cells #[.int .i64 0, .int .i64 0, .string { data := #[] }] 200)) := (Keep.refl (· = x) w).alloc _
  clear h
  go_enter Tryz.func189, Tryz.ntmps189
  go_wp2_with fail
  go_fit (iint_g x p _ _ hr)
  rintro e w1 ⟨rfl, hr', k0⟩
  have wf0 : Hid ((Lit.int .i64 (pInt s).1).wf = true) := zag_wf (numS_lt maxU _)
  generalize hy0 : pInt s = y0 at hr' wf0 ⊢
  replace hy0 := Lib.hid hy0
  have rRl := rowR.lt
  have ks0 := k0.size
  replace rowR := rowR.keep k0 (by omega)
  have rRl1 := rowR.lt
  have hst0 := store_run (P := Tryz.prog) (cs := [.int .i64 y0.1, .int .i64 0, .string { data := #[] }]) S_Value (RowIs.alloc w1 #[.int .i64 0, .int .i64 0, .string { data := #[] }] 200) rfl rfl rfl
  have rowT := (RowIs.alloc w1 #[.int .i64 0, .int .i64 0, .string { data := #[] }] 200).setRow [.int .i64 y0.1, .int .i64 0, .string { data := #[] }]
  have kT := ((Keep.refl (· = w1.heap.size) w1).alloc (.cells #[.int .i64 0, .int .i64 0, .string { data := #[] }] 200)).setRow (fun _ => rfl) (#[.int .i64 y0.1, .int .i64 0, .string { data := #[] }] : Array Value)
  replace rowR := rowR.keep kT (by omega)
  have hr1 := hr'.lt
  have hxT : x < w1.heap.size := hr1
  replace hr := hr'.keep kT (by omega) (fun b hb e => by have := hpl b hb; omega)
  replace kk := (kk.trans k0).then kT (fun i hi e => by omega)
  clear hr' k0 kT hr1
  go_wp2_with fail
  clear hst0
  go_fit (iwide_g x p _ _ hr)
  rintro e w2 ⟨rfl, hr', k1⟩
  have wf1 : Hid ((Lit.int .i64 (pInt y0.2).1).wf = true) := zag_wf (numS_lt maxU _)
  generalize hy1 : pInt y0.2 = y1 at hr' wf1 ⊢
  replace hy1 := Lib.hid hy1
  have rTl := rowT.lt
  replace rowT := rowT.keep k1 (by omega)
  replace rowR := rowR.keep k1 (by omega)
  have xc0 : w2.cell? ⟨w1.heap.size, 1, none⟩ = some (.int .i64 0) := rowT.cell 1
  have xf0 : w2.frozen? ⟨w1.heap.size, 1, none⟩ = false := rowT.frozen 1
  replace rowT := rowT.set 1 (.int .i64 y1.1)
  replace rowT : RowIs (w2.setCell ⟨w1.heap.size, 1, none⟩ (.int .i64 y1.1)) w1.heap.size 200 [.int .i64 y0.1, .int .i64 y1.1, .string { data := #[] }] := rowT
  have kT := (Keep.refl (· = w1.heap.size) w2).setCell (p := ⟨w1.heap.size, 1, none⟩) (fun _ => rfl) (.int .i64 y1.1)
  replace rowR := rowR.keep kT (by omega)
  replace hr := hr'.keep kT (by omega) (fun b hb e => by have := hpl b hb; omega)
  replace kk := (kk.trans k1).then kT (fun i hi e => by omega)
  clear hr' k1 kT rTl
  go_wp2_with fail
  clear xc0 xf0
  go_fit (itext_g x p _ _ hr)
  rintro e w3 ⟨rfl, hr', k2⟩
  have wf2 : Hid ((pBytes y1.2).1.length ≤ far) := Nat.le_trans (textS_len 65536 _) (by decide)
  generalize hy2 : pBytes y1.2 = y2 at hr' wf2 ⊢
  replace hy2 := Lib.hid hy2
  have rTl := rowT.lt
  replace rowT := rowT.keep k2 (by omega)
  replace rowR := rowR.keep k2 (by omega)
  have xc0 : w3.cell? ⟨w1.heap.size, 2, none⟩ = some (.string { data := #[] }) := rowT.cell 2
  have xf0 : w3.frozen? ⟨w1.heap.size, 2, none⟩ = false := rowT.frozen 2
  replace rowT := rowT.set 2 (.string (strB y2.1))
  replace rowT : RowIs (w3.setCell ⟨w1.heap.size, 2, none⟩ (.string (strB y2.1))) w1.heap.size 200 [.int .i64 y0.1, .int .i64 y1.1, .string (strB y2.1)] := rowT
  have kT := (Keep.refl (· = w1.heap.size) w3).setCell (p := ⟨w1.heap.size, 2, none⟩) (fun _ => rfl) (.string (strB y2.1))
  replace rowR := rowR.keep kT (by omega)
  replace hr := hr'.keep kT (by omega) (fun b hb e => by have := hpl b hb; omega)
  replace kk := (kk.trans k2).then kT (fun i hi e => by omega)
  clear hr' k2 kT rTl
  replace rowT : RowIs (w3.setCell ⟨w1.heap.size, 2, none⟩ (.string (strB y2.1))) w1.heap.size 200 [.int .i64 y0.1, .int .i64 y1.1, .string (strB y2.1)] := rowT
  have hld : (wholeSem 200 (.pointer (some ⟨w1.heap.size, 0, none⟩))).run Tryz.prog (w3.setCell ⟨w1.heap.size, 2, none⟩ (.string (strB y2.1))) = .ok (.value (.agg #[.int .i64 y0.1, .int .i64 y1.1, .string (strB y2.1)])) (w3.setCell ⟨w1.heap.size, 2, none⟩ (.string (strB y2.1))) := Whole.row S_Value rfl rowT
  have hst := store_run (P := Tryz.prog) (cs := [.int .i64 y0.1, .int .i64 y1.1, .string (strB y2.1)]) S_Value rowR rfl rfl rfl
  have rowF := rowR.setRow [.int .i64 y0.1, .int .i64 y1.1, .string (strB y2.1)]
  have kS := (Keep.refl (· = w.heap.size) (w3.setCell ⟨w1.heap.size, 2, none⟩ (.string (strB y2.1)))).setRow (fun _ => rfl) (#[.int .i64 y0.1, .int .i64 y1.1, .string (strB y2.1)] : Array Value)
  have HE : Hid (pGValue s = (⟨y0.1, y1.1, y2.1⟩, y2.2)) := by show _ = _; simp only [pGValue, hy0.out, hy1.out, hy2.out]
  go_wp2_with fail
  refine bodyPost_ret (results_cell_row (by rfl) _ _ _ _ _ _ _ (by rfl) rowF Tryz.underlying200 (by rfl) S_Value.info) rfl ?_
  rw [HE.out]
  exact ⟨[.int .i64 y0.1, .int .i64 y1.1, .string (strB y2.1)], rfl, ⟨[.int .i64 y0.1], [.int .i64 y1.1], [.string (strB y2.1)], rfl, ⟨rfl, wf0.out⟩, ⟨rfl, wf1.out⟩, ⟨rfl, wf2.out⟩⟩, rfl, hr.keep kS (by omega) (fun b hb e => by have := hpl b hb; omega), kk.then kS (fun i hi e => by omega)⟩
end
section
attribute [local go_sem ↓] ls_Value
set_option maxRecDepth 100000 in
set_option maxHeartbeats 4000000 in
theorem ilValue_c (x : Nat) (p : Nat → Prop) (s : RdS) (w : World) (h : IsIn w x p s) (hpl : ∀ b, p b → b < w.heap.size) :
    Calls Tryz.prog 177 #[.pointer (some ⟨x, 0, none⟩)] w (GotV (rList rGValue) x p w (pList pGValue s)) := by
  have hlt := h.lt
  have hle := numS_le 5000 s
  go_enter Tryz.func177, Tryz.ntmps177
  go_wp2_with fail
  go_fit (imany_g x p s w h)
  rintro e w1 ⟨rfl, h1, k1⟩
  have HP : Hid (pList pGValue s = pMany pGValue (numS 5000 s).1 (numS 5000 s).2) := rfl
  clear h
  generalize numS 5000 s = N at h1 HP hle ⊢
  have hsz0 := k1.size
  go_wp2_with fail
  go_loopw [3, 5] (fun l i wr => ∃ (xs : List GValue) (css : List (List Value)) (s' : RdS) (a : Option Addr) (cap : Nat), l = .slice a xs.length cap ∧ i = .int .i64 xs.length ∧ xs.length ≤ N.1 ∧ Hid (pMany pGValue N.1 N.2 = (xs ++ (pMany pGValue (N.1 - xs.length) s').1, (pMany pGValue (N.1 - xs.length) s').2)) ∧
      wr.ownsRow w.heap.size 200 3 (.slice a xs.length cap) xs.length css.flatten ∧ Els rGValue wr (fun b => NewIn w wr b ∧ ¬ OwnB (.slice a xs.length cap) b) css xs ∧ IsIn wr x p s' ∧ Keep (· = x) w wr) (fun _ i _ => N.1 - (intOf i).toNat)
  case atStart => exact ⟨[], [], N.2, none, 0, rfl, rfl, Nat.zero_le _, rfl, World.ownsRow_nil _ _ _ _, Els.nil _ _ _, h1, k1⟩
  case round =>
    clear h1 k1 hsz0
    obtain ⟨xs, css, s', a, cap, rfl, rfl, hk, hp, own, els, hr, kk⟩ := hrel
    have hwr := kk.size
    have hfar : xs.length ≤ far := by unfold far; omega
    by_cases hlt2 : xs.length < N.1
    · have hdec : decide (xs.length < N.1) = true := decide_eq_true hlt2
      go_wp2_with fail
      go_fit (fault_c x p s' wr hr)
      rintro e w2 ⟨rfl, rfl⟩
      rcases test_eq s'.e 0 with ⟨ht, he⟩ | ⟨ht, he⟩
      · have t' : (s'.e != 0) = false := by simp [he.out]
        go_wp2_with fail
        go_fit (iValue_c x p s' wr hr (fun b hb => Nat.lt_of_lt_of_le (hpl b hb) hwr))
        rintro e w3 ⟨c, rfl, hc, h1c, hr3, k3⟩
        have hlc := rGValue_lawful.len hc
        have hls := list_run (P := Tryz.prog) T_lValue (by decide) c hlc w3
        have own3 := owned_keep own k3 (fun b hb e => by have := (own.lt b hb).1; omega)
        have kk3 := kk.trans k3
        have hsz3 := k3.size
        have hol : ∀ b, OwnB (.slice a xs.length cap) b → b < wr.heap.size := fun b hb => (own.lt b hb).2
        have hHP : Hid (pMany pGValue (N.1 - xs.length) s' = ((pGValue s').1 :: (pMany pGValue (N.1 - (xs.length + 1)) (pGValue s').2).1, (pMany pGValue (N.1 - (xs.length + 1)) (pGValue s').2).2)) := by
          show _ = _
          rw [show N.1 - xs.length = (N.1 - (xs.length + 1)) + 1 by omega, pMany, if_pos he.out]
        clear own hr hdec
        go_wp2_with (at_builtin; refine wpl_append1_at T_lValue rfl (.tmp 18) (.tmp 21) rfl w.heap.size rfl own3 rfl ?c0 ?c1 ?c2 ?c3 ?c4 ?_)
        case c0 => simpa using hlc
        case c1 => first | (simpa [ones] using h1c) | (intro u hu; exact (List.all_eq_true.1 h1c) u (by simpa using hu))
        case c2 => unfold maxLen; omega
        case c3 => omega
        case c4 => omega
        intro a' cap' w4 own4 k4 hfresh
        have els4 := els.push rGValue_lawful hc k3 k4 hlt hwr hol hfresh
        have hr4 : IsIn w4 x p (pGValue s').2 := hr3.keep k4 (fun hb => by have := (own3.lt _ hb).1; omega) (fun b hb hb2 => by have := (own3.lt _ hb2).1; have := hpl b hb; omega)
        have kk4 : Keep (· = x) w w4 := kk3.then k4 (fun i hi hb => by have := (own3.lt _ hb).1; omega)
        clear own3 els hr3 kk3 k3 k4 hfresh
        go_wp2
        go_roundw
        case rel => exact ⟨xs ++ [(pGValue s').1], css ++ [c], (pGValue s').2, a', cap', by simp, by rw [List.length_append]; go_num, by simp; omega, by show _ = _; rw [hp.out, hHP.out]; simp, by simpa using own4, by simpa using els4, hr4, kk4⟩
        case measure => simp [intOf]; omega
      · have t' : (s'.e != 0) = true := by simp [he]
        go_wp2_with fail
        go_ret
        have hHP : pMany pGValue (N.1 - xs.length) s' = ([], s') := by
          rw [show N.1 - xs.length = (N.1 - (xs.length + 1)) + 1 by omega, pMany, if_neg he]
        refine ⟨_, rfl, ?_, ?_, kk⟩
        · rw [HP.out, hp.out, hHP]; exact Els.list (Nat.le_refl _) own els rGValue_lawful (by simp) hfar
        · rw [HP.out, hp.out, hHP]; exact hr
    · have hdec : decide (xs.length < N.1) = false := decide_eq_false hlt2
      have hz : N.1 - xs.length = 0 := by omega
      have HZ := Lib.hid hz
      clear hz
      go_wp2_with fail
      go_ret
      refine ⟨_, rfl, ?_, ?_, kk⟩
      · rw [HP.out, hp.out, HZ.out]; exact Els.list (Nat.le_refl _) own els rGValue_lawful (by simp [pMany]) hfar
      · rw [HP.out, hp.out, HZ.out]; exact hr
end
theorem ld_Column (a : Act) (dst : Option Tmp) (x : Operand) (ty : TypeId) (pos : String) (after : Array Edge) (guard : Option (Nat × Bool)) : execOp a.eval { dst := dst, op := .load 190 x, type := ty, pos := pos, after := after, guard := guard } = wholeSem 190 (a.eval x) := rfl
section
attribute [local go_sem ↓] ld_Column st_Column
set_option maxRecDepth 100000 in
set_option maxHeartbeats 8000000 in
theorem iColumn_c (x : Nat) (p : Nat → Prop) (s : RdS) (w : World) (h : IsIn w x p s) (hpl : ∀ b, p b → b < w.heap.size) :
    Calls Tryz.prog 168 #[.pointer (some ⟨x, 0, none⟩)] w (GotS rGColumn x p w (pGColumn s)) := by
  have hlt := h.lt
  have rowR : RowIs (w.alloc (.cells #[.string { data := #[] }, .int .i64 0, .bool false] 190)) w.heap.size 190 [.string { data := #[] }, .int .i64 0, .bool false] := RowIs.alloc w _ _
  have hr := h.nix ((Keep.refl Nix w).alloc (.cells #[.string { data := #[] }, .int .i64 0, .bool false] 190))
  have kk : Keep (· = x) w (w.alloc (.cells #[.string { data := #[] }, .int .i64 0, .bool false] 190)) := (Keep.refl (· = x) w).alloc _
  clear h
  go_enter Tryz.func168, Tryz.ntmps168
  go_wp2_with fail
  go_fit (itext_g x p _ _ hr)
  rintro e w1 ⟨rfl, hr', k0⟩
  have wf0 : Hid ((pBytes s).1.length ≤ far) := Nat.le_trans (textS_len 65536 _) (by decide)
  generalize hy0 : pBytes s = y0 at hr' wf0 ⊢
  replace hy0 := Lib.hid hy0
  have rRl := rowR.lt
  have ks0 := k0.size
  replace rowR := rowR.keep k0 (by omega)
  have rRl1 := rowR.lt
  have hst0 := store_run (P := Tryz.prog) (cs := [.string (strB y0.1), .int .i64 0, .bool false]) S_Column (RowIs.alloc w1 #[.string { data := #[] }, .int .i64 0, .bool false] 190) rfl rfl rfl
  have rowT := (RowIs.alloc w1 #[.string { data := #[] }, .int .i64 0, .bool false] 190).setRow [.string (strB y0.1), .int .i64 0, .bool false]
  have kT := ((Keep.refl (· = w1.heap.size) w1).alloc (.cells #[.string { data := #[] }, .int .i64 0, .bool false] 190)).setRow (fun _ => rfl) (#[.string (strB y0.1), .int .i64 0, .bool false] : Array Value)
  replace rowR := rowR.keep kT (by omega)
  have hr1 := hr'.lt
  have hxT : x < w1.heap.size := hr1
  replace hr := hr'.keep kT (by omega) (fun b hb e => by have := hpl b hb; omega)
  replace kk := (kk.trans k0).then kT (fun i hi e => by omega)
  clear hr' k0 kT hr1
  go_wp2_with fail
  clear hst0
  go_fit (iint_g x p _ _ hr)
  rintro e w2 ⟨rfl, hr', k1⟩
  have wf1 : Hid ((Lit.int .i64 (pInt y0.2).1).wf = true) := zag_wf (numS_lt maxU _)
  generalize hy1 : pInt y0.2 = y1 at hr' wf1 ⊢
  replace hy1 := Lib.hid hy1
  have rTl := rowT.lt
  replace rowT := rowT.keep k1 (by omega)
  replace rowR := rowR.keep k1 (by omega)
  have xc0 : w2.cell? ⟨w1.heap.size, 1, none⟩ = some (.int .i64 0) := rowT.cell 1
  have xf0 : w2.frozen? ⟨w1.heap.size, 1, none⟩ = false := rowT.frozen 1
  replace rowT := rowT.set 1 (.int .i64 y1.1)
  replace rowT : RowIs (w2.setCell ⟨w1.heap.size, 1, none⟩ (.int .i64 y1.1)) w1.heap.size 190 [.string (strB y0.1), .int .i64 y1.1, .bool false] := rowT
  have kT := (Keep.refl (· = w1.heap.size) w2).setCell (p := ⟨w1.heap.size, 1, none⟩) (fun _ => rfl) (.int .i64 y1.1)
  replace rowR := rowR.keep kT (by omega)
  replace hr := hr'.keep kT (by omega) (fun b hb e => by have := hpl b hb; omega)
  replace kk := (kk.trans k1).then kT (fun i hi e => by omega)
  clear hr' k1 kT rTl
  go_wp2_with fail
  clear xc0 xf0
  go_fit (ibool_g x p _ _ hr)
  rintro e w3 ⟨rfl, hr', k2⟩
  generalize hy2 : pFlag y1.2 = y2 at hr' ⊢
  replace hy2 := Lib.hid hy2
  have rTl := rowT.lt
  replace rowT := rowT.keep k2 (by omega)
  replace rowR := rowR.keep k2 (by omega)
  have xc0 : w3.cell? ⟨w1.heap.size, 2, none⟩ = some (.bool false) := rowT.cell 2
  have xf0 : w3.frozen? ⟨w1.heap.size, 2, none⟩ = false := rowT.frozen 2
  replace rowT := rowT.set 2 (.bool y2.1)
  replace rowT : RowIs (w3.setCell ⟨w1.heap.size, 2, none⟩ (.bool y2.1)) w1.heap.size 190 [.string (strB y0.1), .int .i64 y1.1, .bool y2.1] := rowT
  have kT := (Keep.refl (· = w1.heap.size) w3).setCell (p := ⟨w1.heap.size, 2, none⟩) (fun _ => rfl) (.bool y2.1)
  replace rowR := rowR.keep kT (by omega)
  replace hr := hr'.keep kT (by omega) (fun b hb e => by have := hpl b hb; omega)
  replace kk := (kk.trans k2).then kT (fun i hi e => by omega)
  clear hr' k2 kT rTl
  replace rowT : RowIs (w3.setCell ⟨w1.heap.size, 2, none⟩ (.bool y2.1)) w1.heap.size 190 [.string (strB y0.1), .int .i64 y1.1, .bool y2.1] := rowT
  have hld : (wholeSem 190 (.pointer (some ⟨w1.heap.size, 0, none⟩))).run Tryz.prog (w3.setCell ⟨w1.heap.size, 2, none⟩ (.bool y2.1)) = .ok (.value (.agg #[.string (strB y0.1), .int .i64 y1.1, .bool y2.1])) (w3.setCell ⟨w1.heap.size, 2, none⟩ (.bool y2.1)) := Whole.row S_Column rfl rowT
  have hst := store_run (P := Tryz.prog) (cs := [.string (strB y0.1), .int .i64 y1.1, .bool y2.1]) S_Column rowR rfl rfl rfl
  have rowF := rowR.setRow [.string (strB y0.1), .int .i64 y1.1, .bool y2.1]
  have kS := (Keep.refl (· = w.heap.size) (w3.setCell ⟨w1.heap.size, 2, none⟩ (.bool y2.1))).setRow (fun _ => rfl) (#[.string (strB y0.1), .int .i64 y1.1, .bool y2.1] : Array Value)
  have HE : Hid (pGColumn s = (⟨y0.1, y1.1, y2.1⟩, y2.2)) := by show _ = _; simp only [pGColumn, hy0.out, hy1.out, hy2.out]
  go_wp2_with fail
  refine bodyPost_ret (results_cell_row (by rfl) _ _ _ _ _ _ _ (by rfl) rowF Tryz.underlying190 (by rfl) S_Column.info) rfl ?_
  rw [HE.out]
  exact ⟨[.string (strB y0.1), .int .i64 y1.1, .bool y2.1], rfl, ⟨[.string (strB y0.1)], [.int .i64 y1.1], [.bool y2.1], rfl, ⟨rfl, wf0.out⟩, ⟨rfl, wf1.out⟩, rfl⟩, rfl, hr.keep kS (by omega) (fun b hb e => by have := hpl b hb; omega), kk.then kS (fun i hi e => by omega)⟩
end
section
attribute [local go_sem ↓] ls_Column
set_option maxRecDepth 100000 in
set_option maxHeartbeats 4000000 in
theorem ilColumn_c (x : Nat) (p : Nat → Prop) (s : RdS) (w : World) (h : IsIn w x p s) (hpl : ∀ b, p b → b < w.heap.size) :
    Calls Tryz.prog 118 #[.pointer (some ⟨x, 0, none⟩)] w (GotV (rList rGColumn) x p w (pList pGColumn s)) := by
  have hlt := h.lt
  have hle := numS_le 5000 s
  go_enter Tryz.func118, Tryz.ntmps118
  go_wp2_with fail
  go_fit (imany_g x p s w h)
  rintro e w1 ⟨rfl, h1, k1⟩
  have HP : Hid (pList pGColumn s = pMany pGColumn (numS 5000 s).1 (numS 5000 s).2) := rfl
  clear h
  generalize numS 5000 s = N at h1 HP hle ⊢
  have hsz0 := k1.size
  go_wp2_with fail
  go_loopw [3, 5] (fun l i wr => ∃ (xs : List GColumn) (css : List (List Value)) (s' : RdS) (a : Option Addr) (cap : Nat), l = .slice a xs.length cap ∧ i = .int .i64 xs.length ∧ xs.length ≤ N.1 ∧ Hid (pMany pGColumn N.1 N.2 = (xs ++ (pMany pGColumn (N.1 - xs.length) s').1, (pMany pGColumn (N.1 - xs.length) s').2)) ∧
      wr.ownsRow w.heap.size 190 3 (.slice a xs.length cap) xs.length css.flatten ∧ Els rGColumn wr (fun b => NewIn w wr b ∧ ¬ OwnB (.slice a xs.length cap) b) css xs ∧ IsIn wr x p s' ∧ Keep (· = x) w wr) (fun _ i _ => N.1 - (intOf i).toNat)
  case atStart => exact ⟨[], [], N.2, none, 0, rfl, rfl, Nat.zero_le _, rfl, World.ownsRow_nil _ _ _ _, Els.nil _ _ _, h1, k1⟩
  case round =>
    clear h1 k1 hsz0
    obtain ⟨xs, css, s', a, cap, rfl, rfl, hk, hp, own, els, hr, kk⟩ := hrel
    have hwr := kk.size
    have hfar : xs.length ≤ far := by unfold far; omega
    by_cases hlt2 : xs.length < N.1
    · have hdec : decide (xs.length < N.1) = true := decide_eq_true hlt2
      go_wp2_with fail
      go_fit (fault_c x p s' wr hr)
      rintro e w2 ⟨rfl, rfl⟩
      rcases test_eq s'.e 0 with ⟨ht, he⟩ | ⟨ht, he⟩
      · have t' : (s'.e != 0) = false := by simp [he.out]
        go_wp2_with fail
        go_fit (iColumn_c x p s' wr hr (fun b hb => Nat.lt_of_lt_of_le (hpl b hb) hwr))
        rintro e w3 ⟨c, rfl, hc, h1c, hr3, k3⟩
        have hlc := rGColumn_lawful.len hc
        have hls := list_run (P := Tryz.prog) T_lColumn (by decide) c hlc w3
        have own3 := owned_keep own k3 (fun b hb e => by have := (own.lt b hb).1; omega)
        have kk3 := kk.trans k3
        have hsz3 := k3.size
        have hol : ∀ b, OwnB (.slice a xs.length cap) b → b < wr.heap.size := fun b hb => (own.lt b hb).2
        have hHP : Hid (pMany pGColumn (N.1 - xs.length) s' = ((pGColumn s').1 :: (pMany pGColumn (N.1 - (xs.length + 1)) (pGColumn s').2).1, (pMany pGColumn (N.1 - (xs.length + 1)) (pGColumn s').2).2)) := by
          show _ = _
          rw [show N.1 - xs.length = (N.1 - (xs.length + 1)) + 1 by omega, pMany, if_pos he.out]
        clear own hr hdec
        go_wp2_with (at_builtin; refine wpl_append1_at T_lColumn rfl (.tmp 18) (.tmp 21) rfl w.heap.size rfl own3 rfl ?c0 ?c1 ?c2 ?c3 ?c4 ?_)
        case c0 => simpa using hlc
        case c1 => first | (simpa [ones] using h1c) | (intro u hu; exact (List.all_eq_true.1 h1c) u (by simpa using hu))
        case c2 => unfold maxLen; omega
        case c3 => omega
        case c4 => omega
        intro a' cap' w4 own4 k4 hfresh
        have els4 := els.push rGColumn_lawful hc k3 k4 hlt hwr hol hfresh
        have hr4 : IsIn w4 x p (pGColumn s').2 := hr3.keep k4 (fun hb => by have := (own3.lt _ hb).1; omega) (fun b hb hb2 => by have := (own3.lt _ hb2).1; have := hpl b hb; omega)
        have kk4 : Keep (· = x) w w4 := kk3.then k4 (fun i hi hb => by have := (own3.lt _ hb).1; omega)
        clear own3 els hr3 kk3 k3 k4 hfresh
        go_wp2
        go_roundw
        case rel => exact ⟨xs ++ [(pGColumn s').1], css ++ [c], (pGColumn s').2, a', cap', by simp, by rw [List.length_append]; go_num, by simp; omega, by show _ = _; rw [hp.out, hHP.out]; simp, by simpa using own4, by simpa using els4, hr4, kk4⟩
        case measure => simp [intOf]; omega
      · have t' : (s'.e != 0) = true := by simp [he]
        go_wp2_with fail
        go_ret
        have hHP : pMany pGColumn (N.1 - xs.length) s' = ([], s') := by
          rw [show N.1 - xs.length = (N.1 - (xs.length + 1)) + 1 by omega, pMany, if_neg he]
        refine ⟨_, rfl, ?_, ?_, kk⟩
        · rw [HP.out, hp.out, hHP]; exact Els.list (Nat.le_refl _) own els rGColumn_lawful (by simp) hfar
        · rw [HP.out, hp.out, hHP]; exact hr
    · have hdec : decide (xs.length < N.1) = false := decide_eq_false hlt2
      have hz : N.1 - xs.length = 0 := by omega
      have HZ := Lib.hid hz
      clear hz
      go_wp2_with fail
      go_ret
      refine ⟨_, rfl, ?_, ?_, kk⟩
      · rw [HP.out, hp.out, HZ.out]; exact Els.list (Nat.le_refl _) own els rGColumn_lawful (by simp [pMany]) hfar
      · rw [HP.out, hp.out, HZ.out]; exact hr
end
theorem ld_Table (a : Act) (dst : Option Tmp) (x : Operand) (ty : TypeId) (pos : String) (after : Array Edge) (guard : Option (Nat × Bool)) : execOp a.eval { dst := dst, op := .load 39 x, type := ty, pos := pos, after := after, guard := guard } = wholeSem 39 (a.eval x) := rfl
section
attribute [local go_sem ↓] ld_Table st_Table
set_option maxRecDepth 100000 in
set_option maxHeartbeats 8000000 in
theorem iTable_c (x : Nat) (p : Nat → Prop) (s : RdS) (w : World) (h : IsIn w x p s) (hpl : ∀ b, p b → b < w.heap.size) :
    Calls Tryz.prog 44 #[.pointer (some ⟨x, 0, none⟩)] w (GotS rGTable x p w (pGTable s)) := by
  have hlt := h.lt
  have rowR : RowIs (w.alloc (.cells #[.int .i64 0, .string { data := #[] }, .slice none 0 0, .slice none 0 0] 39)) w.heap.size 39 [.int .i64 0, .string { data := #[] }, .slice none 0 0, .slice none 0 0] := RowIs.alloc w _ _
  have hr := h.nix ((Keep.refl Nix w).alloc (.cells #[.int .i64 0, .string { data := #[] }, .slice none 0 0, .slice none 0 0] 39))
  have kk : Keep (· = x) w (w.alloc (.cells #[.int .i64 0, .string { data := #[] }, .slice none 0 0, .slice none 0 0] 39)) := (Keep.refl (· = x) w).alloc _
  clear h
  go_enter Tryz.func44, Tryz.ntmps44
  go_wp2_with fail
  go_fit (iint_g x p _ _ hr)
  rintro e w1 ⟨rfl, hr', k0⟩
  have wf0 : Hid ((Lit.int .i64 (pInt s).1).wf = true) := zag_wf (numS_lt maxU _)
  generalize hy0 : pInt s = y0 at hr' wf0 ⊢
  replace hy0 := Lib.hid hy0
  have rRl := rowR.lt
  have ks0 := k0.size
  replace rowR := rowR.keep k0 (by omega)
  have rRl1 := rowR.lt
  have hst0 := store_run (P := Tryz.prog) (cs := [.int .i64 y0.1, .string { data := #[] }, .slice none 0 0, .slice none 0 0]) S_Table (RowIs.alloc w1 #[.int .i64 0, .string { data := #[] }, .slice none 0 0, .slice none 0 0] 39) rfl rfl rfl
  have rowT := (RowIs.alloc w1 #[.int .i64 0, .string { data := #[] }, .slice none 0 0, .slice none 0 0] 39).setRow [.int .i64 y0.1, .string { data := #[] }, .slice none 0 0, .slice none 0 0]
  have kT := ((Keep.refl (· = w1.heap.size) w1).alloc (.cells #[.int .i64 0, .string { data := #[] }, .slice none 0 0, .slice none 0 0] 39)).setRow (fun _ => rfl) (#[.int .i64 y0.1, .string { data := #[] }, .slice none 0 0, .slice none 0 0] : Array Value)
  replace rowR := rowR.keep kT (by omega)
  have hr1 := hr'.lt
  have hxT : x < w1.heap.size := hr1
  replace hr := hr'.keep kT (by omega) (fun b hb e => by have := hpl b hb; omega)
  replace kk := (kk.trans k0).then kT (fun i hi e => by omega)
  clear hr' k0 kT hr1
  go_wp2_with fail
  clear hst0
  go_fit (itext_g x p _ _ hr)
  rintro e w2 ⟨rfl, hr', k1⟩
  have wf1 : Hid ((pBytes y0.2).1.length ≤ far) := Nat.le_trans (textS_len 65536 _) (by decide)
  generalize hy1 : pBytes y0.2 = y1 at hr' wf1 ⊢
  replace hy1 := Lib.hid hy1
  have rTl := rowT.lt
  replace rowT := rowT.keep k1 (by omega)
  replace rowR := rowR.keep k1 (by omega)
  have xc0 : w2.cell? ⟨w1.heap.size, 1, none⟩ = some (.string { data := #[] }) := rowT.cell 1
  have xf0 : w2.frozen? ⟨w1.heap.size, 1, none⟩ = false := rowT.frozen 1
  replace rowT := rowT.set 1 (.string (strB y1.1))
  replace rowT : RowIs (w2.setCell ⟨w1.heap.size, 1, none⟩ (.string (strB y1.1))) w1.heap.size 39 [.int .i64 y0.1, .string (strB y1.1), .slice none 0 0, .slice none 0 0] := rowT
  have kT := (Keep.refl (· = w1.heap.size) w2).setCell (p := ⟨w1.heap.size, 1, none⟩) (fun _ => rfl) (.string (strB y1.1))
  replace rowR := rowR.keep kT (by omega)
  replace hr := hr'.keep kT (by omega) (fun b hb e => by have := hpl b hb; omega)
  replace kk := (kk.trans k1).then kT (fun i hi e => by omega)
  clear hr' k1 kT rTl
  go_wp2_with fail
  clear xc0 xf0
  go_fit (ilColumn_c x p _ _ hr (fun b hb => Nat.lt_of_lt_of_le (hpl b hb) kk.size))
  rintro e w3 ⟨v, rfl, q2, hr', k2⟩
  generalize hy2 : (pList pGColumn) y1.2 = y2 at hr' q2
  replace hy2 := Lib.hid hy2
  obtain ⟨a2, cc2, hv, q2'⟩ := rList_open q2
  simp only [List.cons.injEq, and_true] at hv
  subst hv
  clear q2
  have q2 := q2'
  clear q2'
  have rTl := rowT.lt
  replace rowT := rowT.keep k2 (by omega)
  replace rowR := rowR.keep k2 (by omega)
  replace q2 := (rList_lawful rGColumn_lawful).mono q2 (fun b hb => (⟨by have := hb.1; omega, hb.2, by have := hb.1; omega⟩ : NewBut (w.heap.size + 1) w1.heap.size w3 b))
  have xc0 : w3.cell? ⟨w1.heap.size, 2, none⟩ = some (.slice none 0 0) := rowT.cell 2
  have xf0 : w3.frozen? ⟨w1.heap.size, 2, none⟩ = false := rowT.frozen 2
  replace rowT := rowT.set 2 (.slice a2 y2.1.length cc2)
  replace rowT : RowIs (w3.setCell ⟨w1.heap.size, 2, none⟩ (.slice a2 y2.1.length cc2)) w1.heap.size 39 [.int .i64 y0.1, .string (strB y1.1), .slice a2 y2.1.length cc2, .slice none 0 0] := rowT
  have kT := (Keep.refl (· = w1.heap.size) w3).setCell (p := ⟨w1.heap.size, 2, none⟩) (fun _ => rfl) (.slice a2 y2.1.length cc2)
  replace rowR := rowR.keep kT (by omega)
  replace hr := hr'.keep kT (by omega) (fun b hb e => by have := hpl b hb; omega)
  replace kk := (kk.trans k2).then kT (fun i hi e => by omega)
  replace q2 := (rList_lawful rGColumn_lawful).mono ((rList_lawful rGColumn_lawful).keep q2 kT (fun b hb e => hb.2.2 e)) (fun b hb => (⟨hb.1, Nat.lt_of_lt_of_le hb.2.1 kT.size, hb.2.2⟩ : NewBut (w.heap.size + 1) w1.heap.size (w3.setCell ⟨w1.heap.size, 2, none⟩ (.slice a2 y2.1.length cc2)) b))
  clear hr' k2 kT rTl
  go_wp2_with fail
  clear xc0 xf0
  go_fit (ilint_c x p _ _ hr (fun b hb => Nat.lt_of_lt_of_le (hpl b hb) kk.size))
  rintro e w4 ⟨v, rfl, q3, hr', k3⟩
  generalize hy3 : (pList pInt) y2.2 = y3 at hr' q3
  replace hy3 := Lib.hid hy3
  obtain ⟨a3, cc3, hv, q3'⟩ := rList_open q3
  simp only [List.cons.injEq, and_true] at hv
  subst hv
  clear q3
  have q3 := q3'
  clear q3'
  have rTl := rowT.lt
  replace rowT := rowT.keep k3 (by omega)
  replace rowR := rowR.keep k3 (by omega)
  replace q2 := (rList_lawful rGColumn_lawful).mono ((rList_lawful rGColumn_lawful).keep q2 k3 (fun b hb e => by have := hb.1; omega)) (fun b hb => (⟨hb.1, Nat.lt_of_lt_of_le hb.2.1 k3.size, hb.2.2⟩ : NewBut (w.heap.size + 1) w1.heap.size w4 b))
  replace q3 := (rList_lawful (rInt_lawful _)).mono q3 (fun b hb => (⟨by have := hb.1; omega, hb.2, by have := hb.1; omega⟩ : NewBut (w.heap.size + 1) w1.heap.size w4 b))
  have xc0 : w4.cell? ⟨w1.heap.size, 3, none⟩ = some (.slice none 0 0) := rowT.cell 3
  have xf0 : w4.frozen? ⟨w1.heap.size, 3, none⟩ = false := rowT.frozen 3
  replace rowT := rowT.set 3 (.slice a3 y3.1.length cc3)
  replace rowT : RowIs (w4.setCell ⟨w1.heap.size, 3, none⟩ (.slice a3 y3.1.length cc3)) w1.heap.size 39 [.int .i64 y0.1, .string (strB y1.1), .slice a2 y2.1.length cc2, .slice a3 y3.1.length cc3] := rowT
  have kT := (Keep.refl (· = w1.heap.size) w4).setCell (p := ⟨w1.heap.size, 3, none⟩) (fun _ => rfl) (.slice a3 y3.1.length cc3)
  replace rowR := rowR.keep kT (by omega)
  replace hr := hr'.keep kT (by omega) (fun b hb e => by have := hpl b hb; omega)
  replace kk := (kk.trans k3).then kT (fun i hi e => by omega)
  replace q2 := (rList_lawful rGColumn_lawful).mono ((rList_lawful rGColumn_lawful).keep q2 kT (fun b hb e => hb.2.2 e)) (fun b hb => (⟨hb.1, Nat.lt_of_lt_of_le hb.2.1 kT.size, hb.2.2⟩ : NewBut (w.heap.size + 1) w1.heap.size (w4.setCell ⟨w1.heap.size, 3, none⟩ (.slice a3 y3.1.length cc3)) b))
  replace q3 := (rList_lawful (rInt_lawful _)).mono ((rList_lawful (rInt_lawful _)).keep q3 kT (fun b hb e => hb.2.2 e)) (fun b hb => (⟨hb.1, Nat.lt_of_lt_of_le hb.2.1 kT.size, hb.2.2⟩ : NewBut (w.heap.size + 1) w1.heap.size (w4.setCell ⟨w1.heap.size, 3, none⟩ (.slice a3 y3.1.length cc3)) b))
  clear hr' k3 kT rTl
  replace rowT : RowIs (w4.setCell ⟨w1.heap.size, 3, none⟩ (.slice a3 y3.1.length cc3)) w1.heap.size 39 [.int .i64 y0.1, .string (strB y1.1), .slice a2 y2.1.length cc2, .slice a3 y3.1.length cc3] := rowT
  have hld : (wholeSem 39 (.pointer (some ⟨w1.heap.size, 0, none⟩))).run Tryz.prog (w4.setCell ⟨w1.heap.size, 3, none⟩ (.slice a3 y3.1.length cc3)) = .ok (.value (.agg #[.int .i64 y0.1, .string (strB y1.1), .slice a2 y2.1.length cc2, .slice a3 y3.1.length cc3])) (w4.setCell ⟨w1.heap.size, 3, none⟩ (.slice a3 y3.1.length cc3)) := Whole.row S_Table rfl rowT
  have hst := store_run (P := Tryz.prog) (cs := [.int .i64 y0.1, .string (strB y1.1), .slice a2 y2.1.length cc2, .slice a3 y3.1.length cc3]) S_Table rowR rfl rfl rfl
  have rowF := rowR.setRow [.int .i64 y0.1, .string (strB y1.1), .slice a2 y2.1.length cc2, .slice a3 y3.1.length cc3]
  have kS := (Keep.refl (· = w.heap.size) (w4.setCell ⟨w1.heap.size, 3, none⟩ (.slice a3 y3.1.length cc3))).setRow (fun _ => rfl) (#[.int .i64 y0.1, .string (strB y1.1), .slice a2 y2.1.length cc2, .slice a3 y3.1.length cc3] : Array Value)
  have HE : Hid (pGTable s = (⟨y0.1, y1.1, y2.1, y3.1⟩, y3.2)) := by show _ = _; simp only [pGTable, hy0.out, hy1.out, hy2.out, hy3.out]
  go_wp2_with fail
  refine bodyPost_ret (results_cell_row (by rfl) _ _ _ _ _ _ _ (by rfl) rowF Tryz.underlying39 (by rfl) S_Table.info) rfl ?_
  rw [HE.out]
  replace q2 := (rList_lawful rGColumn_lawful).mono ((rList_lawful rGColumn_lawful).keep q2 kS (fun b hb e => by have := hb.1; omega)) (fun b hb => (⟨by have := hb.1; omega, Nat.lt_of_lt_of_le hb.2.1 kS.size⟩ : NewIn w ((w4.setCell ⟨w1.heap.size, 3, none⟩ (.slice a3 y3.1.length cc3)).setRow w.heap.size #[.int .i64 y0.1, .string (strB y1.1), .slice a2 y2.1.length cc2, .slice a3 y3.1.length cc3]) b))
  replace q3 := (rList_lawful (rInt_lawful _)).mono ((rList_lawful (rInt_lawful _)).keep q3 kS (fun b hb e => by have := hb.1; omega)) (fun b hb => (⟨by have := hb.1; omega, Nat.lt_of_lt_of_le hb.2.1 kS.size⟩ : NewIn w ((w4.setCell ⟨w1.heap.size, 3, none⟩ (.slice a3 y3.1.length cc3)).setRow w.heap.size #[.int .i64 y0.1, .string (strB y1.1), .slice a2 y2.1.length cc2, .slice a3 y3.1.length cc3]) b))
  exact ⟨[.int .i64 y0.1, .string (strB y1.1), .slice a2 y2.1.length cc2, .slice a3 y3.1.length cc3], rfl, ⟨[.int .i64 y0.1], [.string (strB y1.1)], [.slice a2 y2.1.length cc2], [.slice a3 y3.1.length cc3], rfl, ⟨rfl, wf0.out⟩, ⟨rfl, wf1.out⟩, q2, q3⟩, rfl, hr.keep kS (by omega) (fun b hb e => by have := hpl b hb; omega), kk.then kS (fun i hi e => by omega)⟩
end
section
attribute [local go_sem ↓] ls_Table
set_option maxRecDepth 100000 in
set_option maxHeartbeats 4000000 in
theorem ilTable_c (x : Nat) (p : Nat → Prop) (s : RdS) (w : World) (h : IsIn w x p s) (hpl : ∀ b, p b → b < w.heap.size) :
    Calls Tryz.prog 122 #[.pointer (some ⟨x, 0, none⟩)] w (GotV (rList rGTable) x p w (pList pGTable s)) := by
  have hlt := h.lt
  have hle := numS_le 5000 s
  go_enter Tryz.func122, Tryz.ntmps122
  go_wp2_with fail
  go_fit (imany_g x p s w h)
  rintro e w1 ⟨rfl, h1, k1⟩
  have HP : Hid (pList pGTable s = pMany pGTable (numS 5000 s).1 (numS 5000 s).2) := rfl
  clear h
  generalize numS 5000 s = N at h1 HP hle ⊢
  have hsz0 := k1.size
  go_wp2_with fail
  go_loopw [3, 5] (fun l i wr => ∃ (xs : List GTable) (css : List (List Value)) (s' : RdS) (a : Option Addr) (cap : Nat), l = .slice a xs.length cap ∧ i = .int .i64 xs.length ∧ xs.length ≤ N.1 ∧ Hid (pMany pGTable N.1 N.2 = (xs ++ (pMany pGTable (N.1 - xs.length) s').1, (pMany pGTable (N.1 - xs.length) s').2)) ∧
      wr.ownsRow w.heap.size 39 4 (.slice a xs.length cap) xs.length css.flatten ∧ Els rGTable wr (fun b => NewIn w wr b ∧ ¬ OwnB (.slice a xs.length cap) b) css xs ∧ IsIn wr x p s' ∧ Keep (· = x) w wr) (fun _ i _ => N.1 - (intOf i).toNat)
  case atStart => exact ⟨[], [], N.2, none, 0, rfl, rfl, Nat.zero_le _, rfl, World.ownsRow_nil _ _ _ _, Els.nil _ _ _, h1, k1⟩
  case round =>
    clear h1 k1 hsz0
    obtain ⟨xs, css, s', a, cap, rfl, rfl, hk, hp, own, els, hr, kk⟩ := hrel
    have hwr := kk.size
    have hfar : xs.length ≤ far := by unfold far; omega
    by_cases hlt2 : xs.length < N.1
    · have hdec : decide (xs.length < N.1) = true := decide_eq_true hlt2
      go_wp2_with fail
      go_fit (fault_c x p s' wr hr)
      rintro e w2 ⟨rfl, rfl⟩
      rcases test_eq s'.e 0 with ⟨ht, he⟩ | ⟨ht, he⟩
      · have t' : (s'.e != 0) = false := by simp [he.out]
        go_wp2_with fail
        go_fit (iTable_c x p s' wr hr (fun b hb => Nat.lt_of_lt_of_le (hpl b hb) hwr))
        rintro e w3 ⟨c, rfl, hc, h1c, hr3, k3⟩
        have hlc := rGTable_lawful.len hc
        have hls := list_run (P := Tryz.prog) T_lTable (by decide) c hlc w3
        have own3 := owned_keep own k3 (fun b hb e => by have := (own.lt b hb).1; omega)
        have kk3 := kk.trans k3
        have hsz3 := k3.size
        have hol : ∀ b, OwnB (.slice a xs.length cap) b → b < wr.heap.size := fun b hb => (own.lt b hb).2
        have hHP : Hid (pMany pGTable (N.1 - xs.length) s' = ((pGTable s').1 :: (pMany pGTable (N.1 - (xs.length + 1)) (pGTable s').2).1, (pMany pGTable (N.1 - (xs.length + 1)) (pGTable s').2).2)) := by
          show _ = _
          rw [show N.1 - xs.length = (N.1 - (xs.length + 1)) + 1 by omega, pMany, if_pos he.out]
        clear own hr hdec
        go_wp2_with (at_builtin; refine wpl_append1_at T_lTable rfl (.tmp 18) (.tmp 21) rfl w.heap.size rfl own3 rfl ?c0 ?c1 ?c2 ?c3 ?c4 ?_)
        case c0 => simpa using hlc
        case c1 => first | (simpa [ones] using h1c) | (intro u hu; exact (List.all_eq_true.1 h1c) u (by simpa using hu))
        case c2 => unfold maxLen; omega
        case c3 => omega
        case c4 => omega
        intro a' cap' w4 own4 k4 hfresh
        have els4 := els.push rGTable_lawful hc k3 k4 hlt hwr hol hfresh
        have hr4 : IsIn w4 x p (pGTable s').2 := hr3.keep k4 (fun hb => by have := (own3.lt _ hb).1; omega) (fun b hb hb2 => by have := (own3.lt _ hb2).1; have := hpl b hb; omega)
        have kk4 : Keep (· = x) w w4 := kk3.then k4 (fun i hi hb => by have := (own3.lt _ hb).1; omega)
        clear own3 els hr3 kk3 k3 k4 hfresh
        go_wp2
        go_roundw
        case rel => exact ⟨xs ++ [(pGTable s').1], css ++ [c], (pGTable s').2, a', cap', by simp, by rw [List.length_append]; go_num, by simp; omega, by show _ = _; rw [hp.out, hHP.out]; simp, by simpa using own4, by simpa using els4, hr4, kk4⟩
        case measure => simp [intOf]; omega
      · have t' : (s'.e != 0) = true := by simp [he]
        go_wp2_with fail
        go_ret
        have hHP : pMany pGTable (N.1 - xs.length) s' = ([], s') := by
          rw [show N.1 - xs.length = (N.1 - (xs.length + 1)) + 1 by omega, pMany, if_neg he]
        refine ⟨_, rfl, ?_, ?_, kk⟩
        · rw [HP.out, hp.out, hHP]; exact Els.list (Nat.le_refl _) own els rGTable_lawful (by simp) hfar
        · rw [HP.out, hp.out, hHP]; exact hr
    · have hdec : decide (xs.length < N.1) = false := decide_eq_false hlt2
      have hz : N.1 - xs.length = 0 := by omega
      have HZ := Lib.hid hz
      clear hz
      go_wp2_with fail
      go_ret
      refine ⟨_, rfl, ?_, ?_, kk⟩
      · rw [HP.out, hp.out, HZ.out]; exact Els.list (Nat.le_refl _) own els rGTable_lawful (by simp [pMany]) hfar
      · rw [HP.out, hp.out, HZ.out]; exact hr
end
theorem ld_Index (a : Act) (dst : Option Tmp) (x : Operand) (ty : TypeId) (pos : String) (after : Array Edge) (guard : Option (Nat × Bool)) : execOp a.eval { dst := dst, op := .load 41 x, type := ty, pos := pos, after := after, guard := guard } = wholeSem 41 (a.eval x) := rfl
section
attribute [local go_sem ↓] ld_Index st_Index
set_option maxRecDepth 100000 in
set_option maxHeartbeats 8000000 in
theorem iIndex_c (x : Nat) (p : Nat → Prop) (s : RdS) (w : World) (h : IsIn w x p s) (hpl : ∀ b, p b → b < w.heap.size) :
    Calls Tryz.prog 45 #[.pointer (some ⟨x, 0, none⟩)] w (GotS rGIndex x p w (pGIndex s)) := by
  have hlt := h.lt
  have rowR : RowIs (w.alloc (.cells #[.int .i64 0, .int .i64 0, .string { data := #[] }, .slice none 0 0, .bool false, .int .i64 0, .bool false] 41)) w.heap.size 41 [.int .i64 0, .int .i64 0, .string { data := #[] }, .slice none 0 0, .bool false, .int .i64 0, .bool false] := RowIs.alloc w _ _
  have hr := h.nix ((Keep.refl Nix w).alloc (.cells #[.int .i64 0, .int .i64 0, .string { data := #[] }, .slice none 0 0, .bool false, .int .i64 0, .bool false] 41))
  have kk : Keep (· = x) w (w.alloc (.cells #[.int .i64 0, .int .i64 0, .string { data := #[] }, .slice none 0 0, .bool false, .int .i64 0, .bool false] 41)) := (Keep.refl (· = x) w).alloc _
  clear h
  go_enter Tryz.func45, Tryz.ntmps45
  go_wp2_with fail
  go_fit (iint_g x p _ _ hr)
  rintro e w1 ⟨rfl, hr', k0⟩
  have wf0 : Hid ((Lit.int .i64 (pInt s).1).wf = true) := zag_wf (numS_lt maxU _)
  generalize hy0 : pInt s = y0 at hr' wf0 ⊢
  replace hy0 := Lib.hid hy0
  have rRl := rowR.lt
  have ks0 := k0.size
  replace rowR := rowR.keep k0 (by omega)
  have rRl1 := rowR.lt
  have hst0 := store_run (P := Tryz.prog) (cs := [.int .i64 y0.1, .int .i64 0, .string { data := #[] }, .slice none 0 0, .bool false, .int .i64 0, .bool false]) S_Index (RowIs.alloc w1 #[.int .i64 0, .int .i64 0, .string { data := #[] }, .slice none 0 0, .bool false, .int .i64 0, .bool false] 41) rfl rfl rfl
  have rowT := (RowIs.alloc w1 #[.int .i64 0, .int .i64 0, .string { data := #[] }, .slice none 0 0, .bool false, .int .i64 0, .bool false] 41).setRow [.int .i64 y0.1, .int .i64 0, .string { data := #[] }, .slice none 0 0, .bool false, .int .i64 0, .bool false]
  have kT := ((Keep.refl (· = w1.heap.size) w1).alloc (.cells #[.int .i64 0, .int .i64 0, .string { data := #[] }, .slice none 0 0, .bool false, .int .i64 0, .bool false] 41)).setRow (fun _ => rfl) (#[.int .i64 y0.1, .int .i64 0, .string { data := #[] }, .slice none 0 0, .bool false, .int .i64 0, .bool false] : Array Value)
  replace rowR := rowR.keep kT (by omega)
  have hr1 := hr'.lt
  have hxT : x < w1.heap.size := hr1
  replace hr := hr'.keep kT (by omega) (fun b hb e => by have := hpl b hb; omega)
  replace kk := (kk.trans k0).then kT (fun i hi e => by omega)
  clear hr' k0 kT hr1
  go_wp2_with fail
  clear hst0
  go_fit (iint_g x p _ _ hr)
  rintro e w2 ⟨rfl, hr', k1⟩
  have wf1 : Hid ((Lit.int .i64 (pInt y0.2).1).wf = true) := zag_wf (numS_lt maxU _)
  generalize hy1 : pInt y0.2 = y1 at hr' wf1 ⊢
  replace hy1 := Lib.hid hy1
  have rTl := rowT.lt
  replace rowT := rowT.keep k1 (by omega)
  replace rowR := rowR.keep k1 (by omega)
  have xc0 : w2.cell? ⟨w1.heap.size, 1, none⟩ = some (.int .i64 0) := rowT.cell 1
  have xf0 : w2.frozen? ⟨w1.heap.size, 1, none⟩ = false := rowT.frozen 1
  replace rowT := rowT.set 1 (.int .i64 y1.1)
  replace rowT : RowIs (w2.setCell ⟨w1.heap.size, 1, none⟩ (.int .i64 y1.1)) w1.heap.size 41 [.int .i64 y0.1, .int .i64 y1.1, .string { data := #[] }, .slice none 0 0, .bool false, .int .i64 0, .bool false] := rowT
  have kT := (Keep.refl (· = w1.heap.size) w2).setCell (p := ⟨w1.heap.size, 1, none⟩) (fun _ => rfl) (.int .i64 y1.1)
  replace rowR := rowR.keep kT (by omega)
  replace hr := hr'.keep kT (by omega) (fun b hb e => by have := hpl b hb; omega)
  replace kk := (kk.trans k1).then kT (fun i hi e => by omega)
  clear hr' k1 kT rTl
  go_wp2_with fail
  clear xc0 xf0
  go_fit (itext_g x p _ _ hr)
  rintro e w3 ⟨rfl, hr', k2⟩
  have wf2 : Hid ((pBytes y1.2).1.length ≤ far) := Nat.le_trans (textS_len 65536 _) (by decide)
  generalize hy2 : pBytes y1.2 = y2 at hr' wf2 ⊢
  replace hy2 := Lib.hid hy2
  have rTl := rowT.lt
  replace rowT := rowT.keep k2 (by omega)
  replace rowR := rowR.keep k2 (by omega)
  have xc0 : w3.cell? ⟨w1.heap.size, 2, none⟩ = some (.string { data := #[] }) := rowT.cell 2
  have xf0 : w3.frozen? ⟨w1.heap.size, 2, none⟩ = false := rowT.frozen 2
  replace rowT := rowT.set 2 (.string (strB y2.1))
  replace rowT : RowIs (w3.setCell ⟨w1.heap.size, 2, none⟩ (.string (strB y2.1))) w1.heap.size 41 [.int .i64 y0.1, .int .i64 y1.1, .string (strB y2.1), .slice none 0 0, .bool false, .int .i64 0, .bool false] := rowT
  have kT := (Keep.refl (· = w1.heap.size) w3).setCell (p := ⟨w1.heap.size, 2, none⟩) (fun _ => rfl) (.string (strB y2.1))
  replace rowR := rowR.keep kT (by omega)
  replace hr := hr'.keep kT (by omega) (fun b hb e => by have := hpl b hb; omega)
  replace kk := (kk.trans k2).then kT (fun i hi e => by omega)
  clear hr' k2 kT rTl
  go_wp2_with fail
  clear xc0 xf0
  go_fit (ilint_c x p _ _ hr (fun b hb => Nat.lt_of_lt_of_le (hpl b hb) kk.size))
  rintro e w4 ⟨v, rfl, q3, hr', k3⟩
  generalize hy3 : (pList pInt) y2.2 = y3 at hr' q3
  replace hy3 := Lib.hid hy3
  obtain ⟨a3, cc3, hv, q3'⟩ := rList_open q3
  simp only [List.cons.injEq, and_true] at hv
  subst hv
  clear q3
  have q3 := q3'
  clear q3'
  have rTl := rowT.lt
  replace rowT := rowT.keep k3 (by omega)
  replace rowR := rowR.keep k3 (by omega)
  replace q3 := (rList_lawful (rInt_lawful _)).mono q3 (fun b hb => (⟨by have := hb.1; omega, hb.2, by have := hb.1; omega⟩ : NewBut (w.heap.size + 1) w1.heap.size w4 b))
  have xc0 : w4.cell? ⟨w1.heap.size, 3, none⟩ = some (.slice none 0 0) := rowT.cell 3
  have xf0 : w4.frozen? ⟨w1.heap.size, 3, none⟩ = false := rowT.frozen 3
  replace rowT := rowT.set 3 (.slice a3 y3.1.length cc3)
  replace rowT : RowIs (w4.setCell ⟨w1.heap.size, 3, none⟩ (.slice a3 y3.1.length cc3)) w1.heap.size 41 [.int .i64 y0.1, .int .i64 y1.1, .string (strB y2.1), .slice a3 y3.1.length cc3, .bool false, .int .i64 0, .bool false] := rowT
  have kT := (Keep.refl (· = w1.heap.size) w4).setCell (p := ⟨w1.heap.size, 3, none⟩) (fun _ => rfl) (.slice a3 y3.1.length cc3)
  replace rowR := rowR.keep kT (by omega)
  replace hr := hr'.keep kT (by omega) (fun b hb e => by have := hpl b hb; omega)
  replace kk := (kk.trans k3).then kT (fun i hi e => by omega)
  replace q3 := (rList_lawful (rInt_lawful _)).mono ((rList_lawful (rInt_lawful _)).keep q3 kT (fun b hb e => hb.2.2 e)) (fun b hb => (⟨hb.1, Nat.lt_of_lt_of_le hb.2.1 kT.size, hb.2.2⟩ : NewBut (w.heap.size + 1) w1.heap.size (w4.setCell ⟨w1.heap.size, 3, none⟩ (.slice a3 y3.1.length cc3)) b))
  clear hr' k3 kT rTl
  go_wp2_with fail
  clear xc0 xf0
  go_fit (ibool_g x p _ _ hr)
  rintro e w5 ⟨rfl, hr', k4⟩
  generalize hy4 : pFlag y3.2 = y4 at hr' ⊢
  replace hy4 := Lib.hid hy4
  have rTl := rowT.lt
  replace rowT := rowT.keep k4 (by omega)
  replace rowR := rowR.keep k4 (by omega)
  replace q3 := (rList_lawful (rInt_lawful _)).mono ((rList_lawful (rInt_lawful _)).keep q3 k4 (fun b hb e => by have := hb.1; omega)) (fun b hb => (⟨hb.1, Nat.lt_of_lt_of_le hb.2.1 k4.size, hb.2.2⟩ : NewBut (w.heap.size + 1) w1.heap.size w5 b))
  have xc0 : w5.cell? ⟨w1.heap.size, 4, none⟩ = some (.bool false) := rowT.cell 4
  have xf0 : w5.frozen? ⟨w1.heap.size, 4, none⟩ = false := rowT.frozen 4
  replace rowT := rowT.set 4 (.bool y4.1)
  replace rowT : RowIs (w5.setCell ⟨w1.heap.size, 4, none⟩ (.bool y4.1)) w1.heap.size 41 [.int .i64 y0.1, .int .i64 y1.1, .string (strB y2.1), .slice a3 y3.1.length cc3, .bool y4.1, .int .i64 0, .bool false] := rowT
  have kT := (Keep.refl (· = w1.heap.size) w5).setCell (p := ⟨w1.heap.size, 4, none⟩) (fun _ => rfl) (.bool y4.1)
  replace rowR := rowR.keep kT (by omega)
  replace hr := hr'.keep kT (by omega) (fun b hb e => by have := hpl b hb; omega)
  replace kk := (kk.trans k4).then kT (fun i hi e => by omega)
  replace q3 := (rList_lawful (rInt_lawful _)).mono ((rList_lawful (rInt_lawful _)).keep q3 kT (fun b hb e => hb.2.2 e)) (fun b hb => (⟨hb.1, Nat.lt_of_lt_of_le hb.2.1 kT.size, hb.2.2⟩ : NewBut (w.heap.size + 1) w1.heap.size (w5.setCell ⟨w1.heap.size, 4, none⟩ (.bool y4.1)) b))
  clear hr' k4 kT rTl
  go_wp2_with fail
  clear xc0 xf0
  go_fit (iint_g x p _ _ hr)
  rintro e w6 ⟨rfl, hr', k5⟩
  have wf5 : Hid ((Lit.int .i64 (pInt y4.2).1).wf = true) := zag_wf (numS_lt maxU _)
  generalize hy5 : pInt y4.2 = y5 at hr' wf5 ⊢
  replace hy5 := Lib.hid hy5
  have rTl := rowT.lt
  replace rowT := rowT.keep k5 (by omega)
  replace rowR := rowR.keep k5 (by omega)
  replace q3 := (rList_lawful (rInt_lawful _)).mono ((rList_lawful (rInt_lawful _)).keep q3 k5 (fun b hb e => by have := hb.1; omega)) (fun b hb => (⟨hb.1, Nat.lt_of_lt_of_le hb.2.1 k5.size, hb.2.2⟩ : NewBut (w.heap.size + 1) w1.heap.size w6 b))
  have xc0 : w6.cell? ⟨w1.heap.size, 5, none⟩ = some (.int .i64 0) := rowT.cell 5
  have xf0 : w6.frozen? ⟨w1.heap.size, 5, none⟩ = false := rowT.frozen 5
  replace rowT := rowT.set 5 (.int .i64 y5.1)
  replace rowT : RowIs (w6.setCell ⟨w1.heap.size, 5, none⟩ (.int .i64 y5.1)) w1.heap.size 41 [.int .i64 y0.1, .int .i64 y1.1, .string (strB y2.1), .slice a3 y3.1.length cc3, .bool y4.1, .int .i64 y5.1, .bool false] := rowT
  have kT := (Keep.refl (· = w1.heap.size) w6).setCell (p := ⟨w1.heap.size, 5, none⟩) (fun _ => rfl) (.int .i64 y5.1)
  replace rowR := rowR.keep kT (by omega)
  replace hr := hr'.keep kT (by omega) (fun b hb e => by have := hpl b hb; omega)
  replace kk := (kk.trans k5).then kT (fun i hi e => by omega)
  replace q3 := (rList_lawful (rInt_lawful _)).mono ((rList_lawful (rInt_lawful _)).keep q3 kT (fun b hb e => hb.2.2 e)) (fun b hb => (⟨hb.1, Nat.lt_of_lt_of_le hb.2.1 kT.size, hb.2.2⟩ : NewBut (w.heap.size + 1) w1.heap.size (w6.setCell ⟨w1.heap.size, 5, none⟩ (.int .i64 y5.1)) b))
  clear hr' k5 kT rTl
  go_wp2_with fail
  clear xc0 xf0
  go_fit (ibool_g x p _ _ hr)
  rintro e w7 ⟨rfl, hr', k6⟩
  generalize hy6 : pFlag y5.2 = y6 at hr' ⊢
  replace hy6 := Lib.hid hy6
  have rTl := rowT.lt
  replace rowT := rowT.keep k6 (by omega)
  replace rowR := rowR.keep k6 (by omega)
  replace q3 := (rList_lawful (rInt_lawful _)).mono ((rList_lawful (rInt_lawful _)).keep q3 k6 (fun b hb e => by have := hb.1; omega)) (fun b hb => (⟨hb.1, Nat.lt_of_lt_of_le hb.2.1 k6.size, hb.2.2⟩ : NewBut (w.heap.size + 1) w1.heap.size w7 b))
  have xc0 : w7.cell? ⟨w1.heap.size, 6, none⟩ = some (.bool false) := rowT.cell 6
  have xf0 : w7.frozen? ⟨w1.heap.size, 6, none⟩ = false := rowT.frozen 6
  replace rowT := rowT.set 6 (.bool y6.1)
  replace rowT : RowIs (w7.setCell ⟨w1.heap.size, 6, none⟩ (.bool y6.1)) w1.heap.size 41 [.int .i64 y0.1, .int .i64 y1.1, .string (strB y2.1), .slice a3 y3.1.length cc3, .bool y4.1, .int .i64 y5.1, .bool y6.1] := rowT
  have kT := (Keep.refl (· = w1.heap.size) w7).setCell (p := ⟨w1.heap.size, 6, none⟩) (fun _ => rfl) (.bool y6.1)
  replace rowR := rowR.keep kT (by omega)
  replace hr := hr'.keep kT (by omega) (fun b hb e => by have := hpl b hb; omega)
  replace kk := (kk.trans k6).then kT (fun i hi e => by omega)
  replace q3 := (rList_lawful (rInt_lawful _)).mono ((rList_lawful (rInt_lawful _)).keep q3 kT (fun b hb e => hb.2.2 e)) (fun b hb => (⟨hb.1, Nat.lt_of_lt_of_le hb.2.1 kT.size, hb.2.2⟩ : NewBut (w.heap.size + 1) w1.heap.size (w7.setCell ⟨w1.heap.size, 6, none⟩ (.bool y6.1)) b))
  clear hr' k6 kT rTl
  replace rowT : RowIs (w7.setCell ⟨w1.heap.size, 6, none⟩ (.bool y6.1)) w1.heap.size 41 [.int .i64 y0.1, .int .i64 y1.1, .string (strB y2.1), .slice a3 y3.1.length cc3, .bool y4.1, .int .i64 y5.1, .bool y6.1] := rowT
  have hld : (wholeSem 41 (.pointer (some ⟨w1.heap.size, 0, none⟩))).run Tryz.prog (w7.setCell ⟨w1.heap.size, 6, none⟩ (.bool y6.1)) = .ok (.value (.agg #[.int .i64 y0.1, .int .i64 y1.1, .string (strB y2.1), .slice a3 y3.1.length cc3, .bool y4.1, .int .i64 y5.1, .bool y6.1])) (w7.setCell ⟨w1.heap.size, 6, none⟩ (.bool y6.1)) := Whole.row S_Index rfl rowT
  have hst := store_run (P := Tryz.prog) (cs := [.int .i64 y0.1, .int .i64 y1.1, .string (strB y2.1), .slice a3 y3.1.length cc3, .bool y4.1, .int .i64 y5.1, .bool y6.1]) S_Index rowR rfl rfl rfl
  have rowF := rowR.setRow [.int .i64 y0.1, .int .i64 y1.1, .string (strB y2.1), .slice a3 y3.1.length cc3, .bool y4.1, .int .i64 y5.1, .bool y6.1]
  have kS := (Keep.refl (· = w.heap.size) (w7.setCell ⟨w1.heap.size, 6, none⟩ (.bool y6.1))).setRow (fun _ => rfl) (#[.int .i64 y0.1, .int .i64 y1.1, .string (strB y2.1), .slice a3 y3.1.length cc3, .bool y4.1, .int .i64 y5.1, .bool y6.1] : Array Value)
  have HE : Hid (pGIndex s = (⟨y0.1, y1.1, y2.1, y3.1, y4.1, y5.1, y6.1⟩, y6.2)) := by show _ = _; simp only [pGIndex, hy0.out, hy1.out, hy2.out, hy3.out, hy4.out, hy5.out, hy6.out]
  go_wp2_with fail
  refine bodyPost_ret (results_cell_row (by rfl) _ _ _ _ _ _ _ (by rfl) rowF Tryz.underlying41 (by rfl) S_Index.info) rfl ?_
  rw [HE.out]
  replace q3 := (rList_lawful (rInt_lawful _)).mono ((rList_lawful (rInt_lawful _)).keep q3 kS (fun b hb e => by have := hb.1; omega)) (fun b hb => (⟨by have := hb.1; omega, Nat.lt_of_lt_of_le hb.2.1 kS.size⟩ : NewIn w ((w7.setCell ⟨w1.heap.size, 6, none⟩ (.bool y6.1)).setRow w.heap.size #[.int .i64 y0.1, .int .i64 y1.1, .string (strB y2.1), .slice a3 y3.1.length cc3, .bool y4.1, .int .i64 y5.1, .bool y6.1]) b))
  exact ⟨[.int .i64 y0.1, .int .i64 y1.1, .string (strB y2.1), .slice a3 y3.1.length cc3, .bool y4.1, .int .i64 y5.1, .bool y6.1], rfl, ⟨[.int .i64 y0.1], [.int .i64 y1.1], [.string (strB y2.1)], [.slice a3 y3.1.length cc3], [.bool y4.1], [.int .i64 y5.1], [.bool y6.1], rfl, ⟨rfl, wf0.out⟩, ⟨rfl, wf1.out⟩, ⟨rfl, wf2.out⟩, q3, rfl, ⟨rfl, wf5.out⟩, rfl⟩, rfl, hr.keep kS (by omega) (fun b hb e => by have := hpl b hb; omega), kk.then kS (fun i hi e => by omega)⟩
end
section
attribute [local go_sem ↓] ls_Index
set_option maxRecDepth 100000 in
set_option maxHeartbeats 4000000 in
theorem ilIndex_c (x : Nat) (p : Nat → Prop) (s : RdS) (w : World) (h : IsIn w x p s) (hpl : ∀ b, p b → b < w.heap.size) :
    Calls Tryz.prog 123 #[.pointer (some ⟨x, 0, none⟩)] w (GotV (rList rGIndex) x p w (pList pGIndex s)) := by
  have hlt := h.lt
  have hle := numS_le 5000 s
  go_enter Tryz.func123, Tryz.ntmps123
  go_wp2_with fail
  go_fit (imany_g x p s w h)
  rintro e w1 ⟨rfl, h1, k1⟩
  have HP : Hid (pList pGIndex s = pMany pGIndex (numS 5000 s).1 (numS 5000 s).2) := rfl
  clear h
  generalize numS 5000 s = N at h1 HP hle ⊢
  have hsz0 := k1.size
  go_wp2_with fail
  go_loopw [3, 5] (fun l i wr => ∃ (xs : List GIndex) (css : List (List Value)) (s' : RdS) (a : Option Addr) (cap : Nat), l = .slice a xs.length cap ∧ i = .int .i64 xs.length ∧ xs.length ≤ N.1 ∧ Hid (pMany pGIndex N.1 N.2 = (xs ++ (pMany pGIndex (N.1 - xs.length) s').1, (pMany pGIndex (N.1 - xs.length) s').2)) ∧
      wr.ownsRow w.heap.size 41 7 (.slice a xs.length cap) xs.length css.flatten ∧ Els rGIndex wr (fun b => NewIn w wr b ∧ ¬ OwnB (.slice a xs.length cap) b) css xs ∧ IsIn wr x p s' ∧ Keep (· = x) w wr) (fun _ i _ => N.1 - (intOf i).toNat)
  case atStart => exact ⟨[], [], N.2, none, 0, rfl, rfl, Nat.zero_le _, rfl, World.ownsRow_nil _ _ _ _, Els.nil _ _ _, h1, k1⟩
  case round =>
    clear h1 k1 hsz0
    obtain ⟨xs, css, s', a, cap, rfl, rfl, hk, hp, own, els, hr, kk⟩ := hrel
    have hwr := kk.size
    have hfar : xs.length ≤ far := by unfold far; omega
    by_cases hlt2 : xs.length < N.1
    · have hdec : decide (xs.length < N.1) = true := decide_eq_true hlt2
      go_wp2_with fail
      go_fit (fault_c x p s' wr hr)
      rintro e w2 ⟨rfl, rfl⟩
      rcases test_eq s'.e 0 with ⟨ht, he⟩ | ⟨ht, he⟩
      · have t' : (s'.e != 0) = false := by simp [he.out]
        go_wp2_with fail
        go_fit (iIndex_c x p s' wr hr (fun b hb => Nat.lt_of_lt_of_le (hpl b hb) hwr))
        rintro e w3 ⟨c, rfl, hc, h1c, hr3, k3⟩
        have hlc := rGIndex_lawful.len hc
        have hls := list_run (P := Tryz.prog) T_lIndex (by decide) c hlc w3
        have own3 := owned_keep own k3 (fun b hb e => by have := (own.lt b hb).1; omega)
        have kk3 := kk.trans k3
        have hsz3 := k3.size
        have hol : ∀ b, OwnB (.slice a xs.length cap) b → b < wr.heap.size := fun b hb => (own.lt b hb).2
        have hHP : Hid (pMany pGIndex (N.1 - xs.length) s' = ((pGIndex s').1 :: (pMany pGIndex (N.1 - (xs.length + 1)) (pGIndex s').2).1, (pMany pGIndex (N.1 - (xs.length + 1)) (pGIndex s').2).2)) := by
          show _ = _
          rw [show N.1 - xs.length = (N.1 - (xs.length + 1)) + 1 by omega, pMany, if_pos he.out]
        clear own hr hdec
        go_wp2_with (at_builtin; refine wpl_append1_at T_lIndex rfl (.tmp 18) (.tmp 21) rfl w.heap.size rfl own3 rfl ?c0 ?c1 ?c2 ?c3 ?c4 ?_)
        case c0 => simpa using hlc
        case c1 => first | (simpa [ones] using h1c) | (intro u hu; exact (List.all_eq_true.1 h1c) u (by simpa using hu))
        case c2 => unfold maxLen; omega
        case c3 => omega
        case c4 => omega
        intro a' cap' w4 own4 k4 hfresh
        have els4 := els.push rGIndex_lawful hc k3 k4 hlt hwr hol hfresh
        have hr4 : IsIn w4 x p (pGIndex s').2 := hr3.keep k4 (fun hb => by have := (own3.lt _ hb).1; omega) (fun b hb hb2 => by have := (own3.lt _ hb2).1; have := hpl b hb; omega)
        have kk4 : Keep (· = x) w w4 := kk3.then k4 (fun i hi hb => by have := (own3.lt _ hb).1; omega)
        clear own3 els hr3 kk3 k3 k4 hfresh
        go_wp2
        go_roundw
        case rel => exact ⟨xs ++ [(pGIndex s').1], css ++ [c], (pGIndex s').2, a', cap', by simp, by rw [List.length_append]; go_num, by simp; omega, by show _ = _; rw [hp.out, hHP.out]; simp, by simpa using own4, by simpa using els4, hr4, kk4⟩
        case measure => simp [intOf]; omega
      · have t' : (s'.e != 0) = true := by simp [he]
        go_wp2_with fail
        go_ret
        have hHP : pMany pGIndex (N.1 - xs.length) s' = ([], s') := by
          rw [show N.1 - xs.length = (N.1 - (xs.length + 1)) + 1 by omega, pMany, if_neg he]
        refine ⟨_, rfl, ?_, ?_, kk⟩
        · rw [HP.out, hp.out, hHP]; exact Els.list (Nat.le_refl _) own els rGIndex_lawful (by simp) hfar
        · rw [HP.out, hp.out, hHP]; exact hr
    · have hdec : decide (xs.length < N.1) = false := decide_eq_false hlt2
      have hz : N.1 - xs.length = 0 := by omega
      have HZ := Lib.hid hz
      clear hz
      go_wp2_with fail
      go_ret
      refine ⟨_, rfl, ?_, ?_, kk⟩
      · rw [HP.out, hp.out, HZ.out]; exact Els.list (Nat.le_refl _) own els rGIndex_lawful (by simp [pMany]) hfar
      · rw [HP.out, hp.out, HZ.out]; exact hr
end
theorem ld_Catalog (a : Act) (dst : Option Tmp) (x : Operand) (ty : TypeId) (pos : String) (after : Array Edge) (guard : Option (Nat × Bool)) : execOp a.eval { dst := dst, op := .load 50 x, type := ty, pos := pos, after := after, guard := guard } = wholeSem 50 (a.eval x) := rfl
section
attribute [local go_sem ↓] ld_Catalog st_Catalog
set_option maxRecDepth 100000 in
set_option maxHeartbeats 8000000 in
theorem iCatalog_c (x : Nat) (p : Nat → Prop) (s : RdS) (w : World) (h : IsIn w x p s) (hpl : ∀ b, p b → b < w.heap.size) :
    Calls Tryz.prog 50 #[.pointer (some ⟨x, 0, none⟩)] w (GotS rGCatalog x p w (pGCatalog s)) := by
  have hlt := h.lt
  have rowR : RowIs (w.alloc (.cells #[.int .i64 0, .int .i64 0, .slice none 0 0, .slice none 0 0] 50)) w.heap.size 50 [.int .i64 0, .int .i64 0, .slice none 0 0, .slice none 0 0] := RowIs.alloc w _ _
  have hr := h.nix ((Keep.refl Nix w).alloc (.cells #[.int .i64 0, .int .i64 0, .slice none 0 0, .slice none 0 0] 50))
  have kk : Keep (· = x) w (w.alloc (.cells #[.int .i64 0, .int .i64 0, .slice none 0 0, .slice none 0 0] 50)) := (Keep.refl (· = x) w).alloc _
  clear h
  go_enter Tryz.func50, Tryz.ntmps50
  go_wp2_with fail
  go_fit (iint_g x p _ _ hr)
  rintro e w1 ⟨rfl, hr', k0⟩
  have wf0 : Hid ((Lit.int .i64 (pInt s).1).wf = true) := zag_wf (numS_lt maxU _)
  generalize hy0 : pInt s = y0 at hr' wf0 ⊢
  replace hy0 := Lib.hid hy0
  have rRl := rowR.lt
  have ks0 := k0.size
  replace rowR := rowR.keep k0 (by omega)
  have rRl1 := rowR.lt
  have hst0 := store_run (P := Tryz.prog) (cs := [.int .i64 y0.1, .int .i64 0, .slice none 0 0, .slice none 0 0]) S_Catalog (RowIs.alloc w1 #[.int .i64 0, .int .i64 0, .slice none 0 0, .slice none 0 0] 50) rfl rfl rfl
  have rowT := (RowIs.alloc w1 #[.int .i64 0, .int .i64 0, .slice none 0 0, .slice none 0 0] 50).setRow [.int .i64 y0.1, .int .i64 0, .slice none 0 0, .slice none 0 0]
  have kT := ((Keep.refl (· = w1.heap.size) w1).alloc (.cells #[.int .i64 0, .int .i64 0, .slice none 0 0, .slice none 0 0] 50)).setRow (fun _ => rfl) (#[.int .i64 y0.1, .int .i64 0, .slice none 0 0, .slice none 0 0] : Array Value)
  replace rowR := rowR.keep kT (by omega)
  have hr1 := hr'.lt
  have hxT : x < w1.heap.size := hr1
  replace hr := hr'.keep kT (by omega) (fun b hb e => by have := hpl b hb; omega)
  replace kk := (kk.trans k0).then kT (fun i hi e => by omega)
  clear hr' k0 kT hr1
  go_wp2_with fail
  clear hst0
  go_fit (iint_g x p _ _ hr)
  rintro e w2 ⟨rfl, hr', k1⟩
  have wf1 : Hid ((Lit.int .i64 (pInt y0.2).1).wf = true) := zag_wf (numS_lt maxU _)
  generalize hy1 : pInt y0.2 = y1 at hr' wf1 ⊢
  replace hy1 := Lib.hid hy1
  have rTl := rowT.lt
  replace rowT := rowT.keep k1 (by omega)
  replace rowR := rowR.keep k1 (by omega)
  have xc0 : w2.cell? ⟨w1.heap.size, 1, none⟩ = some (.int .i64 0) := rowT.cell 1
  have xf0 : w2.frozen? ⟨w1.heap.size, 1, none⟩ = false := rowT.frozen 1
  replace rowT := rowT.set 1 (.int .i64 y1.1)
  replace rowT : RowIs (w2.setCell ⟨w1.heap.size, 1, none⟩ (.int .i64 y1.1)) w1.heap.size 50 [.int .i64 y0.1, .int .i64 y1.1, .slice none 0 0, .slice none 0 0] := rowT
  have kT := (Keep.refl (· = w1.heap.size) w2).setCell (p := ⟨w1.heap.size, 1, none⟩) (fun _ => rfl) (.int .i64 y1.1)
  replace rowR := rowR.keep kT (by omega)
  replace hr := hr'.keep kT (by omega) (fun b hb e => by have := hpl b hb; omega)
  replace kk := (kk.trans k1).then kT (fun i hi e => by omega)
  clear hr' k1 kT rTl
  go_wp2_with fail
  clear xc0 xf0
  go_fit (ilTable_c x p _ _ hr (fun b hb => Nat.lt_of_lt_of_le (hpl b hb) kk.size))
  rintro e w3 ⟨v, rfl, q2, hr', k2⟩
  generalize hy2 : (pList pGTable) y1.2 = y2 at hr' q2
  replace hy2 := Lib.hid hy2
  obtain ⟨a2, cc2, hv, q2'⟩ := rList_open q2
  simp only [List.cons.injEq, and_true] at hv
  subst hv
  clear q2
  have q2 := q2'
  clear q2'
  have rTl := rowT.lt
  replace rowT := rowT.keep k2 (by omega)
  replace rowR := rowR.keep k2 (by omega)
  replace q2 := (rList_lawful rGTable_lawful).mono q2 (fun b hb => (⟨by have := hb.1; omega, hb.2, by have := hb.1; omega⟩ : NewBut (w.heap.size + 1) w1.heap.size w3 b))
  have xc0 : w3.cell? ⟨w1.heap.size, 2, none⟩ = some (.slice none 0 0) := rowT.cell 2
  have xf0 : w3.frozen? ⟨w1.heap.size, 2, none⟩ = false := rowT.frozen 2
  replace rowT := rowT.set 2 (.slice a2 y2.1.length cc2)
  replace rowT : RowIs (w3.setCell ⟨w1.heap.size, 2, none⟩ (.slice a2 y2.1.length cc2)) w1.heap.size 50 [.int .i64 y0.1, .int .i64 y1.1, .slice a2 y2.1.length cc2, .slice none 0 0] := rowT
  have kT := (Keep.refl (· = w1.heap.size) w3).setCell (p := ⟨w1.heap.size, 2, none⟩) (fun _ => rfl) (.slice a2 y2.1.length cc2)
  replace rowR := rowR.keep kT (by omega)
  replace hr := hr'.keep kT (by omega) (fun b hb e => by have := hpl b hb; omega)
  replace kk := (kk.trans k2).then kT (fun i hi e => by omega)
  replace q2 := (rList_lawful rGTable_lawful).mono ((rList_lawful rGTable_lawful).keep q2 kT (fun b hb e => hb.2.2 e)) (fun b hb => (⟨hb.1, Nat.lt_of_lt_of_le hb.2.1 kT.size, hb.2.2⟩ : NewBut (w.heap.size + 1) w1.heap.size (w3.setCell ⟨w1.heap.size, 2, none⟩ (.slice a2 y2.1.length cc2)) b))
  clear hr' k2 kT rTl
  go_wp2_with fail
  clear xc0 xf0
  go_fit (ilIndex_c x p _ _ hr (fun b hb => Nat.lt_of_lt_of_le (hpl b hb) kk.size))
  rintro e w4 ⟨v, rfl, q3, hr', k3⟩
  generalize hy3 : (pList pGIndex) y2.2 = y3 at hr' q3
  replace hy3 := Lib.hid hy3
  obtain ⟨a3, cc3, hv, q3'⟩ := rList_open q3
  simp only [List.cons.injEq, and_true] at hv
  subst hv
  clear q3
  have q3 := q3'
  clear q3'
  have rTl := rowT.lt
  replace rowT := rowT.keep k3 (by omega)
  replace rowR := rowR.keep k3 (by omega)
  replace q2 := (rList_lawful rGTable_lawful).mono ((rList_lawful rGTable_lawful).keep q2 k3 (fun b hb e => by have := hb.1; omega)) (fun b hb => (⟨hb.1, Nat.lt_of_lt_of_le hb.2.1 k3.size, hb.2.2⟩ : NewBut (w.heap.size + 1) w1.heap.size w4 b))
  replace q3 := (rList_lawful rGIndex_lawful).mono q3 (fun b hb => (⟨by have := hb.1; omega, hb.2, by have := hb.1; omega⟩ : NewBut (w.heap.size + 1) w1.heap.size w4 b))
  have xc0 : w4.cell? ⟨w1.heap.size, 3, none⟩ = some (.slice none 0 0) := rowT.cell 3
  have xf0 : w4.frozen? ⟨w1.heap.size, 3, none⟩ = false := rowT.frozen 3
  replace rowT := rowT.set 3 (.slice a3 y3.1.length cc3)
  replace rowT : RowIs (w4.setCell ⟨w1.heap.size, 3, none⟩ (.slice a3 y3.1.length cc3)) w1.heap.size 50 [.int .i64 y0.1, .int .i64 y1.1, .slice a2 y2.1.length cc2, .slice a3 y3.1.length cc3] := rowT
  have kT := (Keep.refl (· = w1.heap.size) w4).setCell (p := ⟨w1.heap.size, 3, none⟩) (fun _ => rfl) (.slice a3 y3.1.length cc3)
  replace rowR := rowR.keep kT (by omega)
  replace hr := hr'.keep kT (by omega) (fun b hb e => by have := hpl b hb; omega)
  replace kk := (kk.trans k3).then kT (fun i hi e => by omega)
  replace q2 := (rList_lawful rGTable_lawful).mono ((rList_lawful rGTable_lawful).keep q2 kT (fun b hb e => hb.2.2 e)) (fun b hb => (⟨hb.1, Nat.lt_of_lt_of_le hb.2.1 kT.size, hb.2.2⟩ : NewBut (w.heap.size + 1) w1.heap.size (w4.setCell ⟨w1.heap.size, 3, none⟩ (.slice a3 y3.1.length cc3)) b))
  replace q3 := (rList_lawful rGIndex_lawful).mono ((rList_lawful rGIndex_lawful).keep q3 kT (fun b hb e => hb.2.2 e)) (fun b hb => (⟨hb.1, Nat.lt_of_lt_of_le hb.2.1 kT.size, hb.2.2⟩ : NewBut (w.heap.size + 1) w1.heap.size (w4.setCell ⟨w1.heap.size, 3, none⟩ (.slice a3 y3.1.length cc3)) b))
  clear hr' k3 kT rTl
  replace rowT : RowIs (w4.setCell ⟨w1.heap.size, 3, none⟩ (.slice a3 y3.1.length cc3)) w1.heap.size 50 [.int .i64 y0.1, .int .i64 y1.1, .slice a2 y2.1.length cc2, .slice a3 y3.1.length cc3] := rowT
  have hld : (wholeSem 50 (.pointer (some ⟨w1.heap.size, 0, none⟩))).run Tryz.prog (w4.setCell ⟨w1.heap.size, 3, none⟩ (.slice a3 y3.1.length cc3)) = .ok (.value (.agg #[.int .i64 y0.1, .int .i64 y1.1, .slice a2 y2.1.length cc2, .slice a3 y3.1.length cc3])) (w4.setCell ⟨w1.heap.size, 3, none⟩ (.slice a3 y3.1.length cc3)) := Whole.row S_Catalog rfl rowT
  have hst := store_run (P := Tryz.prog) (cs := [.int .i64 y0.1, .int .i64 y1.1, .slice a2 y2.1.length cc2, .slice a3 y3.1.length cc3]) S_Catalog rowR rfl rfl rfl
  have rowF := rowR.setRow [.int .i64 y0.1, .int .i64 y1.1, .slice a2 y2.1.length cc2, .slice a3 y3.1.length cc3]
  have kS := (Keep.refl (· = w.heap.size) (w4.setCell ⟨w1.heap.size, 3, none⟩ (.slice a3 y3.1.length cc3))).setRow (fun _ => rfl) (#[.int .i64 y0.1, .int .i64 y1.1, .slice a2 y2.1.length cc2, .slice a3 y3.1.length cc3] : Array Value)
  have HE : Hid (pGCatalog s = (⟨y0.1, y1.1, y2.1, y3.1⟩, y3.2)) := by show _ = _; simp only [pGCatalog, hy0.out, hy1.out, hy2.out, hy3.out]
  go_wp2_with fail
  refine bodyPost_ret (results_cell_row (by rfl) _ _ _ _ _ _ _ (by rfl) rowF Tryz.underlying50 (by rfl) S_Catalog.info) rfl ?_
  rw [HE.out]
  replace q2 := (rList_lawful rGTable_lawful).mono ((rList_lawful rGTable_lawful).keep q2 kS (fun b hb e => by have := hb.1; omega)) (fun b hb => (⟨by have := hb.1; omega, Nat.lt_of_lt_of_le hb.2.1 kS.size⟩ : NewIn w ((w4.setCell ⟨w1.heap.size, 3, none⟩ (.slice a3 y3.1.length cc3)).setRow w.heap.size #[.int .i64 y0.1, .int .i64 y1.1, .slice a2 y2.1.length cc2, .slice a3 y3.1.length cc3]) b))
  replace q3 := (rList_lawful rGIndex_lawful).mono ((rList_lawful rGIndex_lawful).keep q3 kS (fun b hb e => by have := hb.1; omega)) (fun b hb => (⟨by have := hb.1; omega, Nat.lt_of_lt_of_le hb.2.1 kS.size⟩ : NewIn w ((w4.setCell ⟨w1.heap.size, 3, none⟩ (.slice a3 y3.1.length cc3)).setRow w.heap.size #[.int .i64 y0.1, .int .i64 y1.1, .slice a2 y2.1.length cc2, .slice a3 y3.1.length cc3]) b))
  exact ⟨[.int .i64 y0.1, .int .i64 y1.1, .slice a2 y2.1.length cc2, .slice a3 y3.1.length cc3], rfl, ⟨[.int .i64 y0.1], [.int .i64 y1.1], [.slice a2 y2.1.length cc2], [.slice a3 y3.1.length cc3], rfl, ⟨rfl, wf0.out⟩, ⟨rfl, wf1.out⟩, q2, q3⟩, rfl, hr.keep kS (by omega) (fun b hb e => by have := hpl b hb; omega), kk.then kS (fun i hi e => by omega)⟩
end
end Go.Proofs.YtabgbleldbapbaaGreat
