/- THE REFERENCE's READER: lists and structs. Printed by gen9.py. -/
import Derived.Test.YtabgbleldbapbaaGreatInB
import Derived.Test.YtabgbleldbapbaaGreatGetC
namespace Go.Proofs.YtabgbleldbapbaaGreat
open Go.RowKit

theorem ld_Set (a : Act) (dst : Option Tmp) (x : Operand) (ty : TypeId) (pos : String) (after : Array Edge) (guard : Option (Nat × Bool)) : execOp a.eval { dst := dst, op := .load 203 x, type := ty, pos := pos, after := after, guard := guard } = wholeSem 203 (a.eval x) := rfl
section
attribute [local go_sem ↓] ld_Set st_Set
set_option maxRecDepth 100000 in
set_option maxHeartbeats 8000000 in
theorem iSet_c (x : Nat) (p : Nat → Prop) (s : RdS) (w : World) (h : IsIn w x p s) (hpl : ∀ b, p b → b < w.heap.size) :
    Calls Tryz.prog 190 #[.pointer (some ⟨x, 0, none⟩)] w (GotS rGSet x p w (pGSet s)) := by
  have hlt := h.lt
  have rowR : RowIs (w.alloc (.cells #[.int .i64 0, .int .i64 0, .int .i64 0, .string { data := #[] }] 203)) w.heap.size 203 [.int .i64 0, .int .i64 0, .int .i64 0, .string { data := #[] }] := RowIs.alloc w _ _
  have hr := h.nix ((Keep.refl Nix w).alloc (.cells #[.int .i64 0, .int .i64 0, .int .i64 0, .string { data := #[] }] 203))
  have kk : Keep (· = x) w (w.alloc (.cells #[.int .i64 0, .int .i64 0, .int .i64 0, .string { data := #[] }] 203)) := (Keep.refl (· = x) w).alloc _
  clear h
  go_enter Tryz.func190, Tryz.ntmps190
  go_wp2_with fail
  go_fit (iint_g x p _ _ hr)
  rintro e w1 ⟨rfl, hr', k0⟩
  have wf0 : Hid ((Lit.int .i64 (pInt s).1).wf = true) := zag_wf (numS_lt maxU _)
  generalize hy0 : pInt s = y0 at hr' wf0 ⊢
  replace hy0 := Lib.hid hy0
  have rRl := rowR.lt
  have ks0 := k0.size
  replace rowR := rowR.keep k0 (by omega)
  have rRl1 := rowR.lt
  have hst0 := store_run (P := Tryz.prog) (cs := [.int .i64 y0.1, .int .i64 0, .int .i64 0, .string { data := #[] }]) S_Set (RowIs.alloc w1 #[.int .i64 0, .int .i64 0, .int .i64 0, .string { data := #[] }] 203) rfl rfl rfl
  have rowT := (RowIs.alloc w1 #[.int .i64 0, .int .i64 0, .int .i64 0, .string { data := #[] }] 203).setRow [.int .i64 y0.1, .int .i64 0, .int .i64 0, .string { data := #[] }]
  have kT := ((Keep.refl (· = w1.heap.size) w1).alloc (.cells #[.int .i64 0, .int .i64 0, .int .i64 0, .string { data := #[] }] 203)).setRow (fun _ => rfl) (#[.int .i64 y0.1, .int .i64 0, .int .i64 0, .string { data := #[] }] : Array Value)
  replace rowR := rowR.keep kT (by omega)
  have hr1 := hr'.lt
  have hxT : x < w1.heap.size := hr1
  replace hr := hr'.keep kT (by omega) (fun b hb e => by have := hpl b hb; omega)
  replace kk := (kk.trans k0).then kT (fun i hi e => by omega)
  clear hr' k0 kT hr1
  go_wp2_with fail
  clear hst0
  go_fit (iValue_c x p _ _ hr (fun b hb => Nat.lt_of_lt_of_le (hpl b hb) kk.size))
  rintro e w2 ⟨c1, rfl, q1, -, hr', k1⟩
  generalize hy1 : pGValue y0.2 = y1 at hr' q1
  replace hy1 := Lib.hid hy1
  obtain ⟨hce, -⟩ := rGValue_open q1
  subst hce
  have rTl := rowT.lt
  replace rowT := rowT.keep k1 (by omega)
  replace rowR := rowR.keep k1 (by omega)
  replace q1 := rGValue_lawful.mono q1 (fun b hb => (⟨by have := hb.1; omega, hb.2, by have := hb.1; omega⟩ : NewBut (w.heap.size + 1) w1.heap.size w2 b))
  have xc0 : w2.cell? ⟨w1.heap.size, 1, none⟩ = some (.int .i64 0) := rowT.cell 1
  have xf0 : w2.frozen? ⟨w1.heap.size, 1, none⟩ = false := rowT.frozen 1
  have xc1 : w2.cell? ⟨w1.heap.size, 2, none⟩ = some (.int .i64 0) := rowT.cell 2
  have xf1 : w2.frozen? ⟨w1.heap.size, 2, none⟩ = false := rowT.frozen 2
  have xc2 : w2.cell? ⟨w1.heap.size, 3, none⟩ = some (.string { data := #[] }) := rowT.cell 3
  have xf2 : w2.frozen? ⟨w1.heap.size, 3, none⟩ = false := rowT.frozen 3
  replace rowT := rowT.set 1 (.int .i64 y1.1.fKind)
  replace rowT := rowT.set 2 (.int .i64 y1.1.fI)
  replace rowT := rowT.set 3 (.string (strB y1.1.fS))
  replace rowT : RowIs (((w2.setCell ⟨w1.heap.size, 1, none⟩ (.int .i64 y1.1.fKind)).setCell ⟨w1.heap.size, 2, none⟩ (.int .i64 y1.1.fI)).setCell ⟨w1.heap.size, 3, none⟩ (.string (strB y1.1.fS))) w1.heap.size 203 [.int .i64 y0.1, .int .i64 y1.1.fKind, .int .i64 y1.1.fI, .string (strB y1.1.fS)] := rowT
  have kT := (((Keep.refl (· = w1.heap.size) w2).setCell (p := ⟨w1.heap.size, 1, none⟩) (fun _ => rfl) (.int .i64 y1.1.fKind)).setCell (p := ⟨w1.heap.size, 2, none⟩) (fun _ => rfl) (.int .i64 y1.1.fI)).setCell (p := ⟨w1.heap.size, 3, none⟩) (fun _ => rfl) (.string (strB y1.1.fS))
  replace rowR := rowR.keep kT (by omega)
  replace hr := hr'.keep kT (by omega) (fun b hb e => by have := hpl b hb; omega)
  replace kk := (kk.trans k1).then kT (fun i hi e => by omega)
  replace q1 := rGValue_lawful.mono (rGValue_lawful.keep q1 kT (fun b hb e => hb.2.2 e)) (fun b hb => (⟨hb.1, Nat.lt_of_lt_of_le hb.2.1 kT.size, hb.2.2⟩ : NewBut (w.heap.size + 1) w1.heap.size (((w2.setCell ⟨w1.heap.size, 1, none⟩ (.int .i64 y1.1.fKind)).setCell ⟨w1.heap.size, 2, none⟩ (.int .i64 y1.1.fI)).setCell ⟨w1.heap.size, 3, none⟩ (.string (strB y1.1.fS))) b))
  clear hr' k1 kT rTl
  replace rowT : RowIs (((w2.setCell ⟨w1.heap.size, 1, none⟩ (.int .i64 y1.1.fKind)).setCell ⟨w1.heap.size, 2, none⟩ (.int .i64 y1.1.fI)).setCell ⟨w1.heap.size, 3, none⟩ (.string (strB y1.1.fS))) w1.heap.size 203 [.int .i64 y0.1, .int .i64 y1.1.fKind, .int .i64 y1.1.fI, .string (strB y1.1.fS)] := rowT
  have hld : (wholeSem 203 (.pointer (some ⟨w1.heap.size, 0, none⟩))).run Tryz.prog (((w2.setCell ⟨w1.heap.size, 1, none⟩ (.int .i64 y1.1.fKind)).setCell ⟨w1.heap.size, 2, none⟩ (.int .i64 y1.1.fI)).setCell ⟨w1.heap.size, 3, none⟩ (.string (strB y1.1.fS))) = .ok (.value (.agg #[.int .i64 y0.1, .int .i64 y1.1.fKind, .int .i64 y1.1.fI, .string (strB y1.1.fS)])) (((w2.setCell ⟨w1.heap.size, 1, none⟩ (.int .i64 y1.1.fKind)).setCell ⟨w1.heap.size, 2, none⟩ (.int .i64 y1.1.fI)).setCell ⟨w1.heap.size, 3, none⟩ (.string (strB y1.1.fS))) := Whole.row S_Set rfl rowT
  have hst := store_run (P := Tryz.prog) (cs := [.int .i64 y0.1, .int .i64 y1.1.fKind, .int .i64 y1.1.fI, .string (strB y1.1.fS)]) S_Set rowR rfl rfl rfl
  have rowF := rowR.setRow [.int .i64 y0.1, .int .i64 y1.1.fKind, .int .i64 y1.1.fI, .string (strB y1.1.fS)]
  have kS := (Keep.refl (· = w.heap.size) (((w2.setCell ⟨w1.heap.size, 1, none⟩ (.int .i64 y1.1.fKind)).setCell ⟨w1.heap.size, 2, none⟩ (.int .i64 y1.1.fI)).setCell ⟨w1.heap.size, 3, none⟩ (.string (strB y1.1.fS)))).setRow (fun _ => rfl) (#[.int .i64 y0.1, .int .i64 y1.1.fKind, .int .i64 y1.1.fI, .string (strB y1.1.fS)] : Array Value)
  have HE : Hid (pGSet s = (⟨y0.1, y1.1⟩, y1.2)) := by show _ = _; simp only [pGSet, hy0.out, hy1.out]
  go_wp2_with fail
  refine bodyPost_ret (results_cell_row (by rfl) _ _ _ _ _ _ _ (by rfl) rowF Tryz.underlying203 (by rfl) S_Set.info) rfl ?_
  rw [HE.out]
  replace q1 := rGValue_lawful.mono (rGValue_lawful.keep q1 kS (fun b hb e => by have := hb.1; omega)) (fun b hb => (⟨by have := hb.1; omega, Nat.lt_of_lt_of_le hb.2.1 kS.size⟩ : NewIn w ((((w2.setCell ⟨w1.heap.size, 1, none⟩ (.int .i64 y1.1.fKind)).setCell ⟨w1.heap.size, 2, none⟩ (.int .i64 y1.1.fI)).setCell ⟨w1.heap.size, 3, none⟩ (.string (strB y1.1.fS))).setRow w.heap.size #[.int .i64 y0.1, .int .i64 y1.1.fKind, .int .i64 y1.1.fI, .string (strB y1.1.fS)]) b))
  exact ⟨[.int .i64 y0.1, .int .i64 y1.1.fKind, .int .i64 y1.1.fI, .string (strB y1.1.fS)], rfl, ⟨[.int .i64 y0.1], [.int .i64 y1.1.fKind, .int .i64 y1.1.fI, .string (strB y1.1.fS)], rfl, ⟨rfl, wf0.out⟩, q1⟩, rfl, hr.keep kS (by omega) (fun b hb e => by have := hpl b hb; omega), kk.then kS (fun i hi e => by omega)⟩
end
section
attribute [local go_sem ↓] ls_Set
set_option maxRecDepth 100000 in
set_option maxHeartbeats 4000000 in
theorem ilSet_c (x : Nat) (p : Nat → Prop) (s : RdS) (w : World) (h : IsIn w x p s) (hpl : ∀ b, p b → b < w.heap.size) :
    Calls Tryz.prog 178 #[.pointer (some ⟨x, 0, none⟩)] w (GotV (rList rGSet) x p w (pList pGSet s)) := by
  have hlt := h.lt
  have hle := numS_le 5000 s
  go_enter Tryz.func178, Tryz.ntmps178
  go_wp2_with fail
  go_fit (imany_g x p s w h)
  rintro e w1 ⟨rfl, h1, k1⟩
  have HP : Hid (pList pGSet s = pMany pGSet (numS 5000 s).1 (numS 5000 s).2) := rfl
  clear h
  generalize numS 5000 s = N at h1 HP hle ⊢
  have hsz0 := k1.size
  go_wp2_with fail
  go_loopw [3, 5] (fun l i wr => ∃ (xs : List GSet) (css : List (List Value)) (s' : RdS) (a : Option Addr) (cap : Nat), l = .slice a xs.length cap ∧ i = .int .i64 xs.length ∧ xs.length ≤ N.1 ∧ Hid (pMany pGSet N.1 N.2 = (xs ++ (pMany pGSet (N.1 - xs.length) s').1, (pMany pGSet (N.1 - xs.length) s').2)) ∧
      wr.ownsRow w.heap.size 203 4 (.slice a xs.length cap) xs.length css.flatten ∧ Els rGSet wr (fun b => NewIn w wr b ∧ ¬ OwnB (.slice a xs.length cap) b) css xs ∧ IsIn wr x p s' ∧ Keep (· = x) w wr) (fun _ i _ => N.1 - (intOf i).toNat)
  case atStart => exact ⟨[], [], N.2, none, 0, rfl, rfl, Nat.zero_le _, rfl, World.ownsRow_nil _ _ _ _, Els.nil _ _ _, h1, k1⟩
  case round =>
    clear h1 k1 hsz0
    obtain ⟨xs, css, s', a, cap, rfl, rfl, hk, hp, own, els, hr, kk⟩ := hrel
    have hwr := kk.size
    have hfar : xs.length ≤ far := by unfold far; omega
    by_cases hlt2 : xs.length < N.1
    · have hdec : decide (xs.length < N.1) = true := decide_eq_true hlt2
      go_wp2_with fail
      go_fit (fault_c x p s' wr hr)
      rintro e w2 ⟨rfl, rfl⟩
      rcases test_eq s'.e 0 with ⟨ht, he⟩ | ⟨ht, he⟩
      · have t' : (s'.e != 0) = false := by simp [he.out]
        go_wp2_with fail
        go_fit (iSet_c x p s' wr hr (fun b hb => Nat.lt_of_lt_of_le (hpl b hb) hwr))
        rintro e w3 ⟨c, rfl, hc, h1c, hr3, k3⟩
        have hlc := rGSet_lawful.len hc
        have hls := list_run (P := Tryz.prog) T_lSet (by decide) c hlc w3
        have own3 := owned_keep own k3 (fun b hb e => by have := (own.lt b hb).1; omega)
        have kk3 := kk.trans k3
        have hsz3 := k3.size
        have hol : ∀ b, OwnB (.slice a xs.length cap) b → b < wr.heap.size := fun b hb => (own.lt b hb).2
        have hHP : Hid (pMany pGSet (N.1 - xs.length) s' = ((pGSet s').1 :: (pMany pGSet (N.1 - (xs.length + 1)) (pGSet s').2).1, (pMany pGSet (N.1 - (xs.length + 1)) (pGSet s').2).2)) := by
          show _ = _
          rw [show N.1 - xs.length = (N.1 - (xs.length + 1)) + 1 by omega, pMany, if_pos he.out]
        clear own hr hdec
        go_wp2_with (at_builtin; refine wpl_append1_at T_lSet rfl (.tmp 18) (.tmp 21) rfl w.heap.size rfl own3 rfl ?c0 ?c1 ?c2 ?c3 ?c4 ?_)
        case c0 => simpa using hlc
        case c1 => first | (simpa [ones] using h1c) | (intro u hu; exact (List.all_eq_true.1 h1c) u (by simpa using hu))
        case c2 => unfold maxLen; omega
        case c3 => omega
        case c4 => omega
        intro a' cap' w4 own4 k4 hfresh
        have els4 := els.push rGSet_lawful hc k3 k4 hlt hwr hol hfresh
        have hr4 : IsIn w4 x p (pGSet s').2 := hr3.keep k4 (fun hb => by have := (own3.lt _ hb).1; omega) (fun b hb hb2 => by have := (own3.lt _ hb2).1; have := hpl b hb; omega)
        have kk4 : Keep (· = x) w w4 := kk3.then k4 (fun i hi hb => by have := (own3.lt _ hb).1; omega)
        clear own3 els hr3 kk3 k3 k4 hfresh
        go_wp2
        go_roundw
        case rel => exact ⟨xs ++ [(pGSet s').1], css ++ [c], (pGSet s').2, a', cap', by simp, by rw [List.length_append]; go_num, by simp; omega, by show _ = _; rw [hp.out, hHP.out]; simp, by simpa using own4, by simpa using els4, hr4, kk4⟩
        case measure => simp [intOf]; omega
      · have t' : (s'.e != 0) = true := by simp [he]
        go_wp2_with fail
        go_ret
        have hHP : pMany pGSet (N.1 - xs.length) s' = ([], s') := by
          rw [show N.1 - xs.length = (N.1 - (xs.length + 1)) + 1 by omega, pMany, if_neg he]
        refine ⟨_, rfl, ?_, ?_, kk⟩
        · rw [HP.out, hp.out, hHP]; exact Els.list (Nat.le_refl _) own els rGSet_lawful (by simp) hfar
        · rw [HP.out, hp.out, hHP]; exact hr
    · have hdec : decide (xs.length < N.1) = false := decide_eq_false hlt2
      have hz : N.1 - xs.length = 0 := by omega
      have HZ := Lib.hid hz
      clear hz
      go_wp2_with fail
      go_ret
      refine ⟨_, rfl, ?_, ?_, kk⟩
      · rw [HP.out, hp.out, HZ.out]; exact Els.list (Nat.le_refl _) own els rGSet_lawful (by simp [pMany]) hfar
      · rw [HP.out, hp.out, HZ.out]; exact hr
end
theorem ld_Op (a : Act) (dst : Option Tmp) (x : Operand) (ty : TypeId) (pos : String) (after : Array Edge) (guard : Option (Nat × Bool)) : execOp a.eval { dst := dst, op := .load 135 x, type := ty, pos := pos, after := after, guard := guard } = wholeSem 135 (a.eval x) := rfl
section
attribute [local go_sem ↓] ld_Op st_Op
set_option maxRecDepth 100000 in
set_option maxHeartbeats 8000000 in
theorem iOp_c (x : Nat) (p : Nat → Prop) (s : RdS) (w : World) (h : IsIn w x p s) (hpl : ∀ b, p b → b < w.heap.size) :
    Calls Tryz.prog 129 #[.pointer (some ⟨x, 0, none⟩)] w (GotS rGOp x p w (pGOp s)) := by
  have hlt := h.lt
  have rowR : RowIs (w.alloc (.cells #[.int .i64 0, .string { data := #[] }, .string { data := #[] }, .slice none 0 0, .slice none 0 0, .slice none 0 0, .slice none 0 0, .slice none 0 0, .int .i64 0, .bool false, .slice none 0 0] 135)) w.heap.size 135 [.int .i64 0, .string { data := #[] }, .string { data := #[] }, .slice none 0 0, .slice none 0 0, .slice none 0 0, .slice none 0 0, .slice none 0 0, .int .i64 0, .bool false, .slice none 0 0] := RowIs.alloc w _ _
  have hr := h.nix ((Keep.refl Nix w).alloc (.cells #[.int .i64 0, .string { data := #[] }, .string { data := #[] }, .slice none 0 0, .slice none 0 0, .slice none 0 0, .slice none 0 0, .slice none 0 0, .int .i64 0, .bool false, .slice none 0 0] 135))
  have kk : Keep (· = x) w (w.alloc (.cells #[.int .i64 0, .string { data := #[] }, .string { data := #[] }, .slice none 0 0, .slice none 0 0, .slice none 0 0, .slice none 0 0, .slice none 0 0, .int .i64 0, .bool false, .slice none 0 0] 135)) := (Keep.refl (· = x) w).alloc _
  clear h
  go_enter Tryz.func129, Tryz.ntmps129
  go_wp2_with fail
  go_fit (iint_g x p _ _ hr)
  rintro e w1 ⟨rfl, hr', k0⟩
  have wf0 : Hid ((Lit.int .i64 (pInt s).1).wf = true) := zag_wf (numS_lt maxU _)
  generalize hy0 : pInt s = y0 at hr' wf0 ⊢
  replace hy0 := Lib.hid hy0
  have rRl := rowR.lt
  have ks0 := k0.size
  replace rowR := rowR.keep k0 (by omega)
  have rRl1 := rowR.lt
  have hst0 := store_run (P := Tryz.prog) (cs := [.int .i64 y0.1, .string { data := #[] }, .string { data := #[] }, .slice none 0 0, .slice none 0 0, .slice none 0 0, .slice none 0 0, .slice none 0 0, .int .i64 0, .bool false, .slice none 0 0]) S_Op (RowIs.alloc w1 #[.int .i64 0, .string { data := #[] }, .string { data := #[] }, .slice none 0 0, .slice none 0 0, .slice none 0 0, .slice none 0 0, .slice none 0 0, .int .i64 0, .bool false, .slice none 0 0] 135) rfl rfl rfl
  have rowT := (RowIs.alloc w1 #[.int .i64 0, .string { data := #[] }, .string { data := #[] }, .slice none 0 0, .slice none 0 0, .slice none 0 0, .slice none 0 0, .slice none 0 0, .int .i64 0, .bool false, .slice none 0 0] 135).setRow [.int .i64 y0.1, .string { data := #[] }, .string { data := #[] }, .slice none 0 0, .slice none 0 0, .slice none 0 0, .slice none 0 0, .slice none 0 0, .int .i64 0, .bool false, .slice none 0 0]
  have kT := ((Keep.refl (· = w1.heap.size) w1).alloc (.cells #[.int .i64 0, .string { data := #[] }, .string { data := #[] }, .slice none 0 0, .slice none 0 0, .slice none 0 0, .slice none 0 0, .slice none 0 0, .int .i64 0, .bool false, .slice none 0 0] 135)).setRow (fun _ => rfl) (#[.int .i64 y0.1, .string { data := #[] }, .string { data := #[] }, .slice none 0 0, .slice none 0 0, .slice none 0 0, .slice none 0 0, .slice none 0 0, .int .i64 0, .bool false, .slice none 0 0] : Array Value)
  replace rowR := rowR.keep kT (by omega)
  have hr1 := hr'.lt
  have hxT : x < w1.heap.size := hr1
  replace hr := hr'.keep kT (by omega) (fun b hb e => by have := hpl b hb; omega)
  replace kk := (kk.trans k0).then kT (fun i hi e => by omega)
  clear hr' k0 kT hr1
  go_wp2_with fail
  clear hst0
  go_fit (itext_g x p _ _ hr)
  rintro e w2 ⟨rfl, hr', k1⟩
  have wf1 : Hid ((pBytes y0.2).1.length ≤ far) := Nat.le_trans (textS_len 65536 _) (by decide)
  generalize hy1 : pBytes y0.2 = y1 at hr' wf1 ⊢
  replace hy1 := Lib.hid hy1
  have rTl := rowT.lt
  replace rowT := rowT.keep k1 (by omega)
  replace rowR := rowR.keep k1 (by omega)
  have xc0 : w2.cell? ⟨w1.heap.size, 1, none⟩ = some (.string { data := #[] }) := rowT.cell 1
  have xf0 : w2.frozen? ⟨w1.heap.size, 1, none⟩ = false := rowT.frozen 1
  replace rowT := rowT.set 1 (.string (strB y1.1))
  replace rowT : RowIs (w2.setCell ⟨w1.heap.size, 1, none⟩ (.string (strB y1.1))) w1.heap.size 135 [.int .i64 y0.1, .string (strB y1.1), .string { data := #[] }, .slice none 0 0, .slice none 0 0, .slice none 0 0, .slice none 0 0, .slice none 0 0, .int .i64 0, .bool false, .slice none 0 0] := rowT
  have kT := (Keep.refl (· = w1.heap.size) w2).setCell (p := ⟨w1.heap.size, 1, none⟩) (fun _ => rfl) (.string (strB y1.1))
  replace rowR := rowR.keep kT (by omega)
  replace hr := hr'.keep kT (by omega) (fun b hb e => by have := hpl b hb; omega)
  replace kk := (kk.trans k1).then kT (fun i hi e => by omega)
  clear hr' k1 kT rTl
  go_wp2_with fail
  clear xc0 xf0
  go_fit (itext_g x p _ _ hr)
  rintro e w3 ⟨rfl, hr', k2⟩
  have wf2 : Hid ((pBytes y1.2).1.length ≤ far) := Nat.le_trans (textS_len 65536 _) (by decide)
  generalize hy2 : pBytes y1.2 = y2 at hr' wf2 ⊢
  replace hy2 := Lib.hid hy2
  have rTl := rowT.lt
  replace rowT := rowT.keep k2 (by omega)
  replace rowR := rowR.keep k2 (by omega)
  have xc0 : w3.cell? ⟨w1.heap.size, 2, none⟩ = some (.string { data := #[] }) := rowT.cell 2
  have xf0 : w3.frozen? ⟨w1.heap.size, 2, none⟩ = false := rowT.frozen 2
  replace rowT := rowT.set 2 (.string (strB y2.1))
  replace rowT : RowIs (w3.setCell ⟨w1.heap.size, 2, none⟩ (.string (strB y2.1))) w1.heap.size 135 [.int .i64 y0.1, .string (strB y1.1), .string (strB y2.1), .slice none 0 0, .slice none 0 0, .slice none 0 0, .slice none 0 0, .slice none 0 0, .int .i64 0, .bool false, .slice none 0 0] := rowT
  have kT := (Keep.refl (· = w1.heap.size) w3).setCell (p := ⟨w1.heap.size, 2, none⟩) (fun _ => rfl) (.string (strB y2.1))
  replace rowR := rowR.keep kT (by omega)
  replace hr := hr'.keep kT (by omega) (fun b hb e => by have := hpl b hb; omega)
  replace kk := (kk.trans k2).then kT (fun i hi e => by omega)
  clear hr' k2 kT rTl
  go_wp2_with fail
  clear xc0 xf0
  go_fit (ilValue_c x p _ _ hr (fun b hb => Nat.lt_of_lt_of_le (hpl b hb) kk.size))
  rintro e w4 ⟨v, rfl, q3, hr', k3⟩
  generalize hy3 : (pList pGValue) y2.2 = y3 at hr' q3
  replace hy3 := Lib.hid hy3
  obtain ⟨a3, cc3, hv, q3'⟩ := rList_open q3
  simp only [List.cons.injEq, and_true] at hv
  subst hv
  clear q3
  have q3 := q3'
  clear q3'
  have rTl := rowT.lt
  replace rowT := rowT.keep k3 (by omega)
  replace rowR := rowR.keep k3 (by omega)
  replace q3 := (rList_lawful rGValue_lawful).mono q3 (fun b hb => (⟨by have := hb.1; omega, hb.2, by have := hb.1; omega⟩ : NewBut (w.heap.size + 1) w1.heap.size w4 b))
  have xc0 : w4.cell? ⟨w1.heap.size, 3, none⟩ = some (.slice none 0 0) := rowT.cell 3
  have xf0 : w4.frozen? ⟨w1.heap.size, 3, none⟩ = false := rowT.frozen 3
  replace rowT := rowT.set 3 (.slice a3 y3.1.length cc3)
  replace rowT : RowIs (w4.setCell ⟨w1.heap.size, 3, none⟩ (.slice a3 y3.1.length cc3)) w1.heap.size 135 [.int .i64 y0.1, .string (strB y1.1), .string (strB y2.1), .slice a3 y3.1.length cc3, .slice none 0 0, .slice none 0 0, .slice none 0 0, .slice none 0 0, .int .i64 0, .bool false, .slice none 0 0] := rowT
  have kT := (Keep.refl (· = w1.heap.size) w4).setCell (p := ⟨w1.heap.size, 3, none⟩) (fun _ => rfl) (.slice a3 y3.1.length cc3)
  replace rowR := rowR.keep kT (by omega)
  replace hr := hr'.keep kT (by omega) (fun b hb e => by have := hpl b hb; omega)
  replace kk := (kk.trans k3).then kT (fun i hi e => by omega)
  replace q3 := (rList_lawful rGValue_lawful).mono ((rList_lawful rGValue_lawful).keep q3 kT (fun b hb e => hb.2.2 e)) (fun b hb => (⟨hb.1, Nat.lt_of_lt_of_le hb.2.1 kT.size, hb.2.2⟩ : NewBut (w.heap.size + 1) w1.heap.size (w4.setCell ⟨w1.heap.size, 3, none⟩ (.slice a3 y3.1.length cc3)) b))
  clear hr' k3 kT rTl
  go_wp2_with fail
  clear xc0 xf0
  go_fit (ilValue_c x p _ _ hr (fun b hb => Nat.lt_of_lt_of_le (hpl b hb) kk.size))
  rintro e w5 ⟨v, rfl, q4, hr', k4⟩
  generalize hy4 : (pList pGValue) y3.2 = y4 at hr' q4
  replace hy4 := Lib.hid hy4
  obtain ⟨a4, cc4, hv, q4'⟩ := rList_open q4
  simp only [List.cons.injEq, and_true] at hv
  subst hv
  clear q4
  have q4 := q4'
  clear q4'
  have rTl := rowT.lt
  replace rowT := rowT.keep k4 (by omega)
  replace rowR := rowR.keep k4 (by omega)
  replace q3 := (rList_lawful rGValue_lawful).mono ((rList_lawful rGValue_lawful).keep q3 k4 (fun b hb e => by have := hb.1; omega)) (fun b hb => (⟨hb.1, Nat.lt_of_lt_of_le hb.2.1 k4.size, hb.2.2⟩ : NewBut (w.heap.size + 1) w1.heap.size w5 b))
  replace q4 := (rList_lawful rGValue_lawful).mono q4 (fun b hb => (⟨by have := hb.1; omega, hb.2, by have := hb.1; omega⟩ : NewBut (w.heap.size + 1) w1.heap.size w5 b))
  have xc0 : w5.cell? ⟨w1.heap.size, 4, none⟩ = some (.slice none 0 0) := rowT.cell 4
  have xf0 : w5.frozen? ⟨w1.heap.size, 4, none⟩ = false := rowT.frozen 4
  replace rowT := rowT.set 4 (.slice a4 y4.1.length cc4)
  replace rowT : RowIs (w5.setCell ⟨w1.heap.size, 4, none⟩ (.slice a4 y4.1.length cc4)) w1.heap.size 135 [.int .i64 y0.1, .string (strB y1.1), .string (strB y2.1), .slice a3 y3.1.length cc3, .slice a4 y4.1.length cc4, .slice none 0 0, .slice none 0 0, .slice none 0 0, .int .i64 0, .bool false, .slice none 0 0] := rowT
  have kT := (Keep.refl (· = w1.heap.size) w5).setCell (p := ⟨w1.heap.size, 4, none⟩) (fun _ => rfl) (.slice a4 y4.1.length cc4)
  replace rowR := rowR.keep kT (by omega)
  replace hr := hr'.keep kT (by omega) (fun b hb e => by have := hpl b hb; omega)
  replace kk := (kk.trans k4).then kT (fun i hi e => by omega)
  replace q3 := (rList_lawful rGValue_lawful).mono ((rList_lawful rGValue_lawful).keep q3 kT (fun b hb e => hb.2.2 e)) (fun b hb => (⟨hb.1, Nat.lt_of_lt_of_le hb.2.1 kT.size, hb.2.2⟩ : NewBut (w.heap.size + 1) w1.heap.size (w5.setCell ⟨w1.heap.size, 4, none⟩ (.slice a4 y4.1.length cc4)) b))
  replace q4 := (rList_lawful rGValue_lawful).mono ((rList_lawful rGValue_lawful).keep q4 kT (fun b hb e => hb.2.2 e)) (fun b hb => (⟨hb.1, Nat.lt_of_lt_of_le hb.2.1 kT.size, hb.2.2⟩ : NewBut (w.heap.size + 1) w1.heap.size (w5.setCell ⟨w1.heap.size, 4, none⟩ (.slice a4 y4.1.length cc4)) b))
  clear hr' k4 kT rTl
  go_wp2_with fail
  clear xc0 xf0
  go_fit (ilSet_c x p _ _ hr (fun b hb => Nat.lt_of_lt_of_le (hpl b hb) kk.size))
  rintro e w6 ⟨v, rfl, q5, hr', k5⟩
  generalize hy5 : (pList pGSet) y4.2 = y5 at hr' q5
  replace hy5 := Lib.hid hy5
  obtain ⟨a5, cc5, hv, q5'⟩ := rList_open q5
  simp only [List.cons.injEq, and_true] at hv
  subst hv
  clear q5
  have q5 := q5'
  clear q5'
  have rTl := rowT.lt
  replace rowT := rowT.keep k5 (by omega)
  replace rowR := rowR.keep k5 (by omega)
  replace q3 := (rList_lawful rGValue_lawful).mono ((rList_lawful rGValue_lawful).keep q3 k5 (fun b hb e => by have := hb.1; omega)) (fun b hb => (⟨hb.1, Nat.lt_of_lt_of_le hb.2.1 k5.size, hb.2.2⟩ : NewBut (w.heap.size + 1) w1.heap.size w6 b))
  replace q4 := (rList_lawful rGValue_lawful).mono ((rList_lawful rGValue_lawful).keep q4 k5 (fun b hb e => by have := hb.1; omega)) (fun b hb => (⟨hb.1, Nat.lt_of_lt_of_le hb.2.1 k5.size, hb.2.2⟩ : NewBut (w.heap.size + 1) w1.heap.size w6 b))
  replace q5 := (rList_lawful rGSet_lawful).mono q5 (fun b hb => (⟨by have := hb.1; omega, hb.2, by have := hb.1; omega⟩ : NewBut (w.heap.size + 1) w1.heap.size w6 b))
  have xc0 : w6.cell? ⟨w1.heap.size, 5, none⟩ = some (.slice none 0 0) := rowT.cell 5
  have xf0 : w6.frozen? ⟨w1.heap.size, 5, none⟩ = false := rowT.frozen 5
  replace rowT := rowT.set 5 (.slice a5 y5.1.length cc5)
  replace rowT : RowIs (w6.setCell ⟨w1.heap.size, 5, none⟩ (.slice a5 y5.1.length cc5)) w1.heap.size 135 [.int .i64 y0.1, .string (strB y1.1), .string (strB y2.1), .slice a3 y3.1.length cc3, .slice a4 y4.1.length cc4, .slice a5 y5.1.length cc5, .slice none 0 0, .slice none 0 0, .int .i64 0, .bool false, .slice none 0 0] := rowT
  have kT := (Keep.refl (· = w1.heap.size) w6).setCell (p := ⟨w1.heap.size, 5, none⟩) (fun _ => rfl) (.slice a5 y5.1.length cc5)
  replace rowR := rowR.keep kT (by omega)
  replace hr := hr'.keep kT (by omega) (fun b hb e => by have := hpl b hb; omega)
  replace kk := (kk.trans k5).then kT (fun i hi e => by omega)
  replace q3 := (rList_lawful rGValue_lawful).mono ((rList_lawful rGValue_lawful).keep q3 kT (fun b hb e => hb.2.2 e)) (fun b hb => (⟨hb.1, Nat.lt_of_lt_of_le hb.2.1 kT.size, hb.2.2⟩ : NewBut (w.heap.size + 1) w1.heap.size (w6.setCell ⟨w1.heap.size, 5, none⟩ (.slice a5 y5.1.length cc5)) b))
  replace q4 := (rList_lawful rGValue_lawful).mono ((rList_lawful rGValue_lawful).keep q4 kT (fun b hb e => hb.2.2 e)) (fun b hb => (⟨hb.1, Nat.lt_of_lt_of_le hb.2.1 kT.size, hb.2.2⟩ : NewBut (w.heap.size + 1) w1.heap.size (w6.setCell ⟨w1.heap.size, 5, none⟩ (.slice a5 y5.1.length cc5)) b))
  replace q5 := (rList_lawful rGSet_lawful).mono ((rList_lawful rGSet_lawful).keep q5 kT (fun b hb e => hb.2.2 e)) (fun b hb => (⟨hb.1, Nat.lt_of_lt_of_le hb.2.1 kT.size, hb.2.2⟩ : NewBut (w.heap.size + 1) w1.heap.size (w6.setCell ⟨w1.heap.size, 5, none⟩ (.slice a5 y5.1.length cc5)) b))
  clear hr' k5 kT rTl
  go_wp2_with fail
  clear xc0 xf0
  go_fit (ilValue_c x p _ _ hr (fun b hb => Nat.lt_of_lt_of_le (hpl b hb) kk.size))
  rintro e w7 ⟨v, rfl, q6, hr', k6⟩
  generalize hy6 : (pList pGValue) y5.2 = y6 at hr' q6
  replace hy6 := Lib.hid hy6
  obtain ⟨a6, cc6, hv, q6'⟩ := rList_open q6
  simp only [List.cons.injEq, and_true] at hv
  subst hv
  clear q6
  have q6 := q6'
  clear q6'
  have rTl := rowT.lt
  replace rowT := rowT.keep k6 (by omega)
  replace rowR := rowR.keep k6 (by omega)
  replace q3 := (rList_lawful rGValue_lawful).mono ((rList_lawful rGValue_lawful).keep q3 k6 (fun b hb e => by have := hb.1; omega)) (fun b hb => (⟨hb.1, Nat.lt_of_lt_of_le hb.2.1 k6.size, hb.2.2⟩ : NewBut (w.heap.size + 1) w1.heap.size w7 b))
  replace q4 := (rList_lawful rGValue_lawful).mono ((rList_lawful rGValue_lawful).keep q4 k6 (fun b hb e => by have := hb.1; omega)) (fun b hb => (⟨hb.1, Nat.lt_of_lt_of_le hb.2.1 k6.size, hb.2.2⟩ : NewBut (w.heap.size + 1) w1.heap.size w7 b))
  replace q5 := (rList_lawful rGSet_lawful).mono ((rList_lawful rGSet_lawful).keep q5 k6 (fun b hb e => by have := hb.1; omega)) (fun b hb => (⟨hb.1, Nat.lt_of_lt_of_le hb.2.1 k6.size, hb.2.2⟩ : NewBut (w.heap.size + 1) w1.heap.size w7 b))
  replace q6 := (rList_lawful rGValue_lawful).mono q6 (fun b hb => (⟨by have := hb.1; omega, hb.2, by have := hb.1; omega⟩ : NewBut (w.heap.size + 1) w1.heap.size w7 b))
  have xc0 : w7.cell? ⟨w1.heap.size, 6, none⟩ = some (.slice none 0 0) := rowT.cell 6
  have xf0 : w7.frozen? ⟨w1.heap.size, 6, none⟩ = false := rowT.frozen 6
  replace rowT := rowT.set 6 (.slice a6 y6.1.length cc6)
  replace rowT : RowIs (w7.setCell ⟨w1.heap.size, 6, none⟩ (.slice a6 y6.1.length cc6)) w1.heap.size 135 [.int .i64 y0.1, .string (strB y1.1), .string (strB y2.1), .slice a3 y3.1.length cc3, .slice a4 y4.1.length cc4, .slice a5 y5.1.length cc5, .slice a6 y6.1.length cc6, .slice none 0 0, .int .i64 0, .bool false, .slice none 0 0] := rowT
  have kT := (Keep.refl (· = w1.heap.size) w7).setCell (p := ⟨w1.heap.size, 6, none⟩) (fun _ => rfl) (.slice a6 y6.1.length cc6)
  replace rowR := rowR.keep kT (by omega)
  replace hr := hr'.keep kT (by omega) (fun b hb e => by have := hpl b hb; omega)
  replace kk := (kk.trans k6).then kT (fun i hi e => by omega)
  replace q3 := (rList_lawful rGValue_lawful).mono ((rList_lawful rGValue_lawful).keep q3 kT (fun b hb e => hb.2.2 e)) (fun b hb => (⟨hb.1, Nat.lt_of_lt_of_le hb.2.1 kT.size, hb.2.2⟩ : NewBut (w.heap.size + 1) w1.heap.size (w7.setCell ⟨w1.heap.size, 6, none⟩ (.slice a6 y6.1.length cc6)) b))
  replace q4 := (rList_lawful rGValue_lawful).mono ((rList_lawful rGValue_lawful).keep q4 kT (fun b hb e => hb.2.2 e)) (fun b hb => (⟨hb.1, Nat.lt_of_lt_of_le hb.2.1 kT.size, hb.2.2⟩ : NewBut (w.heap.size + 1) w1.heap.size (w7.setCell ⟨w1.heap.size, 6, none⟩ (.slice a6 y6.1.length cc6)) b))
  replace q5 := (rList_lawful rGSet_lawful).mono ((rList_lawful rGSet_lawful).keep q5 kT (fun b hb e => hb.2.2 e)) (fun b hb => (⟨hb.1, Nat.lt_of_lt_of_le hb.2.1 kT.size, hb.2.2⟩ : NewBut (w.heap.size + 1) w1.heap.size (w7.setCell ⟨w1.heap.size, 6, none⟩ (.slice a6 y6.1.length cc6)) b))
  replace q6 := (rList_lawful rGValue_lawful).mono ((rList_lawful rGValue_lawful).keep q6 kT (fun b hb e => hb.2.2 e)) (fun b hb => (⟨hb.1, Nat.lt_of_lt_of_le hb.2.1 kT.size, hb.2.2⟩ : NewBut (w.heap.size + 1) w1.heap.size (w7.setCell ⟨w1.heap.size, 6, none⟩ (.slice a6 y6.1.length cc6)) b))
  clear hr' k6 kT rTl
  go_wp2_with fail
  clear xc0 xf0
  go_fit (ilValue_c x p _ _ hr (fun b hb => Nat.lt_of_lt_of_le (hpl b hb) kk.size))
  rintro e w8 ⟨v, rfl, q7, hr', k7⟩
  generalize hy7 : (pList pGValue) y6.2 = y7 at hr' q7
  replace hy7 := Lib.hid hy7
  obtain ⟨a7, cc7, hv, q7'⟩ := rList_open q7
  simp only [List.cons.injEq, and_true] at hv
  subst hv
  clear q7
  have q7 := q7'
  clear q7'
  have rTl := rowT.lt
  replace rowT := rowT.keep k7 (by omega)
  replace rowR := rowR.keep k7 (by omega)
  replace q3 := (rList_lawful rGValue_lawful).mono ((rList_lawful rGValue_lawful).keep q3 k7 (fun b hb e => by have := hb.1; omega)) (fun b hb => (⟨hb.1, Nat.lt_of_lt_of_le hb.2.1 k7.size, hb.2.2⟩ : NewBut (w.heap.size + 1) w1.heap.size w8 b))
  replace q4 := (rList_lawful rGValue_lawful).mono ((rList_lawful rGValue_lawful).keep q4 k7 (fun b hb e => by have := hb.1; omega)) (fun b hb => (⟨hb.1, Nat.lt_of_lt_of_le hb.2.1 k7.size, hb.2.2⟩ : NewBut (w.heap.size + 1) w1.heap.size w8 b))
  replace q5 := (rList_lawful rGSet_lawful).mono ((rList_lawful rGSet_lawful).keep q5 k7 (fun b hb e => by have := hb.1; omega)) (fun b hb => (⟨hb.1, Nat.lt_of_lt_of_le hb.2.1 k7.size, hb.2.2⟩ : NewBut (w.heap.size + 1) w1.heap.size w8 b))
  replace q6 := (rList_lawful rGValue_lawful).mono ((rList_lawful rGValue_lawful).keep q6 k7 (fun b hb e => by have := hb.1; omega)) (fun b hb => (⟨hb.1, Nat.lt_of_lt_of_le hb.2.1 k7.size, hb.2.2⟩ : NewBut (w.heap.size + 1) w1.heap.size w8 b))
  replace q7 := (rList_lawful rGValue_lawful).mono q7 (fun b hb => (⟨by have := hb.1; omega, hb.2, by have := hb.1; omega⟩ : NewBut (w.heap.size + 1) w1.heap.size w8 b))
  have xc0 : w8.cell? ⟨w1.heap.size, 7, none⟩ = some (.slice none 0 0) := rowT.cell 7
  have xf0 : w8.frozen? ⟨w1.heap.size, 7, none⟩ = false := rowT.frozen 7
  replace rowT := rowT.set 7 (.slice a7 y7.1.length cc7)
  replace rowT : RowIs (w8.setCell ⟨w1.heap.size, 7, none⟩ (.slice a7 y7.1.length cc7)) w1.heap.size 135 [.int .i64 y0.1, .string (strB y1.1), .string (strB y2.1), .slice a3 y3.1.length cc3, .slice a4 y4.1.length cc4, .slice a5 y5.1.length cc5, .slice a6 y6.1.length cc6, .slice a7 y7.1.length cc7, .int .i64 0, .bool false, .slice none 0 0] := rowT
  have kT := (Keep.refl (· = w1.heap.size) w8).setCell (p := ⟨w1.heap.size, 7, none⟩) (fun _ => rfl) (.slice a7 y7.1.length cc7)
  replace rowR := rowR.keep kT (by omega)
  replace hr := hr'.keep kT (by omega) (fun b hb e => by have := hpl b hb; omega)
  replace kk := (kk.trans k7).then kT (fun i hi e => by omega)
  replace q3 := (rList_lawful rGValue_lawful).mono ((rList_lawful rGValue_lawful).keep q3 kT (fun b hb e => hb.2.2 e)) (fun b hb => (⟨hb.1, Nat.lt_of_lt_of_le hb.2.1 kT.size, hb.2.2⟩ : NewBut (w.heap.size + 1) w1.heap.size (w8.setCell ⟨w1.heap.size, 7, none⟩ (.slice a7 y7.1.length cc7)) b))
  replace q4 := (rList_lawful rGValue_lawful).mono ((rList_lawful rGValue_lawful).keep q4 kT (fun b hb e => hb.2.2 e)) (fun b hb => (⟨hb.1, Nat.lt_of_lt_of_le hb.2.1 kT.size, hb.2.2⟩ : NewBut (w.heap.size + 1) w1.heap.size (w8.setCell ⟨w1.heap.size, 7, none⟩ (.slice a7 y7.1.length cc7)) b))
  replace q5 := (rList_lawful rGSet_lawful).mono ((rList_lawful rGSet_lawful).keep q5 kT (fun b hb e => hb.2.2 e)) (fun b hb => (⟨hb.1, Nat.lt_of_lt_of_le hb.2.1 kT.size, hb.2.2⟩ : NewBut (w.heap.size + 1) w1.heap.size (w8.setCell ⟨w1.heap.size, 7, none⟩ (.slice a7 y7.1.length cc7)) b))
  replace q6 := (rList_lawful rGValue_lawful).mono ((rList_lawful rGValue_lawful).keep q6 kT (fun b hb e => hb.2.2 e)) (fun b hb => (⟨hb.1, Nat.lt_of_lt_of_le hb.2.1 kT.size, hb.2.2⟩ : NewBut (w.heap.size + 1) w1.heap.size (w8.setCell ⟨w1.heap.size, 7, none⟩ (.slice a7 y7.1.length cc7)) b))
  replace q7 := (rList_lawful rGValue_lawful).mono ((rList_lawful rGValue_lawful).keep q7 kT (fun b hb e => hb.2.2 e)) (fun b hb => (⟨hb.1, Nat.lt_of_lt_of_le hb.2.1 kT.size, hb.2.2⟩ : NewBut (w.heap.size + 1) w1.heap.size (w8.setCell ⟨w1.heap.size, 7, none⟩ (.slice a7 y7.1.length cc7)) b))
  clear hr' k7 kT rTl
  go_wp2_with fail
  clear xc0 xf0
  go_fit (iint_g x p _ _ hr)
  rintro e w9 ⟨rfl, hr', k8⟩
  have wf8 : Hid ((Lit.int .i64 (pInt y7.2).1).wf = true) := zag_wf (numS_lt maxU _)
  generalize hy8 : pInt y7.2 = y8 at hr' wf8 ⊢
  replace hy8 := Lib.hid hy8
  have rTl := rowT.lt
  replace rowT := rowT.keep k8 (by omega)
  replace rowR := rowR.keep k8 (by omega)
  replace q3 := (rList_lawful rGValue_lawful).mono ((rList_lawful rGValue_lawful).keep q3 k8 (fun b hb e => by have := hb.1; omega)) (fun b hb => (⟨hb.1, Nat.lt_of_lt_of_le hb.2.1 k8.size, hb.2.2⟩ : NewBut (w.heap.size + 1) w1.heap.size w9 b))
  replace q4 := (rList_lawful rGValue_lawful).mono ((rList_lawful rGValue_lawful).keep q4 k8 (fun b hb e => by have := hb.1; omega)) (fun b hb => (⟨hb.1, Nat.lt_of_lt_of_le hb.2.1 k8.size, hb.2.2⟩ : NewBut (w.heap.size + 1) w1.heap.size w9 b))
  replace q5 := (rList_lawful rGSet_lawful).mono ((rList_lawful rGSet_lawful).keep q5 k8 (fun b hb e => by have := hb.1; omega)) (fun b hb => (⟨hb.1, Nat.lt_of_lt_of_le hb.2.1 k8.size, hb.2.2⟩ : NewBut (w.heap.size + 1) w1.heap.size w9 b))
  replace q6 := (rList_lawful rGValue_lawful).mono ((rList_lawful rGValue_lawful).keep q6 k8 (fun b hb e => by have := hb.1; omega)) (fun b hb => (⟨hb.1, Nat.lt_of_lt_of_le hb.2.1 k8.size, hb.2.2⟩ : NewBut (w.heap.size + 1) w1.heap.size w9 b))
  replace q7 := (rList_lawful rGValue_lawful).mono ((rList_lawful rGValue_lawful).keep q7 k8 (fun b hb e => by have := hb.1; omega)) (fun b hb => (⟨hb.1, Nat.lt_of_lt_of_le hb.2.1 k8.size, hb.2.2⟩ : NewBut (w.heap.size + 1) w1.heap.size w9 b))
  have xc0 : w9.cell? ⟨w1.heap.size, 8, none⟩ = some (.int .i64 0) := rowT.cell 8
  have xf0 : w9.frozen? ⟨w1.heap.size, 8, none⟩ = false := rowT.frozen 8
  replace rowT := rowT.set 8 (.int .i64 y8.1)
  replace rowT : RowIs (w9.setCell ⟨w1.heap.size, 8, none⟩ (.int .i64 y8.1)) w1.heap.size 135 [.int .i64 y0.1, .string (strB y1.1), .string (strB y2.1), .slice a3 y3.1.length cc3, .slice a4 y4.1.length cc4, .slice a5 y5.1.length cc5, .slice a6 y6.1.length cc6, .slice a7 y7.1.length cc7, .int .i64 y8.1, .bool false, .slice none 0 0] := rowT
  have kT := (Keep.refl (· = w1.heap.size) w9).setCell (p := ⟨w1.heap.size, 8, none⟩) (fun _ => rfl) (.int .i64 y8.1)
  replace rowR := rowR.keep kT (by omega)
  replace hr := hr'.keep kT (by omega) (fun b hb e => by have := hpl b hb; omega)
  replace kk := (kk.trans k8).then kT (fun i hi e => by omega)
  replace q3 := (rList_lawful rGValue_lawful).mono ((rList_lawful rGValue_lawful).keep q3 kT (fun b hb e => hb.2.2 e)) (fun b hb => (⟨hb.1, Nat.lt_of_lt_of_le hb.2.1 kT.size, hb.2.2⟩ : NewBut (w.heap.size + 1) w1.heap.size (w9.setCell ⟨w1.heap.size, 8, none⟩ (.int .i64 y8.1)) b))
  replace q4 := (rList_lawful rGValue_lawful).mono ((rList_lawful rGValue_lawful).keep q4 kT (fun b hb e => hb.2.2 e)) (fun b hb => (⟨hb.1, Nat.lt_of_lt_of_le hb.2.1 kT.size, hb.2.2⟩ : NewBut (w.heap.size + 1) w1.heap.size (w9.setCell ⟨w1.heap.size, 8, none⟩ (.int .i64 y8.1)) b))
  replace q5 := (rList_lawful rGSet_lawful).mono ((rList_lawful rGSet_lawful).keep q5 kT (fun b hb e => hb.2.2 e)) (fun b hb => (⟨hb.1, Nat.lt_of_lt_of_le hb.2.1 kT.size, hb.2.2⟩ : NewBut (w.heap.size + 1) w1.heap.size (w9.setCell ⟨w1.heap.size, 8, none⟩ (.int .i64 y8.1)) b))
  replace q6 := (rList_lawful rGValue_lawful).mono ((rList_lawful rGValue_lawful).keep q6 kT (fun b hb e => hb.2.2 e)) (fun b hb => (⟨hb.1, Nat.lt_of_lt_of_le hb.2.1 kT.size, hb.2.2⟩ : NewBut (w.heap.size + 1) w1.heap.size (w9.setCell ⟨w1.heap.size, 8, none⟩ (.int .i64 y8.1)) b))
  replace q7 := (rList_lawful rGValue_lawful).mono ((rList_lawful rGValue_lawful).keep q7 kT (fun b hb e => hb.2.2 e)) (fun b hb => (⟨hb.1, Nat.lt_of_lt_of_le hb.2.1 kT.size, hb.2.2⟩ : NewBut (w.heap.size + 1) w1.heap.size (w9.setCell ⟨w1.heap.size, 8, none⟩ (.int .i64 y8.1)) b))
  clear hr' k8 kT rTl
  go_wp2_with fail
  clear xc0 xf0
  go_fit (ibool_g x p _ _ hr)
  rintro e w10 ⟨rfl, hr', k9⟩
  generalize hy9 : pFlag y8.2 = y9 at hr' ⊢
  replace hy9 := Lib.hid hy9
  have rTl := rowT.lt
  replace rowT := rowT.keep k9 (by omega)
  replace rowR := rowR.keep k9 (by omega)
  replace q3 := (rList_lawful rGValue_lawful).mono ((rList_lawful rGValue_lawful).keep q3 k9 (fun b hb e => by have := hb.1; omega)) (fun b hb => (⟨hb.1, Nat.lt_of_lt_of_le hb.2.1 k9.size, hb.2.2⟩ : NewBut (w.heap.size + 1) w1.heap.size w10 b))
  replace q4 := (rList_lawful rGValue_lawful).mono ((rList_lawful rGValue_lawful).keep q4 k9 (fun b hb e => by have := hb.1; omega)) (fun b hb => (⟨hb.1, Nat.lt_of_lt_of_le hb.2.1 k9.size, hb.2.2⟩ : NewBut (w.heap.size + 1) w1.heap.size w10 b))
  replace q5 := (rList_lawful rGSet_lawful).mono ((rList_lawful rGSet_lawful).keep q5 k9 (fun b hb e => by have := hb.1; omega)) (fun b hb => (⟨hb.1, Nat.lt_of_lt_of_le hb.2.1 k9.size, hb.2.2⟩ : NewBut (w.heap.size + 1) w1.heap.size w10 b))
  replace q6 := (rList_lawful rGValue_lawful).mono ((rList_lawful rGValue_lawful).keep q6 k9 (fun b hb e => by have := hb.1; omega)) (fun b hb => (⟨hb.1, Nat.lt_of_lt_of_le hb.2.1 k9.size, hb.2.2⟩ : NewBut (w.heap.size + 1) w1.heap.size w10 b))
  replace q7 := (rList_lawful rGValue_lawful).mono ((rList_lawful rGValue_lawful).keep q7 k9 (fun b hb e => by have := hb.1; omega)) (fun b hb => (⟨hb.1, Nat.lt_of_lt_of_le hb.2.1 k9.size, hb.2.2⟩ : NewBut (w.heap.size + 1) w1.heap.size w10 b))
  have xc0 : w10.cell? ⟨w1.heap.size, 9, none⟩ = some (.bool false) := rowT.cell 9
  have xf0 : w10.frozen? ⟨w1.heap.size, 9, none⟩ = false := rowT.frozen 9
  replace rowT := rowT.set 9 (.bool y9.1)
  replace rowT : RowIs (w10.setCell ⟨w1.heap.size, 9, none⟩ (.bool y9.1)) w1.heap.size 135 [.int .i64 y0.1, .string (strB y1.1), .string (strB y2.1), .slice a3 y3.1.length cc3, .slice a4 y4.1.length cc4, .slice a5 y5.1.length cc5, .slice a6 y6.1.length cc6, .slice a7 y7.1.length cc7, .int .i64 y8.1, .bool y9.1, .slice none 0 0] := rowT
  have kT := (Keep.refl (· = w1.heap.size) w10).setCell (p := ⟨w1.heap.size, 9, none⟩) (fun _ => rfl) (.bool y9.1)
  replace rowR := rowR.keep kT (by omega)
  replace hr := hr'.keep kT (by omega) (fun b hb e => by have := hpl b hb; omega)
  replace kk := (kk.trans k9).then kT (fun i hi e => by omega)
  replace q3 := (rList_lawful rGValue_lawful).mono ((rList_lawful rGValue_lawful).keep q3 kT (fun b hb e => hb.2.2 e)) (fun b hb => (⟨hb.1, Nat.lt_of_lt_of_le hb.2.1 kT.size, hb.2.2⟩ : NewBut (w.heap.size + 1) w1.heap.size (w10.setCell ⟨w1.heap.size, 9, none⟩ (.bool y9.1)) b))
  replace q4 := (rList_lawful rGValue_lawful).mono ((rList_lawful rGValue_lawful).keep q4 kT (fun b hb e => hb.2.2 e)) (fun b hb => (⟨hb.1, Nat.lt_of_lt_of_le hb.2.1 kT.size, hb.2.2⟩ : NewBut (w.heap.size + 1) w1.heap.size (w10.setCell ⟨w1.heap.size, 9, none⟩ (.bool y9.1)) b))
  replace q5 := (rList_lawful rGSet_lawful).mono ((rList_lawful rGSet_lawful).keep q5 kT (fun b hb e => hb.2.2 e)) (fun b hb => (⟨hb.1, Nat.lt_of_lt_of_le hb.2.1 kT.size, hb.2.2⟩ : NewBut (w.heap.size + 1) w1.heap.size (w10.setCell ⟨w1.heap.size, 9, none⟩ (.bool y9.1)) b))
  replace q6 := (rList_lawful rGValue_lawful).mono ((rList_lawful rGValue_lawful).keep q6 kT (fun b hb e => hb.2.2 e)) (fun b hb => (⟨hb.1, Nat.lt_of_lt_of_le hb.2.1 kT.size, hb.2.2⟩ : NewBut (w.heap.size + 1) w1.heap.size (w10.setCell ⟨w1.heap.size, 9, none⟩ (.bool y9.1)) b))
  replace q7 := (rList_lawful rGValue_lawful).mono ((rList_lawful rGValue_lawful).keep q7 kT (fun b hb e => hb.2.2 e)) (fun b hb => (⟨hb.1, Nat.lt_of_lt_of_le hb.2.1 kT.size, hb.2.2⟩ : NewBut (w.heap.size + 1) w1.heap.size (w10.setCell ⟨w1.heap.size, 9, none⟩ (.bool y9.1)) b))
  clear hr' k9 kT rTl
  go_wp2_with fail
  clear xc0 xf0
  go_fit (ilbytes_c x p _ _ hr (fun b hb => Nat.lt_of_lt_of_le (hpl b hb) kk.size))
  rintro e w11 ⟨v, rfl, q10, hr', k10⟩
  generalize hy10 : (pList pBytes) y9.2 = y10 at hr' q10
  replace hy10 := Lib.hid hy10
  obtain ⟨a10, cc10, hv, q10'⟩ := rList_open q10
  simp only [List.cons.injEq, and_true] at hv
  subst hv
  clear q10
  have q10 := q10'
  clear q10'
  have rTl := rowT.lt
  replace rowT := rowT.keep k10 (by omega)
  replace rowR := rowR.keep k10 (by omega)
  replace q3 := (rList_lawful rGValue_lawful).mono ((rList_lawful rGValue_lawful).keep q3 k10 (fun b hb e => by have := hb.1; omega)) (fun b hb => (⟨hb.1, Nat.lt_of_lt_of_le hb.2.1 k10.size, hb.2.2⟩ : NewBut (w.heap.size + 1) w1.heap.size w11 b))
  replace q4 := (rList_lawful rGValue_lawful).mono ((rList_lawful rGValue_lawful).keep q4 k10 (fun b hb e => by have := hb.1; omega)) (fun b hb => (⟨hb.1, Nat.lt_of_lt_of_le hb.2.1 k10.size, hb.2.2⟩ : NewBut (w.heap.size + 1) w1.heap.size w11 b))
  replace q5 := (rList_lawful rGSet_lawful).mono ((rList_lawful rGSet_lawful).keep q5 k10 (fun b hb e => by have := hb.1; omega)) (fun b hb => (⟨hb.1, Nat.lt_of_lt_of_le hb.2.1 k10.size, hb.2.2⟩ : NewBut (w.heap.size + 1) w1.heap.size w11 b))
  replace q6 := (rList_lawful rGValue_lawful).mono ((rList_lawful rGValue_lawful).keep q6 k10 (fun b hb e => by have := hb.1; omega)) (fun b hb => (⟨hb.1, Nat.lt_of_lt_of_le hb.2.1 k10.size, hb.2.2⟩ : NewBut (w.heap.size + 1) w1.heap.size w11 b))
  replace q7 := (rList_lawful rGValue_lawful).mono ((rList_lawful rGValue_lawful).keep q7 k10 (fun b hb e => by have := hb.1; omega)) (fun b hb => (⟨hb.1, Nat.lt_of_lt_of_le hb.2.1 k10.size, hb.2.2⟩ : NewBut (w.heap.size + 1) w1.heap.size w11 b))
  replace q10 := (rList_lawful rBytes_lawful).mono q10 (fun b hb => (⟨by have := hb.1; omega, hb.2, by have := hb.1; omega⟩ : NewBut (w.heap.size + 1) w1.heap.size w11 b))
  have xc0 : w11.cell? ⟨w1.heap.size, 10, none⟩ = some (.slice none 0 0) := rowT.cell 10
  have xf0 : w11.frozen? ⟨w1.heap.size, 10, none⟩ = false := rowT.frozen 10
  replace rowT := rowT.set 10 (.slice a10 y10.1.length cc10)
  replace rowT : RowIs (w11.setCell ⟨w1.heap.size, 10, none⟩ (.slice a10 y10.1.length cc10)) w1.heap.size 135 [.int .i64 y0.1, .string (strB y1.1), .string (strB y2.1), .slice a3 y3.1.length cc3, .slice a4 y4.1.length cc4, .slice a5 y5.1.length cc5, .slice a6 y6.1.length cc6, .slice a7 y7.1.length cc7, .int .i64 y8.1, .bool y9.1, .slice a10 y10.1.length cc10] := rowT
  have kT := (Keep.refl (· = w1.heap.size) w11).setCell (p := ⟨w1.heap.size, 10, none⟩) (fun _ => rfl) (.slice a10 y10.1.length cc10)
  replace rowR := rowR.keep kT (by omega)
  replace hr := hr'.keep kT (by omega) (fun b hb e => by have := hpl b hb; omega)
  replace kk := (kk.trans k10).then kT (fun i hi e => by omega)
  replace q3 := (rList_lawful rGValue_lawful).mono ((rList_lawful rGValue_lawful).keep q3 kT (fun b hb e => hb.2.2 e)) (fun b hb => (⟨hb.1, Nat.lt_of_lt_of_le hb.2.1 kT.size, hb.2.2⟩ : NewBut (w.heap.size + 1) w1.heap.size (w11.setCell ⟨w1.heap.size, 10, none⟩ (.slice a10 y10.1.length cc10)) b))
  replace q4 := (rList_lawful rGValue_lawful).mono ((rList_lawful rGValue_lawful).keep q4 kT (fun b hb e => hb.2.2 e)) (fun b hb => (⟨hb.1, Nat.lt_of_lt_of_le hb.2.1 kT.size, hb.2.2⟩ : NewBut (w.heap.size + 1) w1.heap.size (w11.setCell ⟨w1.heap.size, 10, none⟩ (.slice a10 y10.1.length cc10)) b))
  replace q5 := (rList_lawful rGSet_lawful).mono ((rList_lawful rGSet_lawful).keep q5 kT (fun b hb e => hb.2.2 e)) (fun b hb => (⟨hb.1, Nat.lt_of_lt_of_le hb.2.1 kT.size, hb.2.2⟩ : NewBut (w.heap.size + 1) w1.heap.size (w11.setCell ⟨w1.heap.size, 10, none⟩ (.slice a10 y10.1.length cc10)) b))
  replace q6 := (rList_lawful rGValue_lawful).mono ((rList_lawful rGValue_lawful).keep q6 kT (fun b hb e => hb.2.2 e)) (fun b hb => (⟨hb.1, Nat.lt_of_lt_of_le hb.2.1 kT.size, hb.2.2⟩ : NewBut (w.heap.size + 1) w1.heap.size (w11.setCell ⟨w1.heap.size, 10, none⟩ (.slice a10 y10.1.length cc10)) b))
  replace q7 := (rList_lawful rGValue_lawful).mono ((rList_lawful rGValue_lawful).keep q7 kT (fun b hb e => hb.2.2 e)) (fun b hb => (⟨hb.1, Nat.lt_of_lt_of_le hb.2.1 kT.size, hb.2.2⟩ : NewBut (w.heap.size + 1) w1.heap.size (w11.setCell ⟨w1.heap.size, 10, none⟩ (.slice a10 y10.1.length cc10)) b))
  replace q10 := (rList_lawful rBytes_lawful).mono ((rList_lawful rBytes_lawful).keep q10 kT (fun b hb e => hb.2.2 e)) (fun b hb => (⟨hb.1, Nat.lt_of_lt_of_le hb.2.1 kT.size, hb.2.2⟩ : NewBut (w.heap.size + 1) w1.heap.size (w11.setCell ⟨w1.heap.size, 10, none⟩ (.slice a10 y10.1.length cc10)) b))
  clear hr' k10 kT rTl
  replace rowT : RowIs (w11.setCell ⟨w1.heap.size, 10, none⟩ (.slice a10 y10.1.length cc10)) w1.heap.size 135 [.int .i64 y0.1, .string (strB y1.1), .string (strB y2.1), .slice a3 y3.1.length cc3, .slice a4 y4.1.length cc4, .slice a5 y5.1.length cc5, .slice a6 y6.1.length cc6, .slice a7 y7.1.length cc7, .int .i64 y8.1, .bool y9.1, .slice a10 y10.1.length cc10] := rowT
  have hld : (wholeSem 135 (.pointer (some ⟨w1.heap.size, 0, none⟩))).run Tryz.prog (w11.setCell ⟨w1.heap.size, 10, none⟩ (.slice a10 y10.1.length cc10)) = .ok (.value (.agg #[.int .i64 y0.1, .string (strB y1.1), .string (strB y2.1), .slice a3 y3.1.length cc3, .slice a4 y4.1.length cc4, .slice a5 y5.1.length cc5, .slice a6 y6.1.length cc6, .slice a7 y7.1.length cc7, .int .i64 y8.1, .bool y9.1, .slice a10 y10.1.length cc10])) (w11.setCell ⟨w1.heap.size, 10, none⟩ (.slice a10 y10.1.length cc10)) := Whole.row S_Op rfl rowT
  have hst := store_run (P := Tryz.prog) (cs := [.int .i64 y0.1, .string (strB y1.1), .string (strB y2.1), .slice a3 y3.1.length cc3, .slice a4 y4.1.length cc4, .slice a5 y5.1.length cc5, .slice a6 y6.1.length cc6, .slice a7 y7.1.length cc7, .int .i64 y8.1, .bool y9.1, .slice a10 y10.1.length cc10]) S_Op rowR rfl rfl rfl
  have rowF := rowR.setRow [.int .i64 y0.1, .string (strB y1.1), .string (strB y2.1), .slice a3 y3.1.length cc3, .slice a4 y4.1.length cc4, .slice a5 y5.1.length cc5, .slice a6 y6.1.length cc6, .slice a7 y7.1.length cc7, .int .i64 y8.1, .bool y9.1, .slice a10 y10.1.length cc10]
  have kS := (Keep.refl (· = w.heap.size) (w11.setCell ⟨w1.heap.size, 10, none⟩ (.slice a10 y10.1.length cc10))).setRow (fun _ => rfl) (#[.int .i64 y0.1, .string (strB y1.1), .string (strB y2.1), .slice a3 y3.1.length cc3, .slice a4 y4.1.length cc4, .slice a5 y5.1.length cc5, .slice a6 y6.1.length cc6, .slice a7 y7.1.length cc7, .int .i64 y8.1, .bool y9.1, .slice a10 y10.1.length cc10] : Array Value)
  have HE : Hid (pGOp s = (⟨y0.1, y1.1, y2.1, y3.1, y4.1, y5.1, y6.1, y7.1, y8.1, y9.1, y10.1⟩, y10.2)) := by show _ = _; simp only [pGOp, hy0.out, hy1.out, hy2.out, hy3.out, hy4.out, hy5.out, hy6.out, hy7.out, hy8.out, hy9.out, hy10.out]
  go_wp2_with fail
  refine bodyPost_ret (results_cell_row (by rfl) _ _ _ _ _ _ _ (by rfl) rowF Tryz.underlying135 (by rfl) S_Op.info) rfl ?_
  rw [HE.out]
  replace q3 := (rList_lawful rGValue_lawful).mono ((rList_lawful rGValue_lawful).keep q3 kS (fun b hb e => by have := hb.1; omega)) (fun b hb => (⟨by have := hb.1; omega, Nat.lt_of_lt_of_le hb.2.1 kS.size⟩ : NewIn w ((w11.setCell ⟨w1.heap.size, 10, none⟩ (.slice a10 y10.1.length cc10)).setRow w.heap.size #[.int .i64 y0.1, .string (strB y1.1), .string (strB y2.1), .slice a3 y3.1.length cc3, .slice a4 y4.1.length cc4, .slice a5 y5.1.length cc5, .slice a6 y6.1.length cc6, .slice a7 y7.1.length cc7, .int .i64 y8.1, .bool y9.1, .slice a10 y10.1.length cc10]) b))
  replace q4 := (rList_lawful rGValue_lawful).mono ((rList_lawful rGValue_lawful).keep q4 kS (fun b hb e => by have := hb.1; omega)) (fun b hb => (⟨by have := hb.1; omega, Nat.lt_of_lt_of_le hb.2.1 kS.size⟩ : NewIn w ((w11.setCell ⟨w1.heap.size, 10, none⟩ (.slice a10 y10.1.length cc10)).setRow w.heap.size #[.int .i64 y0.1, .string (strB y1.1), .string (strB y2.1), .slice a3 y3.1.length cc3, .slice a4 y4.1.length cc4, .slice a5 y5.1.length cc5, .slice a6 y6.1.length cc6, .slice a7 y7.1.length cc7, .int .i64 y8.1, .bool y9.1, .slice a10 y10.1.length cc10]) b))
  replace q5 := (rList_lawful rGSet_lawful).mono ((rList_lawful rGSet_lawful).keep q5 kS (fun b hb e => by have := hb.1; omega)) (fun b hb => (⟨by have := hb.1; omega, Nat.lt_of_lt_of_le hb.2.1 kS.size⟩ : NewIn w ((w11.setCell ⟨w1.heap.size, 10, none⟩ (.slice a10 y10.1.length cc10)).setRow w.heap.size #[.int .i64 y0.1, .string (strB y1.1), .string (strB y2.1), .slice a3 y3.1.length cc3, .slice a4 y4.1.length cc4, .slice a5 y5.1.length cc5, .slice a6 y6.1.length cc6, .slice a7 y7.1.length cc7, .int .i64 y8.1, .bool y9.1, .slice a10 y10.1.length cc10]) b))
  replace q6 := (rList_lawful rGValue_lawful).mono ((rList_lawful rGValue_lawful).keep q6 kS (fun b hb e => by have := hb.1; omega)) (fun b hb => (⟨by have := hb.1; omega, Nat.lt_of_lt_of_le hb.2.1 kS.size⟩ : NewIn w ((w11.setCell ⟨w1.heap.size, 10, none⟩ (.slice a10 y10.1.length cc10)).setRow w.heap.size #[.int .i64 y0.1, .string (strB y1.1), .string (strB y2.1), .slice a3 y3.1.length cc3, .slice a4 y4.1.length cc4, .slice a5 y5.1.length cc5, .slice a6 y6.1.length cc6, .slice a7 y7.1.length cc7, .int .i64 y8.1, .bool y9.1, .slice a10 y10.1.length cc10]) b))
  replace q7 := (rList_lawful rGValue_lawful).mono ((rList_lawful rGValue_lawful).keep q7 kS (fun b hb e => by have := hb.1; omega)) (fun b hb => (⟨by have := hb.1; omega, Nat.lt_of_lt_of_le hb.2.1 kS.size⟩ : NewIn w ((w11.setCell ⟨w1.heap.size, 10, none⟩ (.slice a10 y10.1.length cc10)).setRow w.heap.size #[.int .i64 y0.1, .string (strB y1.1), .string (strB y2.1), .slice a3 y3.1.length cc3, .slice a4 y4.1.length cc4, .slice a5 y5.1.length cc5, .slice a6 y6.1.length cc6, .slice a7 y7.1.length cc7, .int .i64 y8.1, .bool y9.1, .slice a10 y10.1.length cc10]) b))
  replace q10 := (rList_lawful rBytes_lawful).mono ((rList_lawful rBytes_lawful).keep q10 kS (fun b hb e => by have := hb.1; omega)) (fun b hb => (⟨by have := hb.1; omega, Nat.lt_of_lt_of_le hb.2.1 kS.size⟩ : NewIn w ((w11.setCell ⟨w1.heap.size, 10, none⟩ (.slice a10 y10.1.length cc10)).setRow w.heap.size #[.int .i64 y0.1, .string (strB y1.1), .string (strB y2.1), .slice a3 y3.1.length cc3, .slice a4 y4.1.length cc4, .slice a5 y5.1.length cc5, .slice a6 y6.1.length cc6, .slice a7 y7.1.length cc7, .int .i64 y8.1, .bool y9.1, .slice a10 y10.1.length cc10]) b))
  exact ⟨[.int .i64 y0.1, .string (strB y1.1), .string (strB y2.1), .slice a3 y3.1.length cc3, .slice a4 y4.1.length cc4, .slice a5 y5.1.length cc5, .slice a6 y6.1.length cc6, .slice a7 y7.1.length cc7, .int .i64 y8.1, .bool y9.1, .slice a10 y10.1.length cc10], rfl, ⟨[.int .i64 y0.1], [.string (strB y1.1)], [.string (strB y2.1)], [.slice a3 y3.1.length cc3], [.slice a4 y4.1.length cc4], [.slice a5 y5.1.length cc5], [.slice a6 y6.1.length cc6], [.slice a7 y7.1.length cc7], [.int .i64 y8.1], [.bool y9.1], [.slice a10 y10.1.length cc10], rfl, ⟨rfl, wf0.out⟩, ⟨rfl, wf1.out⟩, ⟨rfl, wf2.out⟩, q3, q4, q5, q6, q7, ⟨rfl, wf8.out⟩, rfl, q10⟩, rfl, hr.keep kS (by omega) (fun b hb e => by have := hpl b hb; omega), kk.then kS (fun i hi e => by omega)⟩
end
section
attribute [local go_sem ↓] ls_Op
set_option maxRecDepth 100000 in
set_option maxHeartbeats 4000000 in
theorem ilOp_c (x : Nat) (p : Nat → Prop) (s : RdS) (w : World) (h : IsIn w x p s) (hpl : ∀ b, p b → b < w.heap.size) :
    Calls Tryz.prog 56 #[.pointer (some ⟨x, 0, none⟩)] w (GotV (rList rGOp) x p w (pList pGOp s)) := by
  have hlt := h.lt
  have hle := numS_le 5000 s
  go_enter Tryz.func56, Tryz.ntmps56
  go_wp2_with fail
  go_fit (imany_g x p s w h)
  rintro e w1 ⟨rfl, h1, k1⟩
  have HP : Hid (pList pGOp s = pMany pGOp (numS 5000 s).1 (numS 5000 s).2) := rfl
  clear h
  generalize numS 5000 s = N at h1 HP hle ⊢
  have hsz0 := k1.size
  go_wp2_with fail
  go_loopw [3, 5] (fun l i wr => ∃ (xs : List GOp) (css : List (List Value)) (s' : RdS) (a : Option Addr) (cap : Nat), l = .slice a xs.length cap ∧ i = .int .i64 xs.length ∧ xs.length ≤ N.1 ∧ Hid (pMany pGOp N.1 N.2 = (xs ++ (pMany pGOp (N.1 - xs.length) s').1, (pMany pGOp (N.1 - xs.length) s').2)) ∧
      wr.ownsRow w.heap.size 135 11 (.slice a xs.length cap) xs.length css.flatten ∧ Els rGOp wr (fun b => NewIn w wr b ∧ ¬ OwnB (.slice a xs.length cap) b) css xs ∧ IsIn wr x p s' ∧ Keep (· = x) w wr) (fun _ i _ => N.1 - (intOf i).toNat)
  case atStart => exact ⟨[], [], N.2, none, 0, rfl, rfl, Nat.zero_le _, rfl, World.ownsRow_nil _ _ _ _, Els.nil _ _ _, h1, k1⟩
  case round =>
    clear h1 k1 hsz0
    obtain ⟨xs, css, s', a, cap, rfl, rfl, hk, hp, own, els, hr, kk⟩ := hrel
    have hwr := kk.size
    have hfar : xs.length ≤ far := by unfold far; omega
    by_cases hlt2 : xs.length < N.1
    · have hdec : decide (xs.length < N.1) = true := decide_eq_true hlt2
      go_wp2_with fail
      go_fit (fault_c x p s' wr hr)
      rintro e w2 ⟨rfl, rfl⟩
      rcases test_eq s'.e 0 with ⟨ht, he⟩ | ⟨ht, he⟩
      · have t' : (s'.e != 0) = false := by simp [he.out]
        go_wp2_with fail
        go_fit (iOp_c x p s' wr hr (fun b hb => Nat.lt_of_lt_of_le (hpl b hb) hwr))
        rintro e w3 ⟨c, rfl, hc, h1c, hr3, k3⟩
        have hlc := rGOp_lawful.len hc
        have hls := list_run (P := Tryz.prog) T_lOp (by decide) c hlc w3
        have own3 := owned_keep own k3 (fun b hb e => by have := (own.lt b hb).1; omega)
        have kk3 := kk.trans k3
        have hsz3 := k3.size
        have hol : ∀ b, OwnB (.slice a xs.length cap) b → b < wr.heap.size := fun b hb => (own.lt b hb).2
        have hHP : Hid (pMany pGOp (N.1 - xs.length) s' = ((pGOp s').1 :: (pMany pGOp (N.1 - (xs.length + 1)) (pGOp s').2).1, (pMany pGOp (N.1 - (xs.length + 1)) (pGOp s').2).2)) := by
          show _ = _
          rw [show N.1 - xs.length = (N.1 - (xs.length + 1)) + 1 by omega, pMany, if_pos he.out]
        clear own hr hdec
        go_wp2_with (at_builtin; refine wpl_append1_at T_lOp rfl (.tmp 18) (.tmp 21) rfl w.heap.size rfl own3 rfl ?c0 ?c1 ?c2 ?c3 ?c4 ?_)
        case c0 => simpa using hlc
        case c1 => first | (simpa [ones] using h1c) | (intro u hu; exact (List.all_eq_true.1 h1c) u (by simpa using hu))
        case c2 => unfold maxLen; omega
        case c3 => omega
        case c4 => omega
        intro a' cap' w4 own4 k4 hfresh
        have els4 := els.push rGOp_lawful hc k3 k4 hlt hwr hol hfresh
        have hr4 : IsIn w4 x p (pGOp s').2 := hr3.keep k4 (fun hb => by have := (own3.lt _ hb).1; omega) (fun b hb hb2 => by have := (own3.lt _ hb2).1; have := hpl b hb; omega)
        have kk4 : Keep (· = x) w w4 := kk3.then k4 (fun i hi hb => by have := (own3.lt _ hb).1; omega)
        clear own3 els hr3 kk3 k3 k4 hfresh
        go_wp2
        go_roundw
        case rel => exact ⟨xs ++ [(pGOp s').1], css ++ [c], (pGOp s').2, a', cap', by simp, by rw [List.length_append]; go_num, by simp; omega, by show _ = _; rw [hp.out, hHP.out]; simp, by simpa using own4, by simpa using els4, hr4, kk4⟩
        case measure => simp [intOf]; omega
      · have t' : (s'.e != 0) = true := by simp [he]
        go_wp2_with fail
        go_ret
        have hHP : pMany pGOp (N.1 - xs.length) s' = ([], s') := by
          rw [show N.1 - xs.length = (N.1 - (xs.length + 1)) + 1 by omega, pMany, if_neg he]
        refine ⟨_, rfl, ?_, ?_, kk⟩
        · rw [HP.out, hp.out, hHP]; exact Els.list (Nat.le_refl _) own els rGOp_lawful (by simp) hfar
        · rw [HP.out, hp.out, hHP]; exact hr
    · have hdec : decide (xs.length < N.1) = false := decide_eq_false hlt2
      have hz : N.1 - xs.length = 0 := by omega
      have HZ := Lib.hid hz
      clear hz
      go_wp2_with fail
      go_ret
      refine ⟨_, rfl, ?_, ?_, kk⟩
      · rw [HP.out, hp.out, HZ.out]; exact Els.list (Nat.le_refl _) own els rGOp_lawful (by simp [pMany]) hfar
      · rw [HP.out, hp.out, HZ.out]; exact hr
end
end Go.Proofs.YtabgbleldbapbaaGreat
