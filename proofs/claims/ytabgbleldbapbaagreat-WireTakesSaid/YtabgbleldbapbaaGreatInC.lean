/- THE REFERENCE's READER: lists and structs. Printed by gen9.py. -/
import Derived.Test.YtabgbleldbapbaaGreatInA
import Derived.Test.YtabgbleldbapbaaGreatGetB
namespace Go.Proofs.YtabgbleldbapbaaGreat
open Go.RowKit

theorem ld_Pair (a : Act) (dst : Option Tmp) (x : Operand) (ty : TypeId) (pos : String) (after : Array Edge) (guard : Option (Nat × Bool)) : execOp a.eval { dst := dst, op := .load 72 x, type := ty, pos := pos, after := after, guard := guard } = wholeSem 72 (a.eval x) := rfl
section
attribute [local go_sem ↓] ld_Pair st_Pair
set_option maxRecDepth 100000 in
set_option maxHeartbeats 8000000 in
theorem iPair_c (x : Nat) (p : Nat → Prop) (s : RdS) (w : World) (h : IsIn w x p s) (hpl : ∀ b, p b → b < w.heap.size) :
    Calls Tryz.prog 115 #[.pointer (some ⟨x, 0, none⟩)] w (GotS rGPair x p w (pGPair s)) := by
  have hlt := h.lt
  have rowR : RowIs (w.alloc (.cells #[.slice none 0 0, .slice none 0 0, .int .i64 0] 72)) w.heap.size 72 [.slice none 0 0, .slice none 0 0, .int .i64 0] := RowIs.alloc w _ _
  have hr := h.nix ((Keep.refl Nix w).alloc (.cells #[.slice none 0 0, .slice none 0 0, .int .i64 0] 72))
  have kk : Keep (· = x) w (w.alloc (.cells #[.slice none 0 0, .slice none 0 0, .int .i64 0] 72)) := (Keep.refl (· = x) w).alloc _
  clear h
  go_enter Tryz.func115, Tryz.ntmps115
  go_wp2_with fail
  go_fit (ibytes_g x p _ _ hr)
  rintro e w1 ⟨v, rfl, q0, hr', k0⟩
  generalize hy0 : pBytes s = y0 at hr' q0
  replace hy0 := Lib.hid hy0
  obtain ⟨a0, cc0, hv, q0'⟩ := rBytes_open q0
  simp only [List.cons.injEq, and_true] at hv
  subst hv
  clear q0
  have q0 := q0'
  clear q0'
  have rRl := rowR.lt
  have ks0 := k0.size
  replace rowR := rowR.keep k0 (by omega)
  have rRl1 := rowR.lt
  replace q0 := rBytes_lawful.mono q0 (fun b hb => (⟨by have := hb.1; omega, hb.2, by have := hb.2; omega⟩ : NewBut (w.heap.size + 1) w1.heap.size w1 b))
  have hst0 := store_run (P := Tryz.prog) (cs := [.slice a0 y0.1.length cc0, .slice none 0 0, .int .i64 0]) S_Pair (RowIs.alloc w1 #[.slice none 0 0, .slice none 0 0, .int .i64 0] 72) rfl rfl rfl
  have rowT := (RowIs.alloc w1 #[.slice none 0 0, .slice none 0 0, .int .i64 0] 72).setRow [.slice a0 y0.1.length cc0, .slice none 0 0, .int .i64 0]
  have kT := ((Keep.refl (· = w1.heap.size) w1).alloc (.cells #[.slice none 0 0, .slice none 0 0, .int .i64 0] 72)).setRow (fun _ => rfl) (#[.slice a0 y0.1.length cc0, .slice none 0 0, .int .i64 0] : Array Value)
  replace rowR := rowR.keep kT (by omega)
  have hr1 := hr'.lt
  have hxT : x < w1.heap.size := hr1
  replace hr := hr'.keep kT (by omega) (fun b hb e => by have := hpl b hb; omega)
  replace kk := (kk.trans k0).then kT (fun i hi e => by omega)
  replace q0 := rBytes_lawful.mono (rBytes_lawful.keep q0 kT (fun b hb e => hb.2.2 e)) (fun b hb => (⟨hb.1, Nat.lt_of_lt_of_le hb.2.1 kT.size, hb.2.2⟩ : NewBut (w.heap.size + 1) w1.heap.size ((w1.alloc (.cells #[.slice none 0 0, .slice none 0 0, .int .i64 0] 72)).setRow w1.heap.size #[.slice a0 y0.1.length cc0, .slice none 0 0, .int .i64 0]) b))
  clear hr' k0 kT hr1
  go_wp2_with fail
  clear hst0
  go_fit (ibytes_g x p _ _ hr)
  rintro e w2 ⟨v, rfl, q1, hr', k1⟩
  generalize hy1 : pBytes y0.2 = y1 at hr' q1
  replace hy1 := Lib.hid hy1
  obtain ⟨a1, cc1, hv, q1'⟩ := rBytes_open q1
  simp only [List.cons.injEq, and_true] at hv
  subst hv
  clear q1
  have q1 := q1'
  clear q1'
  have rTl := rowT.lt
  replace rowT := rowT.keep k1 (by omega)
  replace rowR := rowR.keep k1 (by omega)
  replace q0 := rBytes_lawful.mono (rBytes_lawful.keep q0 k1 (fun b hb e => by have := hb.1; omega)) (fun b hb => (⟨hb.1, Nat.lt_of_lt_of_le hb.2.1 k1.size, hb.2.2⟩ : NewBut (w.heap.size + 1) w1.heap.size w2 b))
  replace q1 := rBytes_lawful.mono q1 (fun b hb => (⟨by have := hb.1; omega, hb.2, by have := hb.1; omega⟩ : NewBut (w.heap.size + 1) w1.heap.size w2 b))
  have xc0 : w2.cell? ⟨w1.heap.size, 1, none⟩ = some (.slice none 0 0) := rowT.cell 1
  have xf0 : w2.frozen? ⟨w1.heap.size, 1, none⟩ = false := rowT.frozen 1
  replace rowT := rowT.set 1 (.slice a1 y1.1.length cc1)
  replace rowT : RowIs (w2.setCell ⟨w1.heap.size, 1, none⟩ (.slice a1 y1.1.length cc1)) w1.heap.size 72 [.slice a0 y0.1.length cc0, .slice a1 y1.1.length cc1, .int .i64 0] := rowT
  have kT := (Keep.refl (· = w1.heap.size) w2).setCell (p := ⟨w1.heap.size, 1, none⟩) (fun _ => rfl) (.slice a1 y1.1.length cc1)
  replace rowR := rowR.keep kT (by omega)
  replace hr := hr'.keep kT (by omega) (fun b hb e => by have := hpl b hb; omega)
  replace kk := (kk.trans k1).then kT (fun i hi e => by omega)
  replace q0 := rBytes_lawful.mono (rBytes_lawful.keep q0 kT (fun b hb e => hb.2.2 e)) (fun b hb => (⟨hb.1, Nat.lt_of_lt_of_le hb.2.1 kT.size, hb.2.2⟩ : NewBut (w.heap.size + 1) w1.heap.size (w2.setCell ⟨w1.heap.size, 1, none⟩ (.slice a1 y1.1.length cc1)) b))
  replace q1 := rBytes_lawful.mono (rBytes_lawful.keep q1 kT (fun b hb e => hb.2.2 e)) (fun b hb => (⟨hb.1, Nat.lt_of_lt_of_le hb.2.1 kT.size, hb.2.2⟩ : NewBut (w.heap.size + 1) w1.heap.size (w2.setCell ⟨w1.heap.size, 1, none⟩ (.slice a1 y1.1.length cc1)) b))
  clear hr' k1 kT rTl
  go_wp2_with fail
  clear xc0 xf0
  go_fit (iint_g x p _ _ hr)
  rintro e w3 ⟨rfl, hr', k2⟩
  have wf2 : Hid ((Lit.int .i64 (pInt y1.2).1).wf = true) := zag_wf (numS_lt maxU _)
  generalize hy2 : pInt y1.2 = y2 at hr' wf2 ⊢
  replace hy2 := Lib.hid hy2
  have rTl := rowT.lt
  replace rowT := rowT.keep k2 (by omega)
  replace rowR := rowR.keep k2 (by omega)
  replace q0 := rBytes_lawful.mono (rBytes_lawful.keep q0 k2 (fun b hb e => by have := hb.1; omega)) (fun b hb => (⟨hb.1, Nat.lt_of_lt_of_le hb.2.1 k2.size, hb.2.2⟩ : NewBut (w.heap.size + 1) w1.heap.size w3 b))
  replace q1 := rBytes_lawful.mono (rBytes_lawful.keep q1 k2 (fun b hb e => by have := hb.1; omega)) (fun b hb => (⟨hb.1, Nat.lt_of_lt_of_le hb.2.1 k2.size, hb.2.2⟩ : NewBut (w.heap.size + 1) w1.heap.size w3 b))
  have xc0 : w3.cell? ⟨w1.heap.size, 2, none⟩ = some (.int .i64 0) := rowT.cell 2
  have xf0 : w3.frozen? ⟨w1.heap.size, 2, none⟩ = false := rowT.frozen 2
  replace rowT := rowT.set 2 (.int .i64 y2.1)
  replace rowT : RowIs (w3.setCell ⟨w1.heap.size, 2, none⟩ (.int .i64 y2.1)) w1.heap.size 72 [.slice a0 y0.1.length cc0, .slice a1 y1.1.length cc1, .int .i64 y2.1] := rowT
  have kT := (Keep.refl (· = w1.heap.size) w3).setCell (p := ⟨w1.heap.size, 2, none⟩) (fun _ => rfl) (.int .i64 y2.1)
  replace rowR := rowR.keep kT (by omega)
  replace hr := hr'.keep kT (by omega) (fun b hb e => by have := hpl b hb; omega)
  replace kk := (kk.trans k2).then kT (fun i hi e => by omega)
  replace q0 := rBytes_lawful.mono (rBytes_lawful.keep q0 kT (fun b hb e => hb.2.2 e)) (fun b hb => (⟨hb.1, Nat.lt_of_lt_of_le hb.2.1 kT.size, hb.2.2⟩ : NewBut (w.heap.size + 1) w1.heap.size (w3.setCell ⟨w1.heap.size, 2, none⟩ (.int .i64 y2.1)) b))
  replace q1 := rBytes_lawful.mono (rBytes_lawful.keep q1 kT (fun b hb e => hb.2.2 e)) (fun b hb => (⟨hb.1, Nat.lt_of_lt_of_le hb.2.1 kT.size, hb.2.2⟩ : NewBut (w.heap.size + 1) w1.heap.size (w3.setCell ⟨w1.heap.size, 2, none⟩ (.int .i64 y2.1)) b))
  clear hr' k2 kT rTl
  replace rowT : RowIs (w3.setCell ⟨w1.heap.size, 2, none⟩ (.int .i64 y2.1)) w1.heap.size 72 [.slice a0 y0.1.length cc0, .slice a1 y1.1.length cc1, .int .i64 y2.1] := rowT
  have hld : (wholeSem 72 (.pointer (some ⟨w1.heap.size, 0, none⟩))).run Tryz.prog (w3.setCell ⟨w1.heap.size, 2, none⟩ (.int .i64 y2.1)) = .ok (.value (.agg #[.slice a0 y0.1.length cc0, .slice a1 y1.1.length cc1, .int .i64 y2.1])) (w3.setCell ⟨w1.heap.size, 2, none⟩ (.int .i64 y2.1)) := Whole.row S_Pair rfl rowT
  have hst := store_run (P := Tryz.prog) (cs := [.slice a0 y0.1.length cc0, .slice a1 y1.1.length cc1, .int .i64 y2.1]) S_Pair rowR rfl rfl rfl
  have rowF := rowR.setRow [.slice a0 y0.1.length cc0, .slice a1 y1.1.length cc1, .int .i64 y2.1]
  have kS := (Keep.refl (· = w.heap.size) (w3.setCell ⟨w1.heap.size, 2, none⟩ (.int .i64 y2.1))).setRow (fun _ => rfl) (#[.slice a0 y0.1.length cc0, .slice a1 y1.1.length cc1, .int .i64 y2.1] : Array Value)
  have HE : Hid (pGPair s = (⟨y0.1, y1.1, y2.1⟩, y2.2)) := by show _ = _; simp only [pGPair, hy0.out, hy1.out, hy2.out]
  go_wp2_with fail
  refine bodyPost_ret (results_cell_row (by rfl) _ _ _ _ _ _ _ (by rfl) rowF Tryz.underlying72 (by rfl) S_Pair.info) rfl ?_
  rw [HE.out]
  replace q0 := rBytes_lawful.mono (rBytes_lawful.keep q0 kS (fun b hb e => by have := hb.1; omega)) (fun b hb => (⟨by have := hb.1; omega, Nat.lt_of_lt_of_le hb.2.1 kS.size⟩ : NewIn w ((w3.setCell ⟨w1.heap.size, 2, none⟩ (.int .i64 y2.1)).setRow w.heap.size #[.slice a0 y0.1.length cc0, .slice a1 y1.1.length cc1, .int .i64 y2.1]) b))
  replace q1 := rBytes_lawful.mono (rBytes_lawful.keep q1 kS (fun b hb e => by have := hb.1; omega)) (fun b hb => (⟨by have := hb.1; omega, Nat.lt_of_lt_of_le hb.2.1 kS.size⟩ : NewIn w ((w3.setCell ⟨w1.heap.size, 2, none⟩ (.int .i64 y2.1)).setRow w.heap.size #[.slice a0 y0.1.length cc0, .slice a1 y1.1.length cc1, .int .i64 y2.1]) b))
  exact ⟨[.slice a0 y0.1.length cc0, .slice a1 y1.1.length cc1, .int .i64 y2.1], rfl, ⟨[.slice a0 y0.1.length cc0], [.slice a1 y1.1.length cc1], [.int .i64 y2.1], rfl, q0, q1, ⟨rfl, wf2.out⟩⟩, rfl, hr.keep kS (by omega) (fun b hb e => by have := hpl b hb; omega), kk.then kS (fun i hi e => by omega)⟩
end
section
attribute [local go_sem ↓] ls_Pair
set_option maxRecDepth 100000 in
set_option maxHeartbeats 4000000 in
theorem ilPair_c (x : Nat) (p : Nat → Prop) (s : RdS) (w : World) (h : IsIn w x p s) (hpl : ∀ b, p b → b < w.heap.size) :
    Calls Tryz.prog 41 #[.pointer (some ⟨x, 0, none⟩)] w (GotV (rList rGPair) x p w (pList pGPair s)) := by
  have hlt := h.lt
  have hle := numS_le 5000 s
  go_enter Tryz.func41, Tryz.ntmps41
  go_wp2_with fail
  go_fit (imany_g x p s w h)
  rintro e w1 ⟨rfl, h1, k1⟩
  have HP : Hid (pList pGPair s = pMany pGPair (numS 5000 s).1 (numS 5000 s).2) := rfl
  clear h
  generalize numS 5000 s = N at h1 HP hle ⊢
  have hsz0 := k1.size
  go_wp2_with fail
  go_loopw [3, 5] (fun l i wr => ∃ (xs : List GPair) (css : List (List Value)) (s' : RdS) (a : Option Addr) (cap : Nat), l = .slice a xs.length cap ∧ i = .int .i64 xs.length ∧ xs.length ≤ N.1 ∧ Hid (pMany pGPair N.1 N.2 = (xs ++ (pMany pGPair (N.1 - xs.length) s').1, (pMany pGPair (N.1 - xs.length) s').2)) ∧
      wr.ownsRow w.heap.size 72 3 (.slice a xs.length cap) xs.length css.flatten ∧ Els rGPair wr (fun b => NewIn w wr b ∧ ¬ OwnB (.slice a xs.length cap) b) css xs ∧ IsIn wr x p s' ∧ Keep (· = x) w wr) (fun _ i _ => N.1 - (intOf i).toNat)
  case atStart => exact ⟨[], [], N.2, none, 0, rfl, rfl, Nat.zero_le _, rfl, World.ownsRow_nil _ _ _ _, Els.nil _ _ _, h1, k1⟩
  case round =>
    clear h1 k1 hsz0
    obtain ⟨xs, css, s', a, cap, rfl, rfl, hk, hp, own, els, hr, kk⟩ := hrel
    have hwr := kk.size
    have hfar : xs.length ≤ far := by unfold far; omega
    by_cases hlt2 : xs.length < N.1
    · have hdec : decide (xs.length < N.1) = true := decide_eq_true hlt2
      go_wp2_with fail
      go_fit (fault_c x p s' wr hr)
      rintro e w2 ⟨rfl, rfl⟩
      rcases test_eq s'.e 0 with ⟨ht, he⟩ | ⟨ht, he⟩
      · have t' : (s'.e != 0) = false := by simp [he.out]
        go_wp2_with fail
        go_fit (iPair_c x p s' wr hr (fun b hb => Nat.lt_of_lt_of_le (hpl b hb) hwr))
        rintro e w3 ⟨c, rfl, hc, h1c, hr3, k3⟩
        have hlc := rGPair_lawful.len hc
        have hls := list_run (P := Tryz.prog) T_lPair (by decide) c hlc w3
        have own3 := owned_keep own k3 (fun b hb e => by have := (own.lt b hb).1; omega)
        have kk3 := kk.trans k3
        have hsz3 := k3.size
        have hol : ∀ b, OwnB (.slice a xs.length cap) b → b < wr.heap.size := fun b hb => (own.lt b hb).2
        have hHP : Hid (pMany pGPair (N.1 - xs.length) s' = ((pGPair s').1 :: (pMany pGPair (N.1 - (xs.length + 1)) (pGPair s').2).1, (pMany pGPair (N.1 - (xs.length + 1)) (pGPair s').2).2)) := by
          show _ = _
          rw [show N.1 - xs.length = (N.1 - (xs.length + 1)) + 1 by omega, pMany, if_pos he.out]
        clear own hr hdec
        go_wp2_with (at_builtin; refine wpl_append1_at T_lPair rfl (.tmp 18) (.tmp 21) rfl w.heap.size rfl own3 rfl ?c0 ?c1 ?c2 ?c3 ?c4 ?_)
        case c0 => simpa using hlc
        case c1 => first | (simpa [ones] using h1c) | (intro u hu; exact (List.all_eq_true.1 h1c) u (by simpa using hu))
        case c2 => unfold maxLen; omega
        case c3 => omega
        case c4 => omega
        intro a' cap' w4 own4 k4 hfresh
        have els4 := els.push rGPair_lawful hc k3 k4 hlt hwr hol hfresh
        have hr4 : IsIn w4 x p (pGPair s').2 := hr3.keep k4 (fun hb => by have := (own3.lt _ hb).1; omega) (fun b hb hb2 => by have := (own3.lt _ hb2).1; have := hpl b hb; omega)
        have kk4 : Keep (· = x) w w4 := kk3.then k4 (fun i hi hb => by have := (own3.lt _ hb).1; omega)
        clear own3 els hr3 kk3 k3 k4 hfresh
        go_wp2
        go_roundw
        case rel => exact ⟨xs ++ [(pGPair s').1], css ++ [c], (pGPair s').2, a', cap', by simp, by rw [List.length_append]; go_num, by simp; omega, by show _ = _; rw [hp.out, hHP.out]; simp, by simpa using own4, by simpa using els4, hr4, kk4⟩
        case measure => simp [intOf]; omega
      · have t' : (s'.e != 0) = true := by simp [he]
        go_wp2_with fail
        go_ret
        have hHP : pMany pGPair (N.1 - xs.length) s' = ([], s') := by
          rw [show N.1 - xs.length = (N.1 - (xs.length + 1)) + 1 by omega, pMany, if_neg he]
        refine ⟨_, rfl, ?_, ?_, kk⟩
        · rw [HP.out, hp.out, hHP]; exact Els.list (Nat.le_refl _) own els rGPair_lawful (by simp) hfar
        · rw [HP.out, hp.out, hHP]; exact hr
    · have hdec : decide (xs.length < N.1) = false := decide_eq_false hlt2
      have hz : N.1 - xs.length = 0 := by omega
      have HZ := Lib.hid hz
      clear hz
      go_wp2_with fail
      go_ret
      refine ⟨_, rfl, ?_, ?_, kk⟩
      · rw [HP.out, hp.out, HZ.out]; exact Els.list (Nat.le_refl _) own els rGPair_lawful (by simp [pMany]) hfar
      · rw [HP.out, hp.out, HZ.out]; exact hr
end
theorem ld_Write (a : Act) (dst : Option Tmp) (x : Operand) (ty : TypeId) (pos : String) (after : Array Edge) (guard : Option (Nat × Bool)) : execOp a.eval { dst := dst, op := .load 122 x, type := ty, pos := pos, after := after, guard := guard } = wholeSem 122 (a.eval x) := rfl
section
attribute [local go_sem ↓] ld_Write st_Write
set_option maxRecDepth 100000 in
set_option maxHeartbeats 8000000 in
theorem iWrite_c (x : Nat) (p : Nat → Prop) (s : RdS) (w : World) (h : IsIn w x p s) (hpl : ∀ b, p b → b < w.heap.size) :
    Calls Tryz.prog 117 #[.pointer (some ⟨x, 0, none⟩)] w (GotS rGWrite x p w (pGWrite s)) := by
  have hlt := h.lt
  have rowR : RowIs (w.alloc (.cells #[.slice none 0 0, .slice none 0 0, .bool false] 122)) w.heap.size 122 [.slice none 0 0, .slice none 0 0, .bool false] := RowIs.alloc w _ _
  have hr := h.nix ((Keep.refl Nix w).alloc (.cells #[.slice none 0 0, .slice none 0 0, .bool false] 122))
  have kk : Keep (· = x) w (w.alloc (.cells #[.slice none 0 0, .slice none 0 0, .bool false] 122)) := (Keep.refl (· = x) w).alloc _
  clear h
  go_enter Tryz.func117, Tryz.ntmps117
  go_wp2_with fail
  go_fit (ibytes_g x p _ _ hr)
  rintro e w1 ⟨v, rfl, q0, hr', k0⟩
  generalize hy0 : pBytes s = y0 at hr' q0
  replace hy0 := Lib.hid hy0
  obtain ⟨a0, cc0, hv, q0'⟩ := rBytes_open q0
  simp only [List.cons.injEq, and_true] at hv
  subst hv
  clear q0
  have q0 := q0'
  clear q0'
  have rRl := rowR.lt
  have ks0 := k0.size
  replace rowR := rowR.keep k0 (by omega)
  have rRl1 := rowR.lt
  replace q0 := rBytes_lawful.mono q0 (fun b hb => (⟨by have := hb.1; omega, hb.2, by have := hb.2; omega⟩ : NewBut (w.heap.size + 1) w1.heap.size w1 b))
  have hst0 := store_run (P := Tryz.prog) (cs := [.slice a0 y0.1.length cc0, .slice none 0 0, .bool false]) S_Write (RowIs.alloc w1 #[.slice none 0 0, .slice none 0 0, .bool false] 122) rfl rfl rfl
  have rowT := (RowIs.alloc w1 #[.slice none 0 0, .slice none 0 0, .bool false] 122).setRow [.slice a0 y0.1.length cc0, .slice none 0 0, .bool false]
  have kT := ((Keep.refl (· = w1.heap.size) w1).alloc (.cells #[.slice none 0 0, .slice none 0 0, .bool false] 122)).setRow (fun _ => rfl) (#[.slice a0 y0.1.length cc0, .slice none 0 0, .bool false] : Array Value)
  replace rowR := rowR.keep kT (by omega)
  have hr1 := hr'.lt
  have hxT : x < w1.heap.size := hr1
  replace hr := hr'.keep kT (by omega) (fun b hb e => by have := hpl b hb; omega)
  replace kk := (kk.trans k0).then kT (fun i hi e => by omega)
  replace q0 := rBytes_lawful.mono (rBytes_lawful.keep q0 kT (fun b hb e => hb.2.2 e)) (fun b hb => (⟨hb.1, Nat.lt_of_lt_of_le hb.2.1 kT.size, hb.2.2⟩ : NewBut (w.heap.size + 1) w1.heap.size ((w1.alloc (.cells #[.slice none 0 0, .slice none 0 0, .bool false] 122)).setRow w1.heap.size #[.slice a0 y0.1.length cc0, .slice none 0 0, .bool false]) b))
  clear hr' k0 kT hr1
  go_wp2_with fail
  clear hst0
  go_fit (ibytes_g x p _ _ hr)
  rintro e w2 ⟨v, rfl, q1, hr', k1⟩
  generalize hy1 : pBytes y0.2 = y1 at hr' q1
  replace hy1 := Lib.hid hy1
  obtain ⟨a1, cc1, hv, q1'⟩ := rBytes_open q1
  simp only [List.cons.injEq, and_true] at hv
  subst hv
  clear q1
  have q1 := q1'
  clear q1'
  have rTl := rowT.lt
  replace rowT := rowT.keep k1 (by omega)
  replace rowR := rowR.keep k1 (by omega)
  replace q0 := rBytes_lawful.mono (rBytes_lawful.keep q0 k1 (fun b hb e => by have := hb.1; omega)) (fun b hb => (⟨hb.1, Nat.lt_of_lt_of_le hb.2.1 k1.size, hb.2.2⟩ : NewBut (w.heap.size + 1) w1.heap.size w2 b))
  replace q1 := rBytes_lawful.mono q1 (fun b hb => (⟨by have := hb.1; omega, hb.2, by have := hb.1; omega⟩ : NewBut (w.heap.size + 1) w1.heap.size w2 b))
  have xc0 : w2.cell? ⟨w1.heap.size, 1, none⟩ = some (.slice none 0 0) := rowT.cell 1
  have xf0 : w2.frozen? ⟨w1.heap.size, 1, none⟩ = false := rowT.frozen 1
  replace rowT := rowT.set 1 (.slice a1 y1.1.length cc1)
  replace rowT : RowIs (w2.setCell ⟨w1.heap.size, 1, none⟩ (.slice a1 y1.1.length cc1)) w1.heap.size 122 [.slice a0 y0.1.length cc0, .slice a1 y1.1.length cc1, .bool false] := rowT
  have kT := (Keep.refl (· = w1.heap.size) w2).setCell (p := ⟨w1.heap.size, 1, none⟩) (fun _ => rfl) (.slice a1 y1.1.length cc1)
  replace rowR := rowR.keep kT (by omega)
  replace hr := hr'.keep kT (by omega) (fun b hb e => by have := hpl b hb; omega)
  replace kk := (kk.trans k1).then kT (fun i hi e => by omega)
  replace q0 := rBytes_lawful.mono (rBytes_lawful.keep q0 kT (fun b hb e => hb.2.2 e)) (fun b hb => (⟨hb.1, Nat.lt_of_lt_of_le hb.2.1 kT.size, hb.2.2⟩ : NewBut (w.heap.size + 1) w1.heap.size (w2.setCell ⟨w1.heap.size, 1, none⟩ (.slice a1 y1.1.length cc1)) b))
  replace q1 := rBytes_lawful.mono (rBytes_lawful.keep q1 kT (fun b hb e => hb.2.2 e)) (fun b hb => (⟨hb.1, Nat.lt_of_lt_of_le hb.2.1 kT.size, hb.2.2⟩ : NewBut (w.heap.size + 1) w1.heap.size (w2.setCell ⟨w1.heap.size, 1, none⟩ (.slice a1 y1.1.length cc1)) b))
  clear hr' k1 kT rTl
  go_wp2_with fail
  clear xc0 xf0
  go_fit (ibool_g x p _ _ hr)
  rintro e w3 ⟨rfl, hr', k2⟩
  generalize hy2 : pFlag y1.2 = y2 at hr' ⊢
  replace hy2 := Lib.hid hy2
  have rTl := rowT.lt
  replace rowT := rowT.keep k2 (by omega)
  replace rowR := rowR.keep k2 (by omega)
  replace q0 := rBytes_lawful.mono (rBytes_lawful.keep q0 k2 (fun b hb e => by have := hb.1; omega)) (fun b hb => (⟨hb.1, Nat.lt_of_lt_of_le hb.2.1 k2.size, hb.2.2⟩ : NewBut (w.heap.size + 1) w1.heap.size w3 b))
  replace q1 := rBytes_lawful.mono (rBytes_lawful.keep q1 k2 (fun b hb e => by have := hb.1; omega)) (fun b hb => (⟨hb.1, Nat.lt_of_lt_of_le hb.2.1 k2.size, hb.2.2⟩ : NewBut (w.heap.size + 1) w1.heap.size w3 b))
  have xc0 : w3.cell? ⟨w1.heap.size, 2, none⟩ = some (.bool false) := rowT.cell 2
  have xf0 : w3.frozen? ⟨w1.heap.size, 2, none⟩ = false := rowT.frozen 2
  replace rowT := rowT.set 2 (.bool y2.1)
  replace rowT : RowIs (w3.setCell ⟨w1.heap.size, 2, none⟩ (.bool y2.1)) w1.heap.size 122 [.slice a0 y0.1.length cc0, .slice a1 y1.1.length cc1, .bool y2.1] := rowT
  have kT := (Keep.refl (· = w1.heap.size) w3).setCell (p := ⟨w1.heap.size, 2, none⟩) (fun _ => rfl) (.bool y2.1)
  replace rowR := rowR.keep kT (by omega)
  replace hr := hr'.keep kT (by omega) (fun b hb e => by have := hpl b hb; omega)
  replace kk := (kk.trans k2).then kT (fun i hi e => by omega)
  replace q0 := rBytes_lawful.mono (rBytes_lawful.keep q0 kT (fun b hb e => hb.2.2 e)) (fun b hb => (⟨hb.1, Nat.lt_of_lt_of_le hb.2.1 kT.size, hb.2.2⟩ : NewBut (w.heap.size + 1) w1.heap.size (w3.setCell ⟨w1.heap.size, 2, none⟩ (.bool y2.1)) b))
  replace q1 := rBytes_lawful.mono (rBytes_lawful.keep q1 kT (fun b hb e => hb.2.2 e)) (fun b hb => (⟨hb.1, Nat.lt_of_lt_of_le hb.2.1 kT.size, hb.2.2⟩ : NewBut (w.heap.size + 1) w1.heap.size (w3.setCell ⟨w1.heap.size, 2, none⟩ (.bool y2.1)) b))
  clear hr' k2 kT rTl
  replace rowT : RowIs (w3.setCell ⟨w1.heap.size, 2, none⟩ (.bool y2.1)) w1.heap.size 122 [.slice a0 y0.1.length cc0, .slice a1 y1.1.length cc1, .bool y2.1] := rowT
  have hld : (wholeSem 122 (.pointer (some ⟨w1.heap.size, 0, none⟩))).run Tryz.prog (w3.setCell ⟨w1.heap.size, 2, none⟩ (.bool y2.1)) = .ok (.value (.agg #[.slice a0 y0.1.length cc0, .slice a1 y1.1.length cc1, .bool y2.1])) (w3.setCell ⟨w1.heap.size, 2, none⟩ (.bool y2.1)) := Whole.row S_Write rfl rowT
  have hst := store_run (P := Tryz.prog) (cs := [.slice a0 y0.1.length cc0, .slice a1 y1.1.length cc1, .bool y2.1]) S_Write rowR rfl rfl rfl
  have rowF := rowR.setRow [.slice a0 y0.1.length cc0, .slice a1 y1.1.length cc1, .bool y2.1]
  have kS := (Keep.refl (· = w.heap.size) (w3.setCell ⟨w1.heap.size, 2, none⟩ (.bool y2.1))).setRow (fun _ => rfl) (#[.slice a0 y0.1.length cc0, .slice a1 y1.1.length cc1, .bool y2.1] : Array Value)
  have HE : Hid (pGWrite s = (⟨y0.1, y1.1, y2.1⟩, y2.2)) := by show _ = _; simp only [pGWrite, hy0.out, hy1.out, hy2.out]
  go_wp2_with fail
  refine bodyPost_ret (results_cell_row (by rfl) _ _ _ _ _ _ _ (by rfl) rowF Tryz.underlying122 (by rfl) S_Write.info) rfl ?_
  rw [HE.out]
  replace q0 := rBytes_lawful.mono (rBytes_lawful.keep q0 kS (fun b hb e => by have := hb.1; omega)) (fun b hb => (⟨by have := hb.1; omega, Nat.lt_of_lt_of_le hb.2.1 kS.size⟩ : NewIn w ((w3.setCell ⟨w1.heap.size, 2, none⟩ (.bool y2.1)).setRow w.heap.size #[.slice a0 y0.1.length cc0, .slice a1 y1.1.length cc1, .bool y2.1]) b))
  replace q1 := rBytes_lawful.mono (rBytes_lawful.keep q1 kS (fun b hb e => by have := hb.1; omega)) (fun b hb => (⟨by have := hb.1; omega, Nat.lt_of_lt_of_le hb.2.1 kS.size⟩ : NewIn w ((w3.setCell ⟨w1.heap.size, 2, none⟩ (.bool y2.1)).setRow w.heap.size #[.slice a0 y0.1.length cc0, .slice a1 y1.1.length cc1, .bool y2.1]) b))
  exact ⟨[.slice a0 y0.1.length cc0, .slice a1 y1.1.length cc1, .bool y2.1], rfl, ⟨[.slice a0 y0.1.length cc0], [.slice a1 y1.1.length cc1], [.bool y2.1], rfl, q0, q1, rfl⟩, rfl, hr.keep kS (by omega) (fun b hb e => by have := hpl b hb; omega), kk.then kS (fun i hi e => by omega)⟩
end
section
attribute [local go_sem ↓] ls_Write
set_option maxRecDepth 100000 in
set_option maxHeartbeats 4000000 in
theorem ilWrite_c (x : Nat) (p : Nat → Prop) (s : RdS) (w : World) (h : IsIn w x p s) (hpl : ∀ b, p b → b < w.heap.size) :
    Calls Tryz.prog 43 #[.pointer (some ⟨x, 0, none⟩)] w (GotV (rList rGWrite) x p w (pList pGWrite s)) := by
  have hlt := h.lt
  have hle := numS_le 5000 s
  go_enter Tryz.func43, Tryz.ntmps43
  go_wp2_with fail
  go_fit (imany_g x p s w h)
  rintro e w1 ⟨rfl, h1, k1⟩
  have HP : Hid (pList pGWrite s = pMany pGWrite (numS 5000 s).1 (numS 5000 s).2) := rfl
  clear h
  generalize numS 5000 s = N at h1 HP hle ⊢
  have hsz0 := k1.size
  go_wp2_with fail
  go_loopw [3, 5] (fun l i wr => ∃ (xs : List GWrite) (css : List (List Value)) (s' : RdS) (a : Option Addr) (cap : Nat), l = .slice a xs.length cap ∧ i = .int .i64 xs.length ∧ xs.length ≤ N.1 ∧ Hid (pMany pGWrite N.1 N.2 = (xs ++ (pMany pGWrite (N.1 - xs.length) s').1, (pMany pGWrite (N.1 - xs.length) s').2)) ∧
      wr.ownsRow w.heap.size 122 3 (.slice a xs.length cap) xs.length css.flatten ∧ Els rGWrite wr (fun b => NewIn w wr b ∧ ¬ OwnB (.slice a xs.length cap) b) css xs ∧ IsIn wr x p s' ∧ Keep (· = x) w wr) (fun _ i _ => N.1 - (intOf i).toNat)
  case atStart => exact ⟨[], [], N.2, none, 0, rfl, rfl, Nat.zero_le _, rfl, World.ownsRow_nil _ _ _ _, Els.nil _ _ _, h1, k1⟩
  case round =>
    clear h1 k1 hsz0
    obtain ⟨xs, css, s', a, cap, rfl, rfl, hk, hp, own, els, hr, kk⟩ := hrel
    have hwr := kk.size
    have hfar : xs.length ≤ far := by unfold far; omega
    by_cases hlt2 : xs.length < N.1
    · have hdec : decide (xs.length < N.1) = true := decide_eq_true hlt2
      go_wp2_with fail
      go_fit (fault_c x p s' wr hr)
      rintro e w2 ⟨rfl, rfl⟩
      rcases test_eq s'.e 0 with ⟨ht, he⟩ | ⟨ht, he⟩
      · have t' : (s'.e != 0) = false := by simp [he.out]
        go_wp2_with fail
        go_fit (iWrite_c x p s' wr hr (fun b hb => Nat.lt_of_lt_of_le (hpl b hb) hwr))
        rintro e w3 ⟨c, rfl, hc, h1c, hr3, k3⟩
        have hlc := rGWrite_lawful.len hc
        have hls := list_run (P := Tryz.prog) T_lWrite (by decide) c hlc w3
        have own3 := owned_keep own k3 (fun b hb e => by have := (own.lt b hb).1; omega)
        have kk3 := kk.trans k3
        have hsz3 := k3.size
        have hol : ∀ b, OwnB (.slice a xs.length cap) b → b < wr.heap.size := fun b hb => (own.lt b hb).2
        have hHP : Hid (pMany pGWrite (N.1 - xs.length) s' = ((pGWrite s').1 :: (pMany pGWrite (N.1 - (xs.length + 1)) (pGWrite s').2).1, (pMany pGWrite (N.1 - (xs.length + 1)) (pGWrite s').2).2)) := by
          show _ = _
          rw [show N.1 - xs.length = (N.1 - (xs.length + 1)) + 1 by omega, pMany, if_pos he.out]
        clear own hr hdec
        go_wp2_with (at_builtin; refine wpl_append1_at T_lWrite rfl (.tmp 18) (.tmp 21) rfl w.heap.size rfl own3 rfl ?c0 ?c1 ?c2 ?c3 ?c4 ?_)
        case c0 => simpa using hlc
        case c1 => first | (simpa [ones] using h1c) | (intro u hu; exact (List.all_eq_true.1 h1c) u (by simpa using hu))
        case c2 => unfold maxLen; omega
        case c3 => omega
        case c4 => omega
        intro a' cap' w4 own4 k4 hfresh
        have els4 := els.push rGWrite_lawful hc k3 k4 hlt hwr hol hfresh
        have hr4 : IsIn w4 x p (pGWrite s').2 := hr3.keep k4 (fun hb => by have := (own3.lt _ hb).1; omega) (fun b hb hb2 => by have := (own3.lt _ hb2).1; have := hpl b hb; omega)
        have kk4 : Keep (· = x) w w4 := kk3.then k4 (fun i hi hb => by have := (own3.lt _ hb).1; omega)
        clear own3 els hr3 kk3 k3 k4 hfresh
        go_wp2
        go_roundw
        case rel => exact ⟨xs ++ [(pGWrite s').1], css ++ [c], (pGWrite s').2, a', cap', by simp, by rw [List.length_append]; go_num, by simp; omega, by show _ = _; rw [hp.out, hHP.out]; simp, by simpa using own4, by simpa using els4, hr4, kk4⟩
        case measure => simp [intOf]; omega
      · have t' : (s'.e != 0) = true := by simp [he]
        go_wp2_with fail
        go_ret
        have hHP : pMany pGWrite (N.1 - xs.length) s' = ([], s') := by
          rw [show N.1 - xs.length = (N.1 - (xs.length + 1)) + 1 by omega, pMany, if_neg he]
        refine ⟨_, rfl, ?_, ?_, kk⟩
        · rw [HP.out, hp.out, hHP]; exact Els.list (Nat.le_refl _) own els rGWrite_lawful (by simp) hfar
        · rw [HP.out, hp.out, hHP]; exact hr
    · have hdec : decide (xs.length < N.1) = false := decide_eq_false hlt2
      have hz : N.1 - xs.length = 0 := by omega
      have HZ := Lib.hid hz
      clear hz
      go_wp2_with fail
      go_ret
      refine ⟨_, rfl, ?_, ?_, kk⟩
      · rw [HP.out, hp.out, HZ.out]; exact Els.list (Nat.le_refl _) own els rGWrite_lawful (by simp [pMany]) hfar
      · rw [HP.out, hp.out, HZ.out]; exact hr
end
theorem ld_Span (a : Act) (dst : Option Tmp) (x : Operand) (ty : TypeId) (pos : String) (after : Array Edge) (guard : Option (Nat × Bool)) : execOp a.eval { dst := dst, op := .load 32 x, type := ty, pos := pos, after := after, guard := guard } = wholeSem 32 (a.eval x) := rfl
section
attribute [local go_sem ↓] ld_Span st_Span
set_option maxRecDepth 100000 in
set_option maxHeartbeats 8000000 in
theorem iSpan_c (x : Nat) (p : Nat → Prop) (s : RdS) (w : World) (h : IsIn w x p s) (hpl : ∀ b, p b → b < w.heap.size) :
    Calls Tryz.prog 40 #[.pointer (some ⟨x, 0, none⟩)] w (GotS rGSpan x p w (pGSpan s)) := by
  have hlt := h.lt
  have rowR : RowIs (w.alloc (.cells #[.slice none 0 0, .slice none 0 0] 32)) w.heap.size 32 [.slice none 0 0, .slice none 0 0] := RowIs.alloc w _ _
  have hr := h.nix ((Keep.refl Nix w).alloc (.cells #[.slice none 0 0, .slice none 0 0] 32))
  have kk : Keep (· = x) w (w.alloc (.cells #[.slice none 0 0, .slice none 0 0] 32)) := (Keep.refl (· = x) w).alloc _
  clear h
  go_enter Tryz.func40, Tryz.ntmps40
  go_wp2_with fail
  go_fit (ibytes_g x p _ _ hr)
  rintro e w1 ⟨v, rfl, q0, hr', k0⟩
  generalize hy0 : pBytes s = y0 at hr' q0
  replace hy0 := Lib.hid hy0
  obtain ⟨a0, cc0, hv, q0'⟩ := rBytes_open q0
  simp only [List.cons.injEq, and_true] at hv
  subst hv
  clear q0
  have q0 := q0'
  clear q0'
  have rRl := rowR.lt
  have ks0 := k0.size
  replace rowR := rowR.keep k0 (by omega)
  have rRl1 := rowR.lt
  replace q0 := rBytes_lawful.mono q0 (fun b hb => (⟨by have := hb.1; omega, hb.2, by have := hb.2; omega⟩ : NewBut (w.heap.size + 1) w1.heap.size w1 b))
  have hst0 := store_run (P := Tryz.prog) (cs := [.slice a0 y0.1.length cc0, .slice none 0 0]) S_Span (RowIs.alloc w1 #[.slice none 0 0, .slice none 0 0] 32) rfl rfl rfl
  have rowT := (RowIs.alloc w1 #[.slice none 0 0, .slice none 0 0] 32).setRow [.slice a0 y0.1.length cc0, .slice none 0 0]
  have kT := ((Keep.refl (· = w1.heap.size) w1).alloc (.cells #[.slice none 0 0, .slice none 0 0] 32)).setRow (fun _ => rfl) (#[.slice a0 y0.1.length cc0, .slice none 0 0] : Array Value)
  replace rowR := rowR.keep kT (by omega)
  have hr1 := hr'.lt
  have hxT : x < w1.heap.size := hr1
  replace hr := hr'.keep kT (by omega) (fun b hb e => by have := hpl b hb; omega)
  replace kk := (kk.trans k0).then kT (fun i hi e => by omega)
  replace q0 := rBytes_lawful.mono (rBytes_lawful.keep q0 kT (fun b hb e => hb.2.2 e)) (fun b hb => (⟨hb.1, Nat.lt_of_lt_of_le hb.2.1 kT.size, hb.2.2⟩ : NewBut (w.heap.size + 1) w1.heap.size ((w1.alloc (.cells #[.slice none 0 0, .slice none 0 0] 32)).setRow w1.heap.size #[.slice a0 y0.1.length cc0, .slice none 0 0]) b))
  clear hr' k0 kT hr1
  go_wp2_with fail
  clear hst0
  go_fit (ibytes_g x p _ _ hr)
  rintro e w2 ⟨v, rfl, q1, hr', k1⟩
  generalize hy1 : pBytes y0.2 = y1 at hr' q1
  replace hy1 := Lib.hid hy1
  obtain ⟨a1, cc1, hv, q1'⟩ := rBytes_open q1
  simp only [List.cons.injEq, and_true] at hv
  subst hv
  clear q1
  have q1 := q1'
  clear q1'
  have rTl := rowT.lt
  replace rowT := rowT.keep k1 (by omega)
  replace rowR := rowR.keep k1 (by omega)
  replace q0 := rBytes_lawful.mono (rBytes_lawful.keep q0 k1 (fun b hb e => by have := hb.1; omega)) (fun b hb => (⟨hb.1, Nat.lt_of_lt_of_le hb.2.1 k1.size, hb.2.2⟩ : NewBut (w.heap.size + 1) w1.heap.size w2 b))
  replace q1 := rBytes_lawful.mono q1 (fun b hb => (⟨by have := hb.1; omega, hb.2, by have := hb.1; omega⟩ : NewBut (w.heap.size + 1) w1.heap.size w2 b))
  have xc0 : w2.cell? ⟨w1.heap.size, 1, none⟩ = some (.slice none 0 0) := rowT.cell 1
  have xf0 : w2.frozen? ⟨w1.heap.size, 1, none⟩ = false := rowT.frozen 1
  replace rowT := rowT.set 1 (.slice a1 y1.1.length cc1)
  replace rowT : RowIs (w2.setCell ⟨w1.heap.size, 1, none⟩ (.slice a1 y1.1.length cc1)) w1.heap.size 32 [.slice a0 y0.1.length cc0, .slice a1 y1.1.length cc1] := rowT
  have kT := (Keep.refl (· = w1.heap.size) w2).setCell (p := ⟨w1.heap.size, 1, none⟩) (fun _ => rfl) (.slice a1 y1.1.length cc1)
  replace rowR := rowR.keep kT (by omega)
  replace hr := hr'.keep kT (by omega) (fun b hb e => by have := hpl b hb; omega)
  replace kk := (kk.trans k1).then kT (fun i hi e => by omega)
  replace q0 := rBytes_lawful.mono (rBytes_lawful.keep q0 kT (fun b hb e => hb.2.2 e)) (fun b hb => (⟨hb.1, Nat.lt_of_lt_of_le hb.2.1 kT.size, hb.2.2⟩ : NewBut (w.heap.size + 1) w1.heap.size (w2.setCell ⟨w1.heap.size, 1, none⟩ (.slice a1 y1.1.length cc1)) b))
  replace q1 := rBytes_lawful.mono (rBytes_lawful.keep q1 kT (fun b hb e => hb.2.2 e)) (fun b hb => (⟨hb.1, Nat.lt_of_lt_of_le hb.2.1 kT.size, hb.2.2⟩ : NewBut (w.heap.size + 1) w1.heap.size (w2.setCell ⟨w1.heap.size, 1, none⟩ (.slice a1 y1.1.length cc1)) b))
  clear hr' k1 kT rTl
  replace rowT : RowIs (w2.setCell ⟨w1.heap.size, 1, none⟩ (.slice a1 y1.1.length cc1)) w1.heap.size 32 [.slice a0 y0.1.length cc0, .slice a1 y1.1.length cc1] := rowT
  have hld : (wholeSem 32 (.pointer (some ⟨w1.heap.size, 0, none⟩))).run Tryz.prog (w2.setCell ⟨w1.heap.size, 1, none⟩ (.slice a1 y1.1.length cc1)) = .ok (.value (.agg #[.slice a0 y0.1.length cc0, .slice a1 y1.1.length cc1])) (w2.setCell ⟨w1.heap.size, 1, none⟩ (.slice a1 y1.1.length cc1)) := Whole.row S_Span rfl rowT
  have hst := store_run (P := Tryz.prog) (cs := [.slice a0 y0.1.length cc0, .slice a1 y1.1.length cc1]) S_Span rowR rfl rfl rfl
  have rowF := rowR.setRow [.slice a0 y0.1.length cc0, .slice a1 y1.1.length cc1]
  have kS := (Keep.refl (· = w.heap.size) (w2.setCell ⟨w1.heap.size, 1, none⟩ (.slice a1 y1.1.length cc1))).setRow (fun _ => rfl) (#[.slice a0 y0.1.length cc0, .slice a1 y1.1.length cc1] : Array Value)
  have HE : Hid (pGSpan s = (⟨y0.1, y1.1⟩, y1.2)) := by show _ = _; simp only [pGSpan, hy0.out, hy1.out]
  go_wp2_with fail
  refine bodyPost_ret (results_cell_row (by rfl) _ _ _ _ _ _ _ (by rfl) rowF Tryz.underlying32 (by rfl) S_Span.info) rfl ?_
  rw [HE.out]
  replace q0 := rBytes_lawful.mono (rBytes_lawful.keep q0 kS (fun b hb e => by have := hb.1; omega)) (fun b hb => (⟨by have := hb.1; omega, Nat.lt_of_lt_of_le hb.2.1 kS.size⟩ : NewIn w ((w2.setCell ⟨w1.heap.size, 1, none⟩ (.slice a1 y1.1.length cc1)).setRow w.heap.size #[.slice a0 y0.1.length cc0, .slice a1 y1.1.length cc1]) b))
  replace q1 := rBytes_lawful.mono (rBytes_lawful.keep q1 kS (fun b hb e => by have := hb.1; omega)) (fun b hb => (⟨by have := hb.1; omega, Nat.lt_of_lt_of_le hb.2.1 kS.size⟩ : NewIn w ((w2.setCell ⟨w1.heap.size, 1, none⟩ (.slice a1 y1.1.length cc1)).setRow w.heap.size #[.slice a0 y0.1.length cc0, .slice a1 y1.1.length cc1]) b))
  exact ⟨[.slice a0 y0.1.length cc0, .slice a1 y1.1.length cc1], rfl, ⟨[.slice a0 y0.1.length cc0], [.slice a1 y1.1.length cc1], rfl, q0, q1⟩, rfl, hr.keep kS (by omega) (fun b hb e => by have := hpl b hb; omega), kk.then kS (fun i hi e => by omega)⟩
end
theorem ld_Seen (a : Act) (dst : Option Tmp) (x : Operand) (ty : TypeId) (pos : String) (after : Array Edge) (guard : Option (Nat × Bool)) : execOp a.eval { dst := dst, op := .load 118 x, type := ty, pos := pos, after := after, guard := guard } = wholeSem 118 (a.eval x) := rfl
section
attribute [local go_sem ↓] ld_Seen st_Seen
set_option maxRecDepth 100000 in
set_option maxHeartbeats 8000000 in
theorem iSeen_c (x : Nat) (p : Nat → Prop) (s : RdS) (w : World) (h : IsIn w x p s) (hpl : ∀ b, p b → b < w.heap.size) :
    Calls Tryz.prog 116 #[.pointer (some ⟨x, 0, none⟩)] w (GotS rGSeen x p w (pGSeen s)) := by
  have hlt := h.lt
  have rowR : RowIs (w.alloc (.cells #[.slice none 0 0, .slice none 0 0, .slice none 0 0] 118)) w.heap.size 118 [.slice none 0 0, .slice none 0 0, .slice none 0 0] := RowIs.alloc w _ _
  have hr := h.nix ((Keep.refl Nix w).alloc (.cells #[.slice none 0 0, .slice none 0 0, .slice none 0 0] 118))
  have kk : Keep (· = x) w (w.alloc (.cells #[.slice none 0 0, .slice none 0 0, .slice none 0 0] 118)) := (Keep.refl (· = x) w).alloc _
  clear h
  go_enter Tryz.func116, Tryz.ntmps116
  go_wp2_with fail
  go_fit (iSpan_c x p _ _ hr (fun b hb => Nat.lt_of_lt_of_le (hpl b hb) kk.size))
  rintro e w1 ⟨c0, rfl, q0, -, hr', k0⟩
  generalize hy0 : pGSpan s = y0 at hr' q0
  replace hy0 := Lib.hid hy0
  obtain ⟨a_0_From, c_0_From, a_0_To, c_0_To, hce, -⟩ := rGSpan_open q0
  subst hce
  have rRl := rowR.lt
  have ks0 := k0.size
  replace rowR := rowR.keep k0 (by omega)
  have rRl1 := rowR.lt
  replace q0 := rGSpan_lawful.mono q0 (fun b hb => (⟨by have := hb.1; omega, hb.2, by have := hb.2; omega⟩ : NewBut (w.heap.size + 1) w1.heap.size w1 b))
  have hst0 := store_run (P := Tryz.prog) (cs := [.slice a_0_From y0.1.fFrom.length c_0_From, .slice a_0_To y0.1.fTo.length c_0_To, .slice none 0 0]) S_Seen (RowIs.alloc w1 #[.slice none 0 0, .slice none 0 0, .slice none 0 0] 118) rfl rfl rfl
  have rowT := (RowIs.alloc w1 #[.slice none 0 0, .slice none 0 0, .slice none 0 0] 118).setRow [.slice a_0_From y0.1.fFrom.length c_0_From, .slice a_0_To y0.1.fTo.length c_0_To, .slice none 0 0]
  have kT := ((Keep.refl (· = w1.heap.size) w1).alloc (.cells #[.slice none 0 0, .slice none 0 0, .slice none 0 0] 118)).setRow (fun _ => rfl) (#[.slice a_0_From y0.1.fFrom.length c_0_From, .slice a_0_To y0.1.fTo.length c_0_To, .slice none 0 0] : Array Value)
  replace rowR := rowR.keep kT (by omega)
  have hr1 := hr'.lt
  have hxT : x < w1.heap.size := hr1
  replace hr := hr'.keep kT (by omega) (fun b hb e => by have := hpl b hb; omega)
  replace kk := (kk.trans k0).then kT (fun i hi e => by omega)
  replace q0 := rGSpan_lawful.mono (rGSpan_lawful.keep q0 kT (fun b hb e => hb.2.2 e)) (fun b hb => (⟨hb.1, Nat.lt_of_lt_of_le hb.2.1 kT.size, hb.2.2⟩ : NewBut (w.heap.size + 1) w1.heap.size ((w1.alloc (.cells #[.slice none 0 0, .slice none 0 0, .slice none 0 0] 118)).setRow w1.heap.size #[.slice a_0_From y0.1.fFrom.length c_0_From, .slice a_0_To y0.1.fTo.length c_0_To, .slice none 0 0]) b))
  clear hr' k0 kT hr1
  go_wp2_with fail
  clear hst0
  go_fit (ilPair_c x p _ _ hr (fun b hb => Nat.lt_of_lt_of_le (hpl b hb) kk.size))
  rintro e w2 ⟨v, rfl, q1, hr', k1⟩
  generalize hy1 : (pList pGPair) y0.2 = y1 at hr' q1
  replace hy1 := Lib.hid hy1
  obtain ⟨a1, cc1, hv, q1'⟩ := rList_open q1
  simp only [List.cons.injEq, and_true] at hv
  subst hv
  clear q1
  have q1 := q1'
  clear q1'
  have rTl := rowT.lt
  replace rowT := rowT.keep k1 (by omega)
  replace rowR := rowR.keep k1 (by omega)
  replace q0 := rGSpan_lawful.mono (rGSpan_lawful.keep q0 k1 (fun b hb e => by have := hb.1; omega)) (fun b hb => (⟨hb.1, Nat.lt_of_lt_of_le hb.2.1 k1.size, hb.2.2⟩ : NewBut (w.heap.size + 1) w1.heap.size w2 b))
  replace q1 := (rList_lawful rGPair_lawful).mono q1 (fun b hb => (⟨by have := hb.1; omega, hb.2, by have := hb.1; omega⟩ : NewBut (w.heap.size + 1) w1.heap.size w2 b))
  have xc0 : w2.cell? ⟨w1.heap.size, 2, none⟩ = some (.slice none 0 0) := rowT.cell 2
  have xf0 : w2.frozen? ⟨w1.heap.size, 2, none⟩ = false := rowT.frozen 2
  replace rowT := rowT.set 2 (.slice a1 y1.1.length cc1)
  replace rowT : RowIs (w2.setCell ⟨w1.heap.size, 2, none⟩ (.slice a1 y1.1.length cc1)) w1.heap.size 118 [.slice a_0_From y0.1.fFrom.length c_0_From, .slice a_0_To y0.1.fTo.length c_0_To, .slice a1 y1.1.length cc1] := rowT
  have kT := (Keep.refl (· = w1.heap.size) w2).setCell (p := ⟨w1.heap.size, 2, none⟩) (fun _ => rfl) (.slice a1 y1.1.length cc1)
  replace rowR := rowR.keep kT (by omega)
  replace hr := hr'.keep kT (by omega) (fun b hb e => by have := hpl b hb; omega)
  replace kk := (kk.trans k1).then kT (fun i hi e => by omega)
  replace q0 := rGSpan_lawful.mono (rGSpan_lawful.keep q0 kT (fun b hb e => hb.2.2 e)) (fun b hb => (⟨hb.1, Nat.lt_of_lt_of_le hb.2.1 kT.size, hb.2.2⟩ : NewBut (w.heap.size + 1) w1.heap.size (w2.setCell ⟨w1.heap.size, 2, none⟩ (.slice a1 y1.1.length cc1)) b))
  replace q1 := (rList_lawful rGPair_lawful).mono ((rList_lawful rGPair_lawful).keep q1 kT (fun b hb e => hb.2.2 e)) (fun b hb => (⟨hb.1, Nat.lt_of_lt_of_le hb.2.1 kT.size, hb.2.2⟩ : NewBut (w.heap.size + 1) w1.heap.size (w2.setCell ⟨w1.heap.size, 2, none⟩ (.slice a1 y1.1.length cc1)) b))
  clear hr' k1 kT rTl
  replace rowT : RowIs (w2.setCell ⟨w1.heap.size, 2, none⟩ (.slice a1 y1.1.length cc1)) w1.heap.size 118 [.slice a_0_From y0.1.fFrom.length c_0_From, .slice a_0_To y0.1.fTo.length c_0_To, .slice a1 y1.1.length cc1] := rowT
  have hld : (wholeSem 118 (.pointer (some ⟨w1.heap.size, 0, none⟩))).run Tryz.prog (w2.setCell ⟨w1.heap.size, 2, none⟩ (.slice a1 y1.1.length cc1)) = .ok (.value (.agg #[.slice a_0_From y0.1.fFrom.length c_0_From, .slice a_0_To y0.1.fTo.length c_0_To, .slice a1 y1.1.length cc1])) (w2.setCell ⟨w1.heap.size, 2, none⟩ (.slice a1 y1.1.length cc1)) := Whole.row S_Seen rfl rowT
  have hst := store_run (P := Tryz.prog) (cs := [.slice a_0_From y0.1.fFrom.length c_0_From, .slice a_0_To y0.1.fTo.length c_0_To, .slice a1 y1.1.length cc1]) S_Seen rowR rfl rfl rfl
  have rowF := rowR.setRow [.slice a_0_From y0.1.fFrom.length c_0_From, .slice a_0_To y0.1.fTo.length c_0_To, .slice a1 y1.1.length cc1]
  have kS := (Keep.refl (· = w.heap.size) (w2.setCell ⟨w1.heap.size, 2, none⟩ (.slice a1 y1.1.length cc1))).setRow (fun _ => rfl) (#[.slice a_0_From y0.1.fFrom.length c_0_From, .slice a_0_To y0.1.fTo.length c_0_To, .slice a1 y1.1.length cc1] : Array Value)
  have HE : Hid (pGSeen s = (⟨y0.1, y1.1⟩, y1.2)) := by show _ = _; simp only [pGSeen, hy0.out, hy1.out]
  go_wp2_with fail
  refine bodyPost_ret (results_cell_row (by rfl) _ _ _ _ _ _ _ (by rfl) rowF Tryz.underlying118 (by rfl) S_Seen.info) rfl ?_
  rw [HE.out]
  replace q0 := rGSpan_lawful.mono (rGSpan_lawful.keep q0 kS (fun b hb e => by have := hb.1; omega)) (fun b hb => (⟨by have := hb.1; omega, Nat.lt_of_lt_of_le hb.2.1 kS.size⟩ : NewIn w ((w2.setCell ⟨w1.heap.size, 2, none⟩ (.slice a1 y1.1.length cc1)).setRow w.heap.size #[.slice a_0_From y0.1.fFrom.length c_0_From, .slice a_0_To y0.1.fTo.length c_0_To, .slice a1 y1.1.length cc1]) b))
  replace q1 := (rList_lawful rGPair_lawful).mono ((rList_lawful rGPair_lawful).keep q1 kS (fun b hb e => by have := hb.1; omega)) (fun b hb => (⟨by have := hb.1; omega, Nat.lt_of_lt_of_le hb.2.1 kS.size⟩ : NewIn w ((w2.setCell ⟨w1.heap.size, 2, none⟩ (.slice a1 y1.1.length cc1)).setRow w.heap.size #[.slice a_0_From y0.1.fFrom.length c_0_From, .slice a_0_To y0.1.fTo.length c_0_To, .slice a1 y1.1.length cc1]) b))
  exact ⟨[.slice a_0_From y0.1.fFrom.length c_0_From, .slice a_0_To y0.1.fTo.length c_0_To, .slice a1 y1.1.length cc1], rfl, ⟨[.slice a_0_From y0.1.fFrom.length c_0_From, .slice a_0_To y0.1.fTo.length c_0_To], [.slice a1 y1.1.length cc1], rfl, q0, q1⟩, rfl, hr.keep kS (by omega) (fun b hb e => by have := hpl b hb; omega), kk.then kS (fun i hi e => by omega)⟩
end
section
attribute [local go_sem ↓] ls_Seen
set_option maxRecDepth 100000 in
set_option maxHeartbeats 4000000 in
theorem ilSeen_c (x : Nat) (p : Nat → Prop) (s : RdS) (w : World) (h : IsIn w x p s) (hpl : ∀ b, p b → b < w.heap.size) :
    Calls Tryz.prog 42 #[.pointer (some ⟨x, 0, none⟩)] w (GotV (rList rGSeen) x p w (pList pGSeen s)) := by
  have hlt := h.lt
  have hle := numS_le 5000 s
  go_enter Tryz.func42, Tryz.ntmps42
  go_wp2_with fail
  go_fit (imany_g x p s w h)
  rintro e w1 ⟨rfl, h1, k1⟩
  have HP : Hid (pList pGSeen s = pMany pGSeen (numS 5000 s).1 (numS 5000 s).2) := rfl
  clear h
  generalize numS 5000 s = N at h1 HP hle ⊢
  have hsz0 := k1.size
  go_wp2_with fail
  go_loopw [3, 5] (fun l i wr => ∃ (xs : List GSeen) (css : List (List Value)) (s' : RdS) (a : Option Addr) (cap : Nat), l = .slice a xs.length cap ∧ i = .int .i64 xs.length ∧ xs.length ≤ N.1 ∧ Hid (pMany pGSeen N.1 N.2 = (xs ++ (pMany pGSeen (N.1 - xs.length) s').1, (pMany pGSeen (N.1 - xs.length) s').2)) ∧
      wr.ownsRow w.heap.size 118 3 (.slice a xs.length cap) xs.length css.flatten ∧ Els rGSeen wr (fun b => NewIn w wr b ∧ ¬ OwnB (.slice a xs.length cap) b) css xs ∧ IsIn wr x p s' ∧ Keep (· = x) w wr) (fun _ i _ => N.1 - (intOf i).toNat)
  case atStart => exact ⟨[], [], N.2, none, 0, rfl, rfl, Nat.zero_le _, rfl, World.ownsRow_nil _ _ _ _, Els.nil _ _ _, h1, k1⟩
  case round =>
    clear h1 k1 hsz0
    obtain ⟨xs, css, s', a, cap, rfl, rfl, hk, hp, own, els, hr, kk⟩ := hrel
    have hwr := kk.size
    have hfar : xs.length ≤ far := by unfold far; omega
    by_cases hlt2 : xs.length < N.1
    · have hdec : decide (xs.length < N.1) = true := decide_eq_true hlt2
      go_wp2_with fail
      go_fit (fault_c x p s' wr hr)
      rintro e w2 ⟨rfl, rfl⟩
      rcases test_eq s'.e 0 with ⟨ht, he⟩ | ⟨ht, he⟩
      · have t' : (s'.e != 0) = false := by simp [he.out]
        go_wp2_with fail
        go_fit (iSeen_c x p s' wr hr (fun b hb => Nat.lt_of_lt_of_le (hpl b hb) hwr))
        rintro e w3 ⟨c, rfl, hc, h1c, hr3, k3⟩
        have hlc := rGSeen_lawful.len hc
        have hls := list_run (P := Tryz.prog) T_lSeen (by decide) c hlc w3
        have own3 := owned_keep own k3 (fun b hb e => by have := (own.lt b hb).1; omega)
        have kk3 := kk.trans k3
        have hsz3 := k3.size
        have hol : ∀ b, OwnB (.slice a xs.length cap) b → b < wr.heap.size := fun b hb => (own.lt b hb).2
        have hHP : Hid (pMany pGSeen (N.1 - xs.length) s' = ((pGSeen s').1 :: (pMany pGSeen (N.1 - (xs.length + 1)) (pGSeen s').2).1, (pMany pGSeen (N.1 - (xs.length + 1)) (pGSeen s').2).2)) := by
          show _ = _
          rw [show N.1 - xs.length = (N.1 - (xs.length + 1)) + 1 by omega, pMany, if_pos he.out]
        clear own hr hdec
        go_wp2_with (at_builtin; refine wpl_append1_at T_lSeen rfl (.tmp 18) (.tmp 21) rfl w.heap.size rfl own3 rfl ?c0 ?c1 ?c2 ?c3 ?c4 ?_)
        case c0 => simpa using hlc
        case c1 => first | (simpa [ones] using h1c) | (intro u hu; exact (List.all_eq_true.1 h1c) u (by simpa using hu))
        case c2 => unfold maxLen; omega
        case c3 => omega
        case c4 => omega
        intro a' cap' w4 own4 k4 hfresh
        have els4 := els.push rGSeen_lawful hc k3 k4 hlt hwr hol hfresh
        have hr4 : IsIn w4 x p (pGSeen s').2 := hr3.keep k4 (fun hb => by have := (own3.lt _ hb).1; omega) (fun b hb hb2 => by have := (own3.lt _ hb2).1; have := hpl b hb; omega)
        have kk4 : Keep (· = x) w w4 := kk3.then k4 (fun i hi hb => by have := (own3.lt _ hb).1; omega)
        clear own3 els hr3 kk3 k3 k4 hfresh
        go_wp2
        go_roundw
        case rel => exact ⟨xs ++ [(pGSeen s').1], css ++ [c], (pGSeen s').2, a', cap', by simp, by rw [List.length_append]; go_num, by simp; omega, by show _ = _; rw [hp.out, hHP.out]; simp, by simpa using own4, by simpa using els4, hr4, kk4⟩
        case measure => simp [intOf]; omega
      · have t' : (s'.e != 0) = true := by simp [he]
        go_wp2_with fail
        go_ret
        have hHP : pMany pGSeen (N.1 - xs.length) s' = ([], s') := by
          rw [show N.1 - xs.length = (N.1 - (xs.length + 1)) + 1 by omega, pMany, if_neg he]
        refine ⟨_, rfl, ?_, ?_, kk⟩
        · rw [HP.out, hp.out, hHP]; exact Els.list (Nat.le_refl _) own els rGSeen_lawful (by simp) hfar
        · rw [HP.out, hp.out, hHP]; exact hr
    · have hdec : decide (xs.length < N.1) = false := decide_eq_false hlt2
      have hz : N.1 - xs.length = 0 := by omega
      have HZ := Lib.hid hz
      clear hz
      go_wp2_with fail
      go_ret
      refine ⟨_, rfl, ?_, ?_, kk⟩
      · rw [HP.out, hp.out, HZ.out]; exact Els.list (Nat.le_refl _) own els rGSeen_lawful (by simp [pMany]) hfar
      · rw [HP.out, hp.out, HZ.out]; exact hr
end
theorem ld_Owner (a : Act) (dst : Option Tmp) (x : Operand) (ty : TypeId) (pos : String) (after : Array Edge) (guard : Option (Nat × Bool)) : execOp a.eval { dst := dst, op := .load 196 x, type := ty, pos := pos, after := after, guard := guard } = wholeSem 196 (a.eval x) := rfl
section
attribute [local go_sem ↓] ld_Owner st_Owner
set_option maxRecDepth 100000 in
set_option maxHeartbeats 8000000 in
theorem iOwner_c (x : Nat) (p : Nat → Prop) (s : RdS) (w : World) (h : IsIn w x p s) (hpl : ∀ b, p b → b < w.heap.size) :
    Calls Tryz.prog 171 #[.pointer (some ⟨x, 0, none⟩)] w (GotS rGOwner x p w (pGOwner s)) := by
  have hlt := h.lt
  have rowR : RowIs (w.alloc (.cells #[.int .i64 0, .slice none 0 0] 196)) w.heap.size 196 [.int .i64 0, .slice none 0 0] := RowIs.alloc w _ _
  have hr := h.nix ((Keep.refl Nix w).alloc (.cells #[.int .i64 0, .slice none 0 0] 196))
  have kk : Keep (· = x) w (w.alloc (.cells #[.int .i64 0, .slice none 0 0] 196)) := (Keep.refl (· = x) w).alloc _
  clear h
  go_enter Tryz.func171, Tryz.ntmps171
  go_wp2_with fail
  go_fit (iint_g x p _ _ hr)
  rintro e w1 ⟨rfl, hr', k0⟩
  have wf0 : Hid ((Lit.int .i64 (pInt s).1).wf = true) := zag_wf (numS_lt maxU _)
  generalize hy0 : pInt s = y0 at hr' wf0 ⊢
  replace hy0 := Lib.hid hy0
  have rRl := rowR.lt
  have ks0 := k0.size
  replace rowR := rowR.keep k0 (by omega)
  have rRl1 := rowR.lt
  have hst0 := store_run (P := Tryz.prog) (cs := [.int .i64 y0.1, .slice none 0 0]) S_Owner (RowIs.alloc w1 #[.int .i64 0, .slice none 0 0] 196) rfl rfl rfl
  have rowT := (RowIs.alloc w1 #[.int .i64 0, .slice none 0 0] 196).setRow [.int .i64 y0.1, .slice none 0 0]
  have kT := ((Keep.refl (· = w1.heap.size) w1).alloc (.cells #[.int .i64 0, .slice none 0 0] 196)).setRow (fun _ => rfl) (#[.int .i64 y0.1, .slice none 0 0] : Array Value)
  replace rowR := rowR.keep kT (by omega)
  have hr1 := hr'.lt
  have hxT : x < w1.heap.size := hr1
  replace hr := hr'.keep kT (by omega) (fun b hb e => by have := hpl b hb; omega)
  replace kk := (kk.trans k0).then kT (fun i hi e => by omega)
  clear hr' k0 kT hr1
  go_wp2_with fail
  clear hst0
  go_fit (ibytes_g x p _ _ hr)
  rintro e w2 ⟨v, rfl, q1, hr', k1⟩
  generalize hy1 : pBytes y0.2 = y1 at hr' q1
  replace hy1 := Lib.hid hy1
  obtain ⟨a1, cc1, hv, q1'⟩ := rBytes_open q1
  simp only [List.cons.injEq, and_true] at hv
  subst hv
  clear q1
  have q1 := q1'
  clear q1'
  have rTl := rowT.lt
  replace rowT := rowT.keep k1 (by omega)
  replace rowR := rowR.keep k1 (by omega)
  replace q1 := rBytes_lawful.mono q1 (fun b hb => (⟨by have := hb.1; omega, hb.2, by have := hb.1; omega⟩ : NewBut (w.heap.size + 1) w1.heap.size w2 b))
  have xc0 : w2.cell? ⟨w1.heap.size, 1, none⟩ = some (.slice none 0 0) := rowT.cell 1
  have xf0 : w2.frozen? ⟨w1.heap.size, 1, none⟩ = false := rowT.frozen 1
  replace rowT := rowT.set 1 (.slice a1 y1.1.length cc1)
  replace rowT : RowIs (w2.setCell ⟨w1.heap.size, 1, none⟩ (.slice a1 y1.1.length cc1)) w1.heap.size 196 [.int .i64 y0.1, .slice a1 y1.1.length cc1] := rowT
  have kT := (Keep.refl (· = w1.heap.size) w2).setCell (p := ⟨w1.heap.size, 1, none⟩) (fun _ => rfl) (.slice a1 y1.1.length cc1)
  replace rowR := rowR.keep kT (by omega)
  replace hr := hr'.keep kT (by omega) (fun b hb e => by have := hpl b hb; omega)
  replace kk := (kk.trans k1).then kT (fun i hi e => by omega)
  replace q1 := rBytes_lawful.mono (rBytes_lawful.keep q1 kT (fun b hb e => hb.2.2 e)) (fun b hb => (⟨hb.1, Nat.lt_of_lt_of_le hb.2.1 kT.size, hb.2.2⟩ : NewBut (w.heap.size + 1) w1.heap.size (w2.setCell ⟨w1.heap.size, 1, none⟩ (.slice a1 y1.1.length cc1)) b))
  clear hr' k1 kT rTl
  replace rowT : RowIs (w2.setCell ⟨w1.heap.size, 1, none⟩ (.slice a1 y1.1.length cc1)) w1.heap.size 196 [.int .i64 y0.1, .slice a1 y1.1.length cc1] := rowT
  have hld : (wholeSem 196 (.pointer (some ⟨w1.heap.size, 0, none⟩))).run Tryz.prog (w2.setCell ⟨w1.heap.size, 1, none⟩ (.slice a1 y1.1.length cc1)) = .ok (.value (.agg #[.int .i64 y0.1, .slice a1 y1.1.length cc1])) (w2.setCell ⟨w1.heap.size, 1, none⟩ (.slice a1 y1.1.length cc1)) := Whole.row S_Owner rfl rowT
  have hst := store_run (P := Tryz.prog) (cs := [.int .i64 y0.1, .slice a1 y1.1.length cc1]) S_Owner rowR rfl rfl rfl
  have rowF := rowR.setRow [.int .i64 y0.1, .slice a1 y1.1.length cc1]
  have kS := (Keep.refl (· = w.heap.size) (w2.setCell ⟨w1.heap.size, 1, none⟩ (.slice a1 y1.1.length cc1))).setRow (fun _ => rfl) (#[.int .i64 y0.1, .slice a1 y1.1.length cc1] : Array Value)
  have HE : Hid (pGOwner s = (⟨y0.1, y1.1⟩, y1.2)) := by show _ = _; simp only [pGOwner, hy0.out, hy1.out]
  go_wp2_with fail
  refine bodyPost_ret (results_cell_row (by rfl) _ _ _ _ _ _ _ (by rfl) rowF Tryz.underlying196 (by rfl) S_Owner.info) rfl ?_
  rw [HE.out]
  replace q1 := rBytes_lawful.mono (rBytes_lawful.keep q1 kS (fun b hb e => by have := hb.1; omega)) (fun b hb => (⟨by have := hb.1; omega, Nat.lt_of_lt_of_le hb.2.1 kS.size⟩ : NewIn w ((w2.setCell ⟨w1.heap.size, 1, none⟩ (.slice a1 y1.1.length cc1)).setRow w.heap.size #[.int .i64 y0.1, .slice a1 y1.1.length cc1]) b))
  exact ⟨[.int .i64 y0.1, .slice a1 y1.1.length cc1], rfl, ⟨[.int .i64 y0.1], [.slice a1 y1.1.length cc1], rfl, ⟨rfl, wf0.out⟩, q1⟩, rfl, hr.keep kS (by omega) (fun b hb e => by have := hpl b hb; omega), kk.then kS (fun i hi e => by omega)⟩
end
section
attribute [local go_sem ↓] ls_Owner
set_option maxRecDepth 100000 in
set_option maxHeartbeats 4000000 in
theorem ilOwner_c (x : Nat) (p : Nat → Prop) (s : RdS) (w : World) (h : IsIn w x p s) (hpl : ∀ b, p b → b < w.heap.size) :
    Calls Tryz.prog 124 #[.pointer (some ⟨x, 0, none⟩)] w (GotV (rList rGOwner) x p w (pList pGOwner s)) := by
  have hlt := h.lt
  have hle := numS_le 5000 s
  go_enter Tryz.func124, Tryz.ntmps124
  go_wp2_with fail
  go_fit (imany_g x p s w h)
  rintro e w1 ⟨rfl, h1, k1⟩
  have HP : Hid (pList pGOwner s = pMany pGOwner (numS 5000 s).1 (numS 5000 s).2) := rfl
  clear h
  generalize numS 5000 s = N at h1 HP hle ⊢
  have hsz0 := k1.size
  go_wp2_with fail
  go_loopw [3, 5] (fun l i wr => ∃ (xs : List GOwner) (css : List (List Value)) (s' : RdS) (a : Option Addr) (cap : Nat), l = .slice a xs.length cap ∧ i = .int .i64 xs.length ∧ xs.length ≤ N.1 ∧ Hid (pMany pGOwner N.1 N.2 = (xs ++ (pMany pGOwner (N.1 - xs.length) s').1, (pMany pGOwner (N.1 - xs.length) s').2)) ∧
      wr.ownsRow w.heap.size 196 2 (.slice a xs.length cap) xs.length css.flatten ∧ Els rGOwner wr (fun b => NewIn w wr b ∧ ¬ OwnB (.slice a xs.length cap) b) css xs ∧ IsIn wr x p s' ∧ Keep (· = x) w wr) (fun _ i _ => N.1 - (intOf i).toNat)
  case atStart => exact ⟨[], [], N.2, none, 0, rfl, rfl, Nat.zero_le _, rfl, World.ownsRow_nil _ _ _ _, Els.nil _ _ _, h1, k1⟩
  case round =>
    clear h1 k1 hsz0
    obtain ⟨xs, css, s', a, cap, rfl, rfl, hk, hp, own, els, hr, kk⟩ := hrel
    have hwr := kk.size
    have hfar : xs.length ≤ far := by unfold far; omega
    by_cases hlt2 : xs.length < N.1
    · have hdec : decide (xs.length < N.1) = true := decide_eq_true hlt2
      go_wp2_with fail
      go_fit (fault_c x p s' wr hr)
      rintro e w2 ⟨rfl, rfl⟩
      rcases test_eq s'.e 0 with ⟨ht, he⟩ | ⟨ht, he⟩
      · have t' : (s'.e != 0) = false := by simp [he.out]
        go_wp2_with fail
        go_fit (iOwner_c x p s' wr hr (fun b hb => Nat.lt_of_lt_of_le (hpl b hb) hwr))
        rintro e w3 ⟨c, rfl, hc, h1c, hr3, k3⟩
        have hlc := rGOwner_lawful.len hc
        have hls := list_run (P := Tryz.prog) T_lOwner (by decide) c hlc w3
        have own3 := owned_keep own k3 (fun b hb e => by have := (own.lt b hb).1; omega)
        have kk3 := kk.trans k3
        have hsz3 := k3.size
        have hol : ∀ b, OwnB (.slice a xs.length cap) b → b < wr.heap.size := fun b hb => (own.lt b hb).2
        have hHP : Hid (pMany pGOwner (N.1 - xs.length) s' = ((pGOwner s').1 :: (pMany pGOwner (N.1 - (xs.length + 1)) (pGOwner s').2).1, (pMany pGOwner (N.1 - (xs.length + 1)) (pGOwner s').2).2)) := by
          show _ = _
          rw [show N.1 - xs.length = (N.1 - (xs.length + 1)) + 1 by omega, pMany, if_pos he.out]
        clear own hr hdec
        go_wp2_with (at_builtin; refine wpl_append1_at T_lOwner rfl (.tmp 18) (.tmp 21) rfl w.heap.size rfl own3 rfl ?c0 ?c1 ?c2 ?c3 ?c4 ?_)
        case c0 => simpa using hlc
        case c1 => first | (simpa [ones] using h1c) | (intro u hu; exact (List.all_eq_true.1 h1c) u (by simpa using hu))
        case c2 => unfold maxLen; omega
        case c3 => omega
        case c4 => omega
        intro a' cap' w4 own4 k4 hfresh
        have els4 := els.push rGOwner_lawful hc k3 k4 hlt hwr hol hfresh
        have hr4 : IsIn w4 x p (pGOwner s').2 := hr3.keep k4 (fun hb => by have := (own3.lt _ hb).1; omega) (fun b hb hb2 => by have := (own3.lt _ hb2).1; have := hpl b hb; omega)
        have kk4 : Keep (· = x) w w4 := kk3.then k4 (fun i hi hb => by have := (own3.lt _ hb).1; omega)
        clear own3 els hr3 kk3 k3 k4 hfresh
        go_wp2
        go_roundw
        case rel => exact ⟨xs ++ [(pGOwner s').1], css ++ [c], (pGOwner s').2, a', cap', by simp, by rw [List.length_append]; go_num, by simp; omega, by show _ = _; rw [hp.out, hHP.out]; simp, by simpa using own4, by simpa using els4, hr4, kk4⟩
        case measure => simp [intOf]; omega
      · have t' : (s'.e != 0) = true := by simp [he]
        go_wp2_with fail
        go_ret
        have hHP : pMany pGOwner (N.1 - xs.length) s' = ([], s') := by
          rw [show N.1 - xs.length = (N.1 - (xs.length + 1)) + 1 by omega, pMany, if_neg he]
        refine ⟨_, rfl, ?_, ?_, kk⟩
        · rw [HP.out, hp.out, hHP]; exact Els.list (Nat.le_refl _) own els rGOwner_lawful (by simp) hfar
        · rw [HP.out, hp.out, hHP]; exact hr
    · have hdec : decide (xs.length < N.1) = false := decide_eq_false hlt2
      have hz : N.1 - xs.length = 0 := by omega
      have HZ := Lib.hid hz
      clear hz
      go_wp2_with fail
      go_ret
      refine ⟨_, rfl, ?_, ?_, kk⟩
      · rw [HP.out, hp.out, HZ.out]; exact Els.list (Nat.le_refl _) own els rGOwner_lawful (by simp [pMany]) hfar
      · rw [HP.out, hp.out, HZ.out]; exact hr
end
theorem ld_Routes (a : Act) (dst : Option Tmp) (x : Operand) (ty : TypeId) (pos : String) (after : Array Edge) (guard : Option (Nat × Bool)) : execOp a.eval { dst := dst, op := .load 53 x, type := ty, pos := pos, after := after, guard := guard } = wholeSem 53 (a.eval x) := rfl
section
attribute [local go_sem ↓] ld_Routes st_Routes
set_option maxRecDepth 100000 in
set_option maxHeartbeats 8000000 in
theorem iRoutes_c (x : Nat) (p : Nat → Prop) (s : RdS) (w : World) (h : IsIn w x p s) (hpl : ∀ b, p b → b < w.heap.size) :
    Calls Tryz.prog 51 #[.pointer (some ⟨x, 0, none⟩)] w (GotS rGRoutes x p w (pGRoutes s)) := by
  have hlt := h.lt
  have rowR : RowIs (w.alloc (.cells #[.int .i64 0, .int .i64 0, .slice none 0 0, .int .i64 0, .slice none 0 0] 53)) w.heap.size 53 [.int .i64 0, .int .i64 0, .slice none 0 0, .int .i64 0, .slice none 0 0] := RowIs.alloc w _ _
  have hr := h.nix ((Keep.refl Nix w).alloc (.cells #[.int .i64 0, .int .i64 0, .slice none 0 0, .int .i64 0, .slice none 0 0] 53))
  have kk : Keep (· = x) w (w.alloc (.cells #[.int .i64 0, .int .i64 0, .slice none 0 0, .int .i64 0, .slice none 0 0] 53)) := (Keep.refl (· = x) w).alloc _
  clear h
  go_enter Tryz.func51, Tryz.ntmps51
  go_wp2_with fail
  go_fit (iint_g x p _ _ hr)
  rintro e w1 ⟨rfl, hr', k0⟩
  have wf0 : Hid ((Lit.int .i64 (pInt s).1).wf = true) := zag_wf (numS_lt maxU _)
  generalize hy0 : pInt s = y0 at hr' wf0 ⊢
  replace hy0 := Lib.hid hy0
  have rRl := rowR.lt
  have ks0 := k0.size
  replace rowR := rowR.keep k0 (by omega)
  have rRl1 := rowR.lt
  have hst0 := store_run (P := Tryz.prog) (cs := [.int .i64 y0.1, .int .i64 0, .slice none 0 0, .int .i64 0, .slice none 0 0]) S_Routes (RowIs.alloc w1 #[.int .i64 0, .int .i64 0, .slice none 0 0, .int .i64 0, .slice none 0 0] 53) rfl rfl rfl
  have rowT := (RowIs.alloc w1 #[.int .i64 0, .int .i64 0, .slice none 0 0, .int .i64 0, .slice none 0 0] 53).setRow [.int .i64 y0.1, .int .i64 0, .slice none 0 0, .int .i64 0, .slice none 0 0]
  have kT := ((Keep.refl (· = w1.heap.size) w1).alloc (.cells #[.int .i64 0, .int .i64 0, .slice none 0 0, .int .i64 0, .slice none 0 0] 53)).setRow (fun _ => rfl) (#[.int .i64 y0.1, .int .i64 0, .slice none 0 0, .int .i64 0, .slice none 0 0] : Array Value)
  replace rowR := rowR.keep kT (by omega)
  have hr1 := hr'.lt
  have hxT : x < w1.heap.size := hr1
  replace hr := hr'.keep kT (by omega) (fun b hb e => by have := hpl b hb; omega)
  replace kk := (kk.trans k0).then kT (fun i hi e => by omega)
  clear hr' k0 kT hr1
  go_wp2_with fail
  clear hst0
  go_fit (iint_g x p _ _ hr)
  rintro e w2 ⟨rfl, hr', k1⟩
  have wf1 : Hid ((Lit.int .i64 (pInt y0.2).1).wf = true) := zag_wf (numS_lt maxU _)
  generalize hy1 : pInt y0.2 = y1 at hr' wf1 ⊢
  replace hy1 := Lib.hid hy1
  have rTl := rowT.lt
  replace rowT := rowT.keep k1 (by omega)
  replace rowR := rowR.keep k1 (by omega)
  have xc0 : w2.cell? ⟨w1.heap.size, 1, none⟩ = some (.int .i64 0) := rowT.cell 1
  have xf0 : w2.frozen? ⟨w1.heap.size, 1, none⟩ = false := rowT.frozen 1
  replace rowT := rowT.set 1 (.int .i64 y1.1)
  replace rowT : RowIs (w2.setCell ⟨w1.heap.size, 1, none⟩ (.int .i64 y1.1)) w1.heap.size 53 [.int .i64 y0.1, .int .i64 y1.1, .slice none 0 0, .int .i64 0, .slice none 0 0] := rowT
  have kT := (Keep.refl (· = w1.heap.size) w2).setCell (p := ⟨w1.heap.size, 1, none⟩) (fun _ => rfl) (.int .i64 y1.1)
  replace rowR := rowR.keep kT (by omega)
  replace hr := hr'.keep kT (by omega) (fun b hb e => by have := hpl b hb; omega)
  replace kk := (kk.trans k1).then kT (fun i hi e => by omega)
  clear hr' k1 kT rTl
  go_wp2_with fail
  clear xc0 xf0
  go_fit (ilOwner_c x p _ _ hr (fun b hb => Nat.lt_of_lt_of_le (hpl b hb) kk.size))
  rintro e w3 ⟨v, rfl, q2, hr', k2⟩
  generalize hy2 : (pList pGOwner) y1.2 = y2 at hr' q2
  replace hy2 := Lib.hid hy2
  obtain ⟨a2, cc2, hv, q2'⟩ := rList_open q2
  simp only [List.cons.injEq, and_true] at hv
  subst hv
  clear q2
  have q2 := q2'
  clear q2'
  have rTl := rowT.lt
  replace rowT := rowT.keep k2 (by omega)
  replace rowR := rowR.keep k2 (by omega)
  replace q2 := (rList_lawful rGOwner_lawful).mono q2 (fun b hb => (⟨by have := hb.1; omega, hb.2, by have := hb.1; omega⟩ : NewBut (w.heap.size + 1) w1.heap.size w3 b))
  have xc0 : w3.cell? ⟨w1.heap.size, 2, none⟩ = some (.slice none 0 0) := rowT.cell 2
  have xf0 : w3.frozen? ⟨w1.heap.size, 2, none⟩ = false := rowT.frozen 2
  replace rowT := rowT.set 2 (.slice a2 y2.1.length cc2)
  replace rowT : RowIs (w3.setCell ⟨w1.heap.size, 2, none⟩ (.slice a2 y2.1.length cc2)) w1.heap.size 53 [.int .i64 y0.1, .int .i64 y1.1, .slice a2 y2.1.length cc2, .int .i64 0, .slice none 0 0] := rowT
  have kT := (Keep.refl (· = w1.heap.size) w3).setCell (p := ⟨w1.heap.size, 2, none⟩) (fun _ => rfl) (.slice a2 y2.1.length cc2)
  replace rowR := rowR.keep kT (by omega)
  replace hr := hr'.keep kT (by omega) (fun b hb e => by have := hpl b hb; omega)
  replace kk := (kk.trans k2).then kT (fun i hi e => by omega)
  replace q2 := (rList_lawful rGOwner_lawful).mono ((rList_lawful rGOwner_lawful).keep q2 kT (fun b hb e => hb.2.2 e)) (fun b hb => (⟨hb.1, Nat.lt_of_lt_of_le hb.2.1 kT.size, hb.2.2⟩ : NewBut (w.heap.size + 1) w1.heap.size (w3.setCell ⟨w1.heap.size, 2, none⟩ (.slice a2 y2.1.length cc2)) b))
  clear hr' k2 kT rTl
  go_wp2_with fail
  clear xc0 xf0
  go_fit (iint_g x p _ _ hr)
  rintro e w4 ⟨rfl, hr', k3⟩
  have wf3 : Hid ((Lit.int .i64 (pInt y2.2).1).wf = true) := zag_wf (numS_lt maxU _)
  generalize hy3 : pInt y2.2 = y3 at hr' wf3 ⊢
  replace hy3 := Lib.hid hy3
  have rTl := rowT.lt
  replace rowT := rowT.keep k3 (by omega)
  replace rowR := rowR.keep k3 (by omega)
  replace q2 := (rList_lawful rGOwner_lawful).mono ((rList_lawful rGOwner_lawful).keep q2 k3 (fun b hb e => by have := hb.1; omega)) (fun b hb => (⟨hb.1, Nat.lt_of_lt_of_le hb.2.1 k3.size, hb.2.2⟩ : NewBut (w.heap.size + 1) w1.heap.size w4 b))
  have xc0 : w4.cell? ⟨w1.heap.size, 3, none⟩ = some (.int .i64 0) := rowT.cell 3
  have xf0 : w4.frozen? ⟨w1.heap.size, 3, none⟩ = false := rowT.frozen 3
  replace rowT := rowT.set 3 (.int .i64 y3.1)
  replace rowT : RowIs (w4.setCell ⟨w1.heap.size, 3, none⟩ (.int .i64 y3.1)) w1.heap.size 53 [.int .i64 y0.1, .int .i64 y1.1, .slice a2 y2.1.length cc2, .int .i64 y3.1, .slice none 0 0] := rowT
  have kT := (Keep.refl (· = w1.heap.size) w4).setCell (p := ⟨w1.heap.size, 3, none⟩) (fun _ => rfl) (.int .i64 y3.1)
  replace rowR := rowR.keep kT (by omega)
  replace hr := hr'.keep kT (by omega) (fun b hb e => by have := hpl b hb; omega)
  replace kk := (kk.trans k3).then kT (fun i hi e => by omega)
  replace q2 := (rList_lawful rGOwner_lawful).mono ((rList_lawful rGOwner_lawful).keep q2 kT (fun b hb e => hb.2.2 e)) (fun b hb => (⟨hb.1, Nat.lt_of_lt_of_le hb.2.1 kT.size, hb.2.2⟩ : NewBut (w.heap.size + 1) w1.heap.size (w4.setCell ⟨w1.heap.size, 3, none⟩ (.int .i64 y3.1)) b))
  clear hr' k3 kT rTl
  go_wp2_with fail
  clear xc0 xf0
  go_fit (ibytes_g x p _ _ hr)
  rintro e w5 ⟨v, rfl, q4, hr', k4⟩
  generalize hy4 : pBytes y3.2 = y4 at hr' q4
  replace hy4 := Lib.hid hy4
  obtain ⟨a4, cc4, hv, q4'⟩ := rBytes_open q4
  simp only [List.cons.injEq, and_true] at hv
  subst hv
  clear q4
  have q4 := q4'
  clear q4'
  have rTl := rowT.lt
  replace rowT := rowT.keep k4 (by omega)
  replace rowR := rowR.keep k4 (by omega)
  replace q2 := (rList_lawful rGOwner_lawful).mono ((rList_lawful rGOwner_lawful).keep q2 k4 (fun b hb e => by have := hb.1; omega)) (fun b hb => (⟨hb.1, Nat.lt_of_lt_of_le hb.2.1 k4.size, hb.2.2⟩ : NewBut (w.heap.size + 1) w1.heap.size w5 b))
  replace q4 := rBytes_lawful.mono q4 (fun b hb => (⟨by have := hb.1; omega, hb.2, by have := hb.1; omega⟩ : NewBut (w.heap.size + 1) w1.heap.size w5 b))
  have xc0 : w5.cell? ⟨w1.heap.size, 4, none⟩ = some (.slice none 0 0) := rowT.cell 4
  have xf0 : w5.frozen? ⟨w1.heap.size, 4, none⟩ = false := rowT.frozen 4
  replace rowT := rowT.set 4 (.slice a4 y4.1.length cc4)
  replace rowT : RowIs (w5.setCell ⟨w1.heap.size, 4, none⟩ (.slice a4 y4.1.length cc4)) w1.heap.size 53 [.int .i64 y0.1, .int .i64 y1.1, .slice a2 y2.1.length cc2, .int .i64 y3.1, .slice a4 y4.1.length cc4] := rowT
  have kT := (Keep.refl (· = w1.heap.size) w5).setCell (p := ⟨w1.heap.size, 4, none⟩) (fun _ => rfl) (.slice a4 y4.1.length cc4)
  replace rowR := rowR.keep kT (by omega)
  replace hr := hr'.keep kT (by omega) (fun b hb e => by have := hpl b hb; omega)
  replace kk := (kk.trans k4).then kT (fun i hi e => by omega)
  replace q2 := (rList_lawful rGOwner_lawful).mono ((rList_lawful rGOwner_lawful).keep q2 kT (fun b hb e => hb.2.2 e)) (fun b hb => (⟨hb.1, Nat.lt_of_lt_of_le hb.2.1 kT.size, hb.2.2⟩ : NewBut (w.heap.size + 1) w1.heap.size (w5.setCell ⟨w1.heap.size, 4, none⟩ (.slice a4 y4.1.length cc4)) b))
  replace q4 := rBytes_lawful.mono (rBytes_lawful.keep q4 kT (fun b hb e => hb.2.2 e)) (fun b hb => (⟨hb.1, Nat.lt_of_lt_of_le hb.2.1 kT.size, hb.2.2⟩ : NewBut (w.heap.size + 1) w1.heap.size (w5.setCell ⟨w1.heap.size, 4, none⟩ (.slice a4 y4.1.length cc4)) b))
  clear hr' k4 kT rTl
  replace rowT : RowIs (w5.setCell ⟨w1.heap.size, 4, none⟩ (.slice a4 y4.1.length cc4)) w1.heap.size 53 [.int .i64 y0.1, .int .i64 y1.1, .slice a2 y2.1.length cc2, .int .i64 y3.1, .slice a4 y4.1.length cc4] := rowT
  have hld : (wholeSem 53 (.pointer (some ⟨w1.heap.size, 0, none⟩))).run Tryz.prog (w5.setCell ⟨w1.heap.size, 4, none⟩ (.slice a4 y4.1.length cc4)) = .ok (.value (.agg #[.int .i64 y0.1, .int .i64 y1.1, .slice a2 y2.1.length cc2, .int .i64 y3.1, .slice a4 y4.1.length cc4])) (w5.setCell ⟨w1.heap.size, 4, none⟩ (.slice a4 y4.1.length cc4)) := Whole.row S_Routes rfl rowT
  have hst := store_run (P := Tryz.prog) (cs := [.int .i64 y0.1, .int .i64 y1.1, .slice a2 y2.1.length cc2, .int .i64 y3.1, .slice a4 y4.1.length cc4]) S_Routes rowR rfl rfl rfl
  have rowF := rowR.setRow [.int .i64 y0.1, .int .i64 y1.1, .slice a2 y2.1.length cc2, .int .i64 y3.1, .slice a4 y4.1.length cc4]
  have kS := (Keep.refl (· = w.heap.size) (w5.setCell ⟨w1.heap.size, 4, none⟩ (.slice a4 y4.1.length cc4))).setRow (fun _ => rfl) (#[.int .i64 y0.1, .int .i64 y1.1, .slice a2 y2.1.length cc2, .int .i64 y3.1, .slice a4 y4.1.length cc4] : Array Value)
  have HE : Hid (pGRoutes s = (⟨y0.1, y1.1, y2.1, y3.1, y4.1⟩, y4.2)) := by show _ = _; simp only [pGRoutes, hy0.out, hy1.out, hy2.out, hy3.out, hy4.out]
  go_wp2_with fail
  refine bodyPost_ret (results_cell_row (by rfl) _ _ _ _ _ _ _ (by rfl) rowF Tryz.underlying53 (by rfl) S_Routes.info) rfl ?_
  rw [HE.out]
  replace q2 := (rList_lawful rGOwner_lawful).mono ((rList_lawful rGOwner_lawful).keep q2 kS (fun b hb e => by have := hb.1; omega)) (fun b hb => (⟨by have := hb.1; omega, Nat.lt_of_lt_of_le hb.2.1 kS.size⟩ : NewIn w ((w5.setCell ⟨w1.heap.size, 4, none⟩ (.slice a4 y4.1.length cc4)).setRow w.heap.size #[.int .i64 y0.1, .int .i64 y1.1, .slice a2 y2.1.length cc2, .int .i64 y3.1, .slice a4 y4.1.length cc4]) b))
  replace q4 := rBytes_lawful.mono (rBytes_lawful.keep q4 kS (fun b hb e => by have := hb.1; omega)) (fun b hb => (⟨by have := hb.1; omega, Nat.lt_of_lt_of_le hb.2.1 kS.size⟩ : NewIn w ((w5.setCell ⟨w1.heap.size, 4, none⟩ (.slice a4 y4.1.length cc4)).setRow w.heap.size #[.int .i64 y0.1, .int .i64 y1.1, .slice a2 y2.1.length cc2, .int .i64 y3.1, .slice a4 y4.1.length cc4]) b))
  exact ⟨[.int .i64 y0.1, .int .i64 y1.1, .slice a2 y2.1.length cc2, .int .i64 y3.1, .slice a4 y4.1.length cc4], rfl, ⟨[.int .i64 y0.1], [.int .i64 y1.1], [.slice a2 y2.1.length cc2], [.int .i64 y3.1], [.slice a4 y4.1.length cc4], rfl, ⟨rfl, wf0.out⟩, ⟨rfl, wf1.out⟩, q2, ⟨rfl, wf3.out⟩, q4⟩, rfl, hr.keep kS (by omega) (fun b hb e => by have := hpl b hb; omega), kk.then kS (fun i hi e => by omega)⟩
end
end Go.Proofs.YtabgbleldbapbaaGreat
