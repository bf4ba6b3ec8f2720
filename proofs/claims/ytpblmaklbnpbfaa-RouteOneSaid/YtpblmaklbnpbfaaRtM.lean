/- ROUTE: a group's part of a span: the reference's Part. Printed by mac.py. -/
import Derived.Test.YtpblmaklbnpbfaaRtI
namespace Go.Proofs.Ytpblmaklbnpbfaa
open Go.RowKit

def rownF (r : GRoutes) (g : Int) : GSpan := if 1 ≤ g ∧ g ≤ r.fBase then ⟨[114], [115]⟩ else ownedF r.fSpans g
def rFrom (x s : GSpan) : List UInt8 := if ltB x.fFrom s.fFrom then s.fFrom else x.fFrom
def rTo (x s : GSpan) : List UInt8 := if !s.fTo.isEmpty && ltB s.fTo x.fTo then s.fTo else x.fTo
def rPartX (x s : GSpan) : GSpan × Bool := if x.fTo.isEmpty || !meetF x s then (⟨[], []⟩, false) else (⟨rFrom x s, rTo x s⟩, true)
def rPartF (r : GRoutes) (g : Int) (s : GSpan) : GSpan × Bool := rPartX (rownF r g) s
def Fr (bs bo n : Nat) : Nat → Prop := fun b => bs + 1 + 1 < b ∧ b ≠ bo ∧ b < n
def OwnAt (w : World) (bs bo : Nat) (A S : List Value) (f t : List UInt8) (wx : World) : Prop := ∃ a1 c1 a2 c2, RowIs wx bo 29 [.slice a1 f.length c1, .slice a2 t.length c2] ∧ LB wx (Fr bs bo wx.heap.size) a1 c1 f ∧ LB wx (Fr bs bo wx.heap.size) a2 c2 t ∧ RowIs wx bs 25 A ∧ RowIs wx (bs + 1) 29 S ∧ RowIs wx (bs + 1 + 1) 29 [.slice none 0 0, .slice none 0 0] ∧ Keep Nix w wx
theorem LB.fr {w w' : World} {bs bo : Nat} {S : Nat → Prop} {a : Option Addr} {cap : Nat} {l : List UInt8} (h : LB w (Fr bs bo w.heap.size) a cap l) (k : Keep S w w') (hS : ∀ b, S b → b = bo) : LB w' (Fr bs bo w'.heap.size) a cap l :=
  h.to k (fun _ hb e => hb.2.1 (hS _ e)) (fun _ hb => ⟨hb.1, hb.2.1, Nat.lt_of_lt_of_le hb.2.2 k.size⟩)
theorem OwnAt.keep {w w1 w2 : World} {bs bo : Nat} {A S : List Value} {f t : List UInt8} (h : OwnAt w bs bo A S f t w1) (k : Keep Nix w1 w2) : OwnAt w bs bo A S f t w2 := by
  obtain ⟨a1, c1, a2, c2, h1, h2, h3, h4, h5, h6, h7⟩ := h
  exact ⟨a1, c1, a2, c2, h1.keep k id, h2.fr k (fun _ e => e.elim), h3.fr k (fun _ e => e.elim), h4.keep k id, h5.keep k id, h6.keep k id, h7.trans k⟩
/-- One of the two is stored anew. -/
theorem OwnAt.from {w w1 : World} {bs bo : Nat} {A S : List Value} {f t f' : List UInt8} {a : Option Addr} {c : Nat} (h : OwnAt w bs bo A S f t w1) (hw : w.heap.size ≤ bo) (hb : bs + 1 + 1 < bo) (L : LB w1 (Fr bs bo w1.heap.size) a c f') : OwnAt w bs bo A S f' t (w1.setCell ⟨bo, 0, none⟩ (.slice a f'.length c)) := by
  obtain ⟨a1, c1, a2, c2, h1, h2, h3, h4, h5, h6, h7⟩ := h
  have kS : Keep (· = bo) w1 (w1.setCell ⟨bo, 0, none⟩ (.slice a f'.length c)) := (Keep.refl (· = bo) w1).setCell (fun _ => rfl) _
  exact ⟨a, c, a2, c2, h1.set 0 _, L.fr kS (fun _ e => e), h3.fr kS (fun _ e => e), h4.keep kS (by omega), h5.keep kS (by omega), h6.keep kS (by omega), h7.then kS (fun i hi e => by omega)⟩
theorem OwnAt.to {w w1 : World} {bs bo : Nat} {A S : List Value} {f t t' : List UInt8} {a : Option Addr} {c : Nat} (h : OwnAt w bs bo A S f t w1) (hw : w.heap.size ≤ bo) (hb : bs + 1 + 1 < bo) (L : LB w1 (Fr bs bo w1.heap.size) a c t') : OwnAt w bs bo A S f t' (w1.setCell ⟨bo, 1, none⟩ (.slice a t'.length c)) := by
  obtain ⟨a1, c1, a2, c2, h1, h2, h3, h4, h5, h6, h7⟩ := h
  have kS : Keep (· = bo) w1 (w1.setCell ⟨bo, 1, none⟩ (.slice a t'.length c)) := (Keep.refl (· = bo) w1).setCell (fun _ => rfl) _
  exact ⟨a1, c1, a, c, h1.set 1 _, h2.fr kS (fun _ e => e), L.fr kS (fun _ e => e), h4.keep kS (by omega), h5.keep kS (by omega), h6.keep kS (by omega), h7.then kS (fun i hi e => by omega)⟩
theorem gtr_eq (a b : List UInt8) : (!Op.bytesLess (strB a).toList (strB b).toList && !((strB a).toList == (strB b).toList)) = Op.bytesLess (strB b).toList (strB a).toList := by
  simp only [strB_toList]
  show (!ltB a b && !(a == b)) = ltB b a
  cases h : ltB a b with
  | true => rw [ltB_asymm h]; rfl
  | false =>
    cases h2 : ltB b a with
    | true =>
      have : a ≠ b := fun e => by rw [e, ltB_irrefl] at h2; cases h2
      simpa using this
    | false => rw [ltB_total h h2]; simp
section
attribute [local go_sem ↓] ldz_Routes
set_option maxRecDepth 100000 in
set_option maxHeartbeats 4000000 in
theorem rPart_c {p q : Nat → Prop} (r : GRoutes) (csr : List Value) (g : Int) (s : GSpan) (css : List Value) (w : World) (hr : rGRoutes w p csr r) (hs : rGSpan w q css s) :
    Calls Try.prog 20 #[.agg csr.toArray, .int .i64 g, .agg css.toArray] w (RetSB w (rPartF r g s)) := by
  have HR := Lib.hid hr
  have HS := Lib.hid hs
  obtain ⟨aS, cS, aC, cC, rfl, -⟩ := rGRoutes_open hr
  obtain ⟨sF, dF, sT, dT, rfl, f1, f2, -⟩ := rGSpan_open hs
  have LF := Lib.hid (show LB w q sF dF s.fFrom from f1)
  have LT := Lib.hid (show LB w q sT dT s.fTo from f2)
  have k1 := fun (w : World) (o : Obj) => (Keep.refl Nix w).alloc o
  have kk : Keep Nix w ((((w.alloc (.cells #[.int .i64 r.fEpoch, .int .i64 r.fBase, .slice aS r.fSpans.length cS, .int .i64 r.fMoving, .slice aC r.fCut.length cC] 25))).alloc (.cells #[.slice sF s.fFrom.length dF, .slice sT s.fTo.length dT] 29)).alloc (.cells #[.slice none 0 0, .slice none 0 0] 29)) := ((k1 _ _).trans (k1 _ _)).trans (k1 _ _)
  have row0 : RowIs ((((w.alloc (.cells #[.int .i64 r.fEpoch, .int .i64 r.fBase, .slice aS r.fSpans.length cS, .int .i64 r.fMoving, .slice aC r.fCut.length cC] 25))).alloc (.cells #[.slice sF s.fFrom.length dF, .slice sT s.fTo.length dT] 29)).alloc (.cells #[.slice none 0 0, .slice none 0 0] 29)) w.heap.size 25 [.int .i64 r.fEpoch, .int .i64 r.fBase, .slice aS r.fSpans.length cS, .int .i64 r.fMoving, .slice aC r.fCut.length cC] := ((RowIs.alloc w _ _).keep (k1 _ _) id).keep (k1 _ _) id
  have rowS : RowIs ((((w.alloc (.cells #[.int .i64 r.fEpoch, .int .i64 r.fBase, .slice aS r.fSpans.length cS, .int .i64 r.fMoving, .slice aC r.fCut.length cC] 25))).alloc (.cells #[.slice sF s.fFrom.length dF, .slice sT s.fTo.length dT] 29)).alloc (.cells #[.slice none 0 0, .slice none 0 0] 29)) (w.heap.size + 1) 29 [.slice sF s.fFrom.length dF, .slice sT s.fTo.length dT] := by
    have h := (RowIs.alloc (w.alloc (.cells #[.int .i64 r.fEpoch, .int .i64 r.fBase, .slice aS r.fSpans.length cS, .int .i64 r.fMoving, .slice aC r.fCut.length cC] 25)) #[.slice sF s.fFrom.length dF, .slice sT s.fTo.length dT] 29).keep (k1 _ (.cells #[.slice none 0 0, .slice none 0 0] 29)) id
    simpa using h
  have rowR : RowIs ((((w.alloc (.cells #[.int .i64 r.fEpoch, .int .i64 r.fBase, .slice aS r.fSpans.length cS, .int .i64 r.fMoving, .slice aC r.fCut.length cC] 25))).alloc (.cells #[.slice sF s.fFrom.length dF, .slice sT s.fTo.length dT] 29)).alloc (.cells #[.slice none 0 0, .slice none 0 0] 29)) (w.heap.size + 1 + 1) 29 [.slice none 0 0, .slice none 0 0] := by
    have h := RowIs.alloc (((w.alloc (.cells #[.int .i64 r.fEpoch, .int .i64 r.fBase, .slice aS r.fSpans.length cS, .int .i64 r.fMoving, .slice aC r.fCut.length cC] 25))).alloc (.cells #[.slice sF s.fFrom.length dF, .slice sT s.fTo.length dT] 29)) #[.slice none 0 0, .slice none 0 0] 29
    simpa using h
  have hinfo : (Try.prog.info? 29).map (·.size) = some 2 := by kernel_rfl
  obtain ⟨v, HV⟩ : ∃ v, Hid (decide (1 ≤ g ∧ g ≤ r.fBase) = v) := ⟨_, rfl⟩
  obtain ⟨Y, HY⟩ : ∃ Y, Hid (rPartF r g s = Y) := ⟨_, rfl⟩
  rw [HY.out]
  clear hr hs k1 f1 f2
  go_enter Try.func20, Try.ntmps20
  go_upto_region 1 with fail
  generalize ((((w.alloc (.cells #[.int .i64 r.fEpoch, .int .i64 r.fBase, .slice aS r.fSpans.length cS, .int .i64 r.fMoving, .slice aC r.fCut.length cC] 25))).alloc (.cells #[.slice sF s.fFrom.length dF, .slice sT s.fTo.length dT] 29)).alloc (.cells #[.slice none 0 0, .slice none 0 0] 29)) = w1 at *
  generalize hbs : w.heap.size = bs at *
  have ldR := Whole.run (P := Try.prog) S_Routes rfl row0
  have hcall := rOwned_c r [.int .i64 r.fEpoch, .int .i64 r.fBase, .slice aS r.fSpans.length cS, .int .i64 r.fMoving, .slice aC r.fCut.length cC] g w1 (rGRoutes_lawful.nix HR.out kk)
  obtain ⟨x, hx⟩ : ∃ x, ownedF r.fSpans g = x := ⟨_, rfl⟩
  rw [hx] at hcall
  have HX := Lib.hid hx
  clear hx
  go_wp2_with fail
  go_fit hcall
  clear hcall
  rintro e w2 ⟨csx, rfl, rx, k2⟩
  obtain ⟨a1, c1, a2, c2, rfl, L1, L2, -⟩ := rGSpan_open rx
  replace L1 : LB w2 (NewIn w1 w2) a1 c1 x.fFrom := L1
  replace L2 : LB w2 (NewIn w1 w2) a2 c2 x.fTo := L2
  have k3 : Keep Nix w2 (w2.alloc (.cells #[.slice a1 x.fFrom.length c1, .slice a2 x.fTo.length c2] 29)) := (Keep.refl Nix w2).alloc _
  have rowX : RowIs (w2.alloc (.cells #[.slice a1 x.fFrom.length c1, .slice a2 x.fTo.length c2] 29)) w2.heap.size 29 [.slice a1 x.fFrom.length c1, .slice a2 x.fTo.length c2] := RowIs.alloc w2 _ _
  have hr1 := rowR.lt
  have hr2 := kk.size
  have hr3 := k2.size
  have hr4 := k3.size
  have R1 : OwnAt w bs w2.heap.size [.int .i64 r.fEpoch, .int .i64 r.fBase, .slice aS r.fSpans.length cS, .int .i64 r.fMoving, .slice aC r.fCut.length cC] [.slice sF s.fFrom.length dF, .slice sT s.fTo.length dT] x.fFrom x.fTo (w2.alloc (.cells #[.slice a1 x.fFrom.length c1, .slice a2 x.fTo.length c2] 29)) :=
    ⟨a1, c1, a2, c2, rowX, L1.to k3 (fun _ _ e => e) (fun b hb => ⟨by have := hb.1; omega, by have := hb.2; omega, by have := hb.2; omega⟩), L2.to k3 (fun _ _ e => e) (fun b hb => ⟨by have := hb.1; omega, by have := hb.2; omega, by have := hb.2; omega⟩), (row0.keep k2 id).keep k3 id, (rowS.keep k2 id).keep k3 id, (rowR.keep k2 id).keep k3 id, (kk.trans k2).trans k3⟩
  have hbo : bs + 1 + 1 < w2.heap.size := by omega
  have hwo : w.heap.size ≤ w2.heap.size := by omega
  clear ldR row0 rowS rowR kk rx k2 k3 L1 L2 rowX hr1 hr2 hr3 hr4
  go_upto_region 2 with fail
  generalize w2.alloc (.cells #[.slice a1 x.fFrom.length c1, .slice a2 x.fTo.length c2] 29) = w3 at *
  generalize w2.heap.size = bo at *
  go_cut [19] from 9 to 62 (fun s19 wx => s19 = .bool v ∧ w3 = wx)
  case first =>
    as_aux_lemma =>
    obtain ⟨a1, c1, a2, c2, rO, L1, L2, r0, rS, rR, kk⟩ := R1
    have y1 := r0.cell 1
    (try simp only [List.getElem?_cons_succ] at y1); (try simp only [List.getElem?_cons_zero] at y1)
    clear r0 rS rR rO L1 L2 HX HY HR HS LF LT
    rcases Int.lt_or_le g 1 with h | h
    · have e : v = false := by rw [← HV.out]; first | (simp; done) | (simp; omega)
      subst e
      clear HV
      go_wp2_with fail
      go_meet
      exact ⟨by first | rfl | (simp; done) | (simp; omega), rfl⟩
    · rcases Int.lt_or_le r.fBase g with h2 | h2
      · have e : v = false := by rw [← HV.out]; first | (simp; done) | (simp; omega)
        subst e
        clear HV
        go_wp2_with fail
        go_meet
        exact ⟨by first | rfl | (simp; done) | (simp; omega), rfl⟩
      · have e : v = true := by rw [← HV.out]; first | (simp; done) | (simp; omega)
        subst e
        clear HV
        go_wp2_with fail
        go_meet
        exact ⟨by first | rfl | (simp; done) | (simp; omega), rfl⟩
  case rest =>
  obtain ⟨rfl, rfl⟩ := hcut
  go_upto_if 19 with fail
  go_cut [] from 9 to 62 (fun wx => OwnAt w bs bo [.int .i64 r.fEpoch, .int .i64 r.fBase, .slice aS r.fSpans.length cS, .int .i64 r.fMoving, .slice aC r.fCut.length cC] [.slice sF s.fFrom.length dF, .slice sT s.fTo.length dT] (rownF r g).fFrom (rownF r g).fTo wx)
  case first =>
    as_aux_lemma =>
    cases v with
    | false =>
      have e : rownF r g = x := by unfold rownF; rw [if_neg (by simpa using HV.out)]; exact HX.out
      clear HV HX HY HR HS LF LT
      go_wp2_with fail
      go_meet
      rw [e]
      exact R1
    | true =>
      have e : rownF r g = ⟨[114], [115]⟩ := by unfold rownF; rw [if_pos (by simpa using HV.out)]
      have kA : Keep Nix w3 ((w3.alloc (.cells #[.int .u8 114] 5)).alloc (.cells #[.int .u8 115] 5)) := ((Keep.refl Nix w3).alloc _).alloc _
      have hsz : (w3.alloc (.cells #[.int .u8 114] 5)).heap.size = w3.heap.size + 1 := by simp
      have hsz2 : ((w3.alloc (.cells #[.int .u8 114] 5)).alloc (.cells #[.int .u8 115] 5)).heap.size = w3.heap.size + 1 + 1 := by simp
      have h3 : bo < w3.heap.size := by obtain ⟨_, _, _, _, rO, -⟩ := R1; exact rO.lt
      have rowA : RowIs ((w3.alloc (.cells #[.int .u8 114] 5)).alloc (.cells #[.int .u8 115] 5)) w3.heap.size 5 [.int .u8 114] := (RowIs.alloc w3 _ _).keep ((Keep.refl Nix _).alloc _) id
      have rowB : RowIs ((w3.alloc (.cells #[.int .u8 114] 5)).alloc (.cells #[.int .u8 115] 5)) (w3.heap.size + 1) 5 [.int .u8 115] := by
        have h := RowIs.alloc (w3.alloc (.cells #[.int .u8 114] 5)) #[.int .u8 115] 5
        rw [hsz] at h
        exact h
      have LA : LB ((w3.alloc (.cells #[.int .u8 114] 5)).alloc (.cells #[.int .u8 115] 5)) (Fr bs bo ((w3.alloc (.cells #[.int .u8 114] 5)).alloc (.cells #[.int .u8 115] 5)).heap.size) (some ⟨w3.heap.size, 0, none⟩) 1 [114] := LB.row (c := 114) rowA _ ⟨by omega, by omega, by omega⟩
      have LB2 : LB ((w3.alloc (.cells #[.int .u8 114] 5)).alloc (.cells #[.int .u8 115] 5)) (Fr bs bo ((w3.alloc (.cells #[.int .u8 114] 5)).alloc (.cells #[.int .u8 115] 5)).heap.size) (some ⟨w3.heap.size + 1, 0, none⟩) 1 [115] := LB.row (c := 115) rowB _ ⟨by omega, by omega, by omega⟩
      have R2 := R1.keep kA
      have R3 := R2.from hwo hbo LA
      have kS : Keep (· = bo) ((w3.alloc (.cells #[.int .u8 114] 5)).alloc (.cells #[.int .u8 115] 5)) ((((w3.alloc (.cells #[.int .u8 114] 5)).alloc (.cells #[.int .u8 115] 5))).setCell ⟨bo, 0, none⟩ (.slice (some ⟨w3.heap.size, 0, none⟩) 1 1)) := (Keep.refl (· = bo) _).setCell (fun _ => rfl) _
      have R4 := R3.to hwo hbo (LB2.fr kS (fun _ e => e))
      iterate 4 rw [World.setCell_alloc_past _ _ _ _ (by first | omega | (simp; omega))] at R4
      clear R2
      obtain ⟨a1, c1, a2, c2, rO, L1, L2, r0, rS, rR, kk⟩ := R1
      have y1 := r0.cell 1
      (try simp only [List.getElem?_cons_succ] at y1); (try simp only [List.getElem?_cons_zero] at y1)
      have s0 := rS.cell 0
      (try simp only [List.getElem?_cons_zero] at s0)
      have s1 := rS.cell 1
      (try simp only [List.getElem?_cons_succ] at s1); (try simp only [List.getElem?_cons_zero] at s1)
      have o0 := rO.cell 0
      (try simp only [List.getElem?_cons_zero] at o0)
      have o1 := rO.cell 1
      (try simp only [List.getElem?_cons_succ] at o1); (try simp only [List.getElem?_cons_zero] at o1)
      have g0 := rO.frozen 0
      have g1 := rO.frozen 1
      clear R3 HV HX HY HR HS LF LT LA LB2 rowA rowB kA kS hsz hsz2 r0 rS rR rO L1 L2 kk
      go_wp2_with fail
      go_meet
      rw [e]
      exact R4
  case rest =>
  clear R1 HX HV
  replace HY : Hid (rPartX (rownF r g) s = Y) := HY.out
  generalize rownF r g = x at *
  obtain ⟨vm, HVM⟩ : ∃ v, Hid ((x.fTo.isEmpty || !meetF x s) = v) := ⟨_, rfl⟩
  replace HY : Hid ((if vm then (⟨[], []⟩, false) else (⟨rFrom x s, rTo x s⟩, true)) = Y) := by show _ = _; rw [← HY.out, rPartX, HVM.out]
  go_upto_region 4 with fail
  have R := Lib.hid hcut
  clear hcut
  go_cut [32] from 9 to 62 (fun s32 wx => s32 = .bool vm ∧ Keep Nix wc wx)
  case first =>
    as_aux_lemma =>
    obtain ⟨a1, c1, a2, c2, rO, L1, L2, r0, rS, rR, kk⟩ := R.out
    have hcall := meet_c x s _ _ wc (mkS L1 L2) (rGSpan_lawful.nix HS.out kk)
    have y1 := r0.cell 1
    (try simp only [List.getElem?_cons_succ] at y1); (try simp only [List.getElem?_cons_zero] at y1)
    have s0 := rS.cell 0
    (try simp only [List.getElem?_cons_zero] at s0)
    have s1 := rS.cell 1
    (try simp only [List.getElem?_cons_succ] at s1); (try simp only [List.getElem?_cons_zero] at s1)
    have o0 := rO.cell 0
    (try simp only [List.getElem?_cons_zero] at o0)
    have o1 := rO.cell 1
    (try simp only [List.getElem?_cons_succ] at o1); (try simp only [List.getElem?_cons_zero] at o1)
    have g0 := rO.frozen 0
    have g1 := rO.frozen 1
    clear r0 rS rR rO L1 L2 HR HS LF LT HY kk
    by_cases ht : x.fTo = []
    · have hn := len0 ht
      have e : vm = true := by rw [← HVM.out, ht]; rfl
      clear ht hcall HVM
      go_wp2_with fail
      go_meet
      exact ⟨by rw [e], Keep.refl _ _⟩
    · have hn := len1 ht
      obtain ⟨mv, hmv⟩ : ∃ v, meetF x s = v := ⟨_, rfl⟩
      rw [hmv] at hcall
      have e : vm = !mv := by rw [← HVM.out, hmv, show x.fTo.isEmpty = false by simpa using ht]; rfl
      clear ht HVM hmv
      go_wp2_with fail
      go_fit hcall
      clear hcall
      rintro e' w' ⟨rfl, k4⟩
      go_wp2_with fail
      go_meet
      exact ⟨by rw [e], k4⟩
  case rest =>
  obtain ⟨rfl, k4⟩ := hcut
  have R1 := R.out.keep k4
  clear k4 R
  go_upto_if 32 with fail
  cases vm with
  | true =>
    have HQ : Hid (Y = (⟨[], []⟩, false)) := HY.out.symm
    rw [HQ.out]
    obtain ⟨a1, c1, a2, c2, rO, L1, L2, r0, rS, rR, kk⟩ := R1
    have q0 := rR.cell 0
    (try simp only [List.getElem?_cons_zero] at q0)
    have q1 := rR.cell 1
    (try simp only [List.getElem?_cons_succ] at q1); (try simp only [List.getElem?_cons_zero] at q1)
    have h0 := rR.frozen 0
    have h1 := rR.frozen 1
    have rowF := (rR.set 0 (.slice none 0 0)).set 1 (.slice none 0 0)
    have kS : Keep (· = bs + 1 + 1) wc ((wc.setCell ⟨bs + 1 + 1, 0, none⟩ (.slice none 0 0)).setCell ⟨bs + 1 + 1, 1, none⟩ (.slice none 0 0)) := ((Keep.refl (· = bs + 1 + 1) wc).setCell (fun _ => rfl) _).setCell (fun _ => rfl) _
    have k5 := kk.then kS (fun i hi e => by omega)
    clear r0 rS rR rO L1 L2 kS kk HY HQ HVM
    go_wp2_with fail
    refine bodyPost_ret (results_cell_row2 (by rfl) _ _ _ _ _ _ _ (by rfl) rowF Try.underlying29 (by rfl) hinfo) rfl ?_
    exact ⟨_, rfl, mkS0 _ _, k5⟩
  | false =>
  replace HY : Hid (Y = (⟨rFrom x s, rTo x s⟩, true)) := HY.out.symm
  clear HVM
  obtain ⟨vf, hvf⟩ : ∃ v, ltB x.fFrom s.fFrom = v := ⟨_, rfl⟩
  have ef : rFrom x s = if vf then s.fFrom else x.fFrom := by unfold rFrom; rw [hvf]
  have EF := Lib.hid ef
  obtain ⟨f, hf⟩ : ∃ f, rFrom x s = f := ⟨_, rfl⟩
  rw [hf] at EF HY
  have t1 : Op.bytesLess (strB x.fFrom).toList (strB s.fFrom).toList = vf := by rw [strB_toList, strB_toList]; exact hvf
  clear ef hf hvf
  obtain ⟨vt, HVT⟩ : ∃ v, Hid ((!s.fTo.isEmpty && ltB s.fTo x.fTo) = v) := ⟨_, rfl⟩
  have ET : Hid (rTo x s = if vt then s.fTo else x.fTo) := by show _ = _; unfold rTo; rw [HVT.out]
  obtain ⟨t, ht⟩ : ∃ t, rTo x s = t := ⟨_, rfl⟩
  rw [ht] at ET HY
  clear ht
  go_upto_region 6 with fail
  go_cut [40] from 9 to 62 (fun s40 wx => s40 = .bool vf ∧ wc = wx)
  case first =>
    as_aux_lemma =>
    obtain ⟨a1, c1, a2, c2, rO, L1, L2, r0, rS, rR, kk⟩ := R1
    have e1 := conv_bytes (P := Try.prog) Try.underlying23 Try.underlying5 Try.underlying9 (cap := dF) rfl (LB.keep LF.out kk).1
    have e2 := conv_bytes (P := Try.prog) Try.underlying23 Try.underlying5 Try.underlying9 (cap := c1) rfl L1.1
    have y1 := r0.cell 1
    (try simp only [List.getElem?_cons_succ] at y1); (try simp only [List.getElem?_cons_zero] at y1)
    have s0 := rS.cell 0
    (try simp only [List.getElem?_cons_zero] at s0)
    have s1 := rS.cell 1
    (try simp only [List.getElem?_cons_succ] at s1); (try simp only [List.getElem?_cons_zero] at s1)
    have o0 := rO.cell 0
    (try simp only [List.getElem?_cons_zero] at o0)
    have o1 := rO.cell 1
    (try simp only [List.getElem?_cons_succ] at o1); (try simp only [List.getElem?_cons_zero] at o1)
    have g0 := rO.frozen 0
    have g1 := rO.frozen 1
    have e3 := gtr_eq s.fFrom x.fFrom
    have E3 := Lib.hid e3
    clear r0 rS rR rO L1 L2 HR HS LF LT kk EF HVT ET e3
    go_wp2_with fail
    go_meet
    exact ⟨congrArg Value.bool (E3.out.trans t1), rfl⟩
  case rest =>
  obtain ⟨rfl, rfl⟩ := hcut
  clear t1
  go_upto_if 40 with fail
  go_cut [] from 9 to 62 (fun wx => OwnAt w bs bo [.int .i64 r.fEpoch, .int .i64 r.fBase, .slice aS r.fSpans.length cS, .int .i64 r.fMoving, .slice aC r.fCut.length cC] [.slice sF s.fFrom.length dF, .slice sT s.fTo.length dT] f x.fTo wx)
  case first =>
    as_aux_lemma =>
    cases vf with
    | false =>
      have e : f = x.fFrom := EF.out
      clear EF HR HS LF LT
      go_wp2_with fail
      go_meet
      rw [e]
      exact R1
    | true =>
      have e : f = s.fFrom := EF.out
      clear EF
      have hwc : bo < wc.heap.size := by obtain ⟨_, _, _, _, rO, -⟩ := R1; exact rO.lt
      have kw : Keep Nix w wc := by obtain ⟨_, _, _, _, _, _, _, _, _, _, kk⟩ := R1; exact kk
      have hcall := cpR_c sF dF s.fFrom wc (LB.keep LF.out kw)
      have R2 := Lib.hid R1
      obtain ⟨a1, c1, a2, c2, rO, L1, L2, r0, rS, rR, kk⟩ := R1
      have y1 := r0.cell 1
      (try simp only [List.getElem?_cons_succ] at y1); (try simp only [List.getElem?_cons_zero] at y1)
      have s0 := rS.cell 0
      (try simp only [List.getElem?_cons_zero] at s0)
      have s1 := rS.cell 1
      (try simp only [List.getElem?_cons_succ] at s1); (try simp only [List.getElem?_cons_zero] at s1)
      have o0 := rO.cell 0
      (try simp only [List.getElem?_cons_zero] at o0)
      have o1 := rO.cell 1
      (try simp only [List.getElem?_cons_succ] at o1); (try simp only [List.getElem?_cons_zero] at o1)
      have g0 := rO.frozen 0
      have g1 := rO.frozen 1
      clear r0 rS rR rO L1 L2 HR HS LF LT kk
      go_wp2_with fail
      go_fit hcall
      clear hcall
      rintro e' w' ⟨a', c', rfl, L', k4⟩
      have hs4 := k4.size
      have R3 := R2.out.keep k4
      replace L' : LB w' (Fr bs bo w'.heap.size) a' c' s.fFrom := LB.mono (show LB w' (NewIn wc w') a' c' s.fFrom from L') (fun b hb => ⟨by have := hb.1; omega, by have := hb.1; omega, hb.2⟩)
      have R4 := R3.from hwo hbo L'
      clear y1 s0 s1 o0 o1 g0 g1
      clear a1 c1 a2 c2 k4 R2
      obtain ⟨a1, c1, a2, c2, rO, L1, L2, r0, rS, rR, kk⟩ := R3
      have y1 := r0.cell 1
      (try simp only [List.getElem?_cons_succ] at y1); (try simp only [List.getElem?_cons_zero] at y1)
      have s0 := rS.cell 0
      (try simp only [List.getElem?_cons_zero] at s0)
      have s1 := rS.cell 1
      (try simp only [List.getElem?_cons_succ] at s1); (try simp only [List.getElem?_cons_zero] at s1)
      have o0 := rO.cell 0
      (try simp only [List.getElem?_cons_zero] at o0)
      have o1 := rO.cell 1
      (try simp only [List.getElem?_cons_succ] at o1); (try simp only [List.getElem?_cons_zero] at o1)
      have g0 := rO.frozen 0
      have g1 := rO.frozen 1
      clear r0 rS rR rO L1 L2 kk
      go_wp2_with fail
      go_meet
      rw [e]
      exact R4
  case rest =>
  have R2 := Lib.hid hcut
  clear R1 hcut EF
  go_upto_region 8 with fail
  go_cut [57] from 9 to 62 (fun s57 wx => s57 = .bool vt ∧ wc = wx)
  case first =>
    as_aux_lemma =>
    obtain ⟨a1, c1, a2, c2, rO, L1, L2, r0, rS, rR, kk⟩ := R2.out
    have e1 := conv_bytes (P := Try.prog) Try.underlying23 Try.underlying5 Try.underlying9 (cap := dT) rfl (LB.keep LT.out kk).1
    have e2 := conv_bytes (P := Try.prog) Try.underlying23 Try.underlying5 Try.underlying9 (cap := c2) rfl L2.1
    have y1 := r0.cell 1
    (try simp only [List.getElem?_cons_succ] at y1); (try simp only [List.getElem?_cons_zero] at y1)
    have s0 := rS.cell 0
    (try simp only [List.getElem?_cons_zero] at s0)
    have s1 := rS.cell 1
    (try simp only [List.getElem?_cons_succ] at s1); (try simp only [List.getElem?_cons_zero] at s1)
    have o0 := rO.cell 0
    (try simp only [List.getElem?_cons_zero] at o0)
    have o1 := rO.cell 1
    (try simp only [List.getElem?_cons_succ] at o1); (try simp only [List.getElem?_cons_zero] at o1)
    have g0 := rO.frozen 0
    have g1 := rO.frozen 1
    clear r0 rS rR rO L1 L2 HR HS LF LT kk ET R2
    by_cases hs : s.fTo = []
    · have hn := pos0 hs
      have e : vt = false := by rw [← HVT.out, hs]; rfl
      clear hs HVT
      go_wp2_with fail
      go_meet
      exact ⟨by rw [e], rfl⟩
    · have hn := pos1 hs
      obtain ⟨v, hv⟩ : ∃ v, ltB s.fTo x.fTo = v := ⟨_, rfl⟩
      have t2 : Op.bytesLess (strB s.fTo).toList (strB x.fTo).toList = v := by rw [strB_toList, strB_toList]; exact hv
      have e : vt = v := by rw [← HVT.out, hv, show s.fTo.isEmpty = false by simpa using hs]; rfl
      clear hs HVT hv
      go_wp2_with fail
      go_meet
      exact ⟨by rw [e], rfl⟩
  case rest =>
  obtain ⟨rfl, rfl⟩ := hcut
  clear HVT
  go_upto_if 57 with fail
  go_cut [] from 9 to 62 (fun wx => OwnAt w bs bo [.int .i64 r.fEpoch, .int .i64 r.fBase, .slice aS r.fSpans.length cS, .int .i64 r.fMoving, .slice aC r.fCut.length cC] [.slice sF s.fFrom.length dF, .slice sT s.fTo.length dT] f t wx)
  case first =>
    as_aux_lemma =>
    cases vt with
    | false =>
      have e : t = x.fTo := ET.out
      clear ET HR HS LF LT
      go_wp2_with fail
      go_meet
      rw [e]
      exact R2.out
    | true =>
      have e : t = s.fTo := ET.out
      clear ET
      obtain ⟨a1, c1, a2, c2, rO, L1, L2, r0, rS, rR, kk⟩ := R2.out
      have hwc : bo < wc.heap.size := rO.lt
      have hcall := cpR_c sT dT s.fTo wc (LB.keep LT.out kk)
      have y1 := r0.cell 1
      (try simp only [List.getElem?_cons_succ] at y1); (try simp only [List.getElem?_cons_zero] at y1)
      have s0 := rS.cell 0
      (try simp only [List.getElem?_cons_zero] at s0)
      have s1 := rS.cell 1
      (try simp only [List.getElem?_cons_succ] at s1); (try simp only [List.getElem?_cons_zero] at s1)
      have o0 := rO.cell 0
      (try simp only [List.getElem?_cons_zero] at o0)
      have o1 := rO.cell 1
      (try simp only [List.getElem?_cons_succ] at o1); (try simp only [List.getElem?_cons_zero] at o1)
      have g0 := rO.frozen 0
      have g1 := rO.frozen 1
      clear r0 rS rR rO L1 L2 HR HS LF LT kk
      go_wp2_with fail
      go_fit hcall
      clear hcall
      rintro e' w' ⟨a', c', rfl, L', k4⟩
      have hs4 := k4.size
      have R3 := R2.out.keep k4
      replace L' : LB w' (Fr bs bo w'.heap.size) a' c' s.fTo := LB.mono (show LB w' (NewIn wc w') a' c' s.fTo from L') (fun b hb => ⟨by have := hb.1; omega, by have := hb.1; omega, hb.2⟩)
      have R4 := R3.to hwo hbo L'
      clear y1 s0 s1 o0 o1 g0 g1
      clear a1 c1 a2 c2 k4 R2
      obtain ⟨a1, c1, a2, c2, rO, L1, L2, r0, rS, rR, kk⟩ := R3
      have y1 := r0.cell 1
      (try simp only [List.getElem?_cons_succ] at y1); (try simp only [List.getElem?_cons_zero] at y1)
      have s0 := rS.cell 0
      (try simp only [List.getElem?_cons_zero] at s0)
      have s1 := rS.cell 1
      (try simp only [List.getElem?_cons_succ] at s1); (try simp only [List.getElem?_cons_zero] at s1)
      have o0 := rO.cell 0
      (try simp only [List.getElem?_cons_zero] at o0)
      have o1 := rO.cell 1
      (try simp only [List.getElem?_cons_succ] at o1); (try simp only [List.getElem?_cons_zero] at o1)
      have g0 := rO.frozen 0
      have g1 := rO.frozen 1
      clear r0 rS rR rO L1 L2 kk
      go_wp2_with fail
      go_meet
      rw [e]
      exact R4
  case rest =>
  obtain ⟨a1, c1, a2, c2, rO, L1, L2, r0, rS, rR, kk⟩ := hcut
  have y1 := r0.cell 1
  (try simp only [List.getElem?_cons_succ] at y1); (try simp only [List.getElem?_cons_zero] at y1)
  have s0 := rS.cell 0
  (try simp only [List.getElem?_cons_zero] at s0)
  have s1 := rS.cell 1
  (try simp only [List.getElem?_cons_succ] at s1); (try simp only [List.getElem?_cons_zero] at s1)
  have o0 := rO.cell 0
  (try simp only [List.getElem?_cons_zero] at o0)
  have o1 := rO.cell 1
  (try simp only [List.getElem?_cons_succ] at o1); (try simp only [List.getElem?_cons_zero] at o1)
  have g0 := rO.frozen 0
  have g1 := rO.frozen 1
  have q0 := rR.cell 0
  (try simp only [List.getElem?_cons_zero] at q0)
  have q1 := rR.cell 1
  (try simp only [List.getElem?_cons_succ] at q1); (try simp only [List.getElem?_cons_zero] at q1)
  have h0 := rR.frozen 0
  have h1 := rR.frozen 1
  have rowF := (rR.set 0 (.slice a1 f.length c1)).set 1 (.slice a2 t.length c2)
  have kS : Keep (· = bs + 1 + 1) wc ((wc.setCell ⟨bs + 1 + 1, 0, none⟩ (.slice a1 f.length c1)).setCell ⟨bs + 1 + 1, 1, none⟩ (.slice a2 t.length c2)) := ((Keep.refl (· = bs + 1 + 1) wc).setCell (fun _ => rfl) _).setCell (fun _ => rfl) _
  have k5 := kk.then kS (fun i hi e => by omega)
  have hs5 := kS.size
  have M1 := L1.to (s' := NewIn w _) kS (fun i hi e => by have := hi.1; omega) (fun i hi => ⟨by have := hi.1; omega, by have h := hi.2.2; exact Nat.lt_of_lt_of_le h hs5⟩)
  have M2 := L2.to (s' := NewIn w _) kS (fun i hi e => by have := hi.1; omega) (fun i hi => ⟨by have := hi.1; omega, by have h := hi.2.2; exact Nat.lt_of_lt_of_le h hs5⟩)
  clear r0 rS rR rO L1 L2 kS kk R2 ET HR HS LF LT
  go_wp2_with fail
  refine bodyPost_ret (results_cell_row2 (by rfl) _ _ _ _ _ _ _ (by rfl) rowF Try.underlying29 (by rfl) hinfo) rfl ?_
  rw [HY.out]
  exact ⟨_, rfl, mkS M1 M2, k5⟩
end
end Go.Proofs.Ytpblmaklbnpbfaa
