/- LOCK: who disturbs whom; spans that meet. Printed by mac.py. -/
import Derived.Test.YtfagejfcibgigaaLk3
namespace Go.Proofs.Ytfagejfcibgigaa
open Go.RowKit

def disB (a b : GHeld) : Bool := a.fWrites.any (fun x => rdB b x.fKey || wrB b x.fKey)
def fromF (a b : GSpan) : List UInt8 := if ltB a.fFrom b.fFrom then b.fFrom else a.fFrom
def meetB (a b : GSpan) : Bool := withinF a (fromF a b) && withinF b (fromF a b)
set_option maxRecDepth 100000 in
theorem may11_c {p q : Nat → Prop} (x : GWrite) (cs : List Value) (b : Nat) (h : GHeld) (csh : List Value) (w : World) (hx : rGWrite w p cs x) (hh : rGHeld w q csh h) (row : RowIs w b 28 csh) :
    Calls Try.prog 38 #[.agg cs.toArray, .pointer (some ⟨b, 0, none⟩)] w fun e w' => e = .returned (.bool (rdB h x.fKey || wrB h x.fKey)) ∧ Keep Nix w w' := by
  obtain ⟨eK, fK, eV, fV, rfl, hk, -⟩ := rGWrite_open hx
  have hh2 := hh
  obtain ⟨aK, cK, aS, cS, aW, cW, rfl, -⟩ := rGHeld_open hh
  have kk : Keep Nix w (w.alloc (.cells #[.slice eK x.fKey.length fK, .slice eV x.fValue.length fV, .bool x.fDrop] 48)) := (Keep.refl Nix w).alloc _
  have row0 : RowIs (w.alloc (.cells #[.slice eK x.fKey.length fK, .slice eV x.fValue.length fV, .bool x.fDrop] 48)) w.heap.size 48 [.slice eK x.fKey.length fK, .slice eV x.fValue.length fV, .bool x.fDrop] := RowIs.alloc w _ _
  have rowH := row.keep kk id
  have hR := reads_c h [.int .u64 h.fTxn, .slice aK h.fKeys.length cK, .slice aS h.fSpans.length cS, .slice aW h.fWrites.length cW] eK fK x.fKey (w.alloc (.cells #[.slice eK x.fKey.length fK, .slice eV x.fValue.length fV, .bool x.fDrop] 48)) (rGHeld_lawful.nix hh2 kk) (hk.1.keep kk (fun _ _ h => h))
  have HW : Hid (∀ w2, Keep Nix (w.alloc (.cells #[.slice eK x.fKey.length fK, .slice eV x.fValue.length fV, .bool x.fDrop] 48)) w2 → Calls Try.prog 40 #[.agg #[.int .u64 h.fTxn, .slice aK h.fKeys.length cK, .slice aS h.fSpans.length cS, .slice aW h.fWrites.length cW], .slice eK x.fKey.length fK] w2 fun e w' => e = .returned (.bool (wrB h x.fKey)) ∧ Keep Nix w2 w') := fun w2 k2 =>
    writes_c h [.int .u64 h.fTxn, .slice aK h.fKeys.length cK, .slice aS h.fSpans.length cS, .slice aW h.fWrites.length cW] eK fK x.fKey w2 (rGHeld_lawful.nix hh2 (kk.trans k2)) (hk.1.keep (kk.trans k2) (fun _ _ h => h))
  have HRO : Hid (∀ w2, Keep Nix (w.alloc (.cells #[.slice eK x.fKey.length fK, .slice eV x.fValue.length fV, .bool x.fDrop] 48)) w2 → RowIs w2 w.heap.size 48 [.slice eK x.fKey.length fK, .slice eV x.fValue.length fV, .bool x.fDrop] ∧ RowIs w2 b 28 [.int .u64 h.fTxn, .slice aK h.fKeys.length cK, .slice aS h.fSpans.length cS, .slice aW h.fWrites.length cW]) := fun w2 k2 => ⟨row0.keep k2 id, rowH.keep k2 id⟩
  have x0 := row0.cell 0
  have y0 := rowH.cell 0
  (try simp only [List.getElem?_cons_zero] at x0 y0)
  have y1 := rowH.cell 1
  (try simp only [List.getElem?_cons_succ] at y1); (try simp only [List.getElem?_cons_zero] at y1)
  have y2 := rowH.cell 2
  (try simp only [List.getElem?_cons_succ] at y2); (try simp only [List.getElem?_cons_zero] at y2)
  have y3 := rowH.cell 3
  (try simp only [List.getElem?_cons_succ] at y3); (try simp only [List.getElem?_cons_zero] at y3)
  clear hx hh hh2 row row0 rowH hk
  generalize wrB h x.fKey = v2 at *
  generalize hv1 : rdB h x.fKey = v1 at *
  cases v1 with
  | true =>
    go_enter Try.func38, Try.ntmps38
    go_wp2_with fail
    go_fit hR
    rintro e w1 ⟨rfl, k1⟩
    go_wp2_with fail
    go_ret
    exact ⟨rfl, kk.trans k1⟩
  | false =>
    clear hv1
    go_enter Try.func38, Try.ntmps38
    go_wp2_with fail
    go_fit hR
    rintro e w1 ⟨rfl, k1⟩
    obtain ⟨row0, rowH⟩ := HRO.out w1 k1
    clear x0 y0 y1 y2 y3 hR
    have x0 := row0.cell 0
    have y0 := rowH.cell 0
    (try simp only [List.getElem?_cons_zero] at x0 y0)
    have y1 := rowH.cell 1
    (try simp only [List.getElem?_cons_succ] at y1); (try simp only [List.getElem?_cons_zero] at y1)
    have y2 := rowH.cell 2
    (try simp only [List.getElem?_cons_succ] at y2); (try simp only [List.getElem?_cons_zero] at y2)
    have y3 := rowH.cell 3
    (try simp only [List.getElem?_cons_succ] at y3); (try simp only [List.getElem?_cons_zero] at y3)
    clear row0 rowH
    go_wp2_with fail
    go_fit (HW.out w1 k1)
    rintro e w2 ⟨rfl, k2⟩
    go_wp2_with fail
    go_ret
    exact ⟨rfl, (kk.trans k1).trans k2⟩
set_option maxRecDepth 100000 in
theorem may1_c {p q : Nat → Prop} (h g : GHeld) (csh csg : List Value) (w : World) (hh : rGHeld w p csh h) (hg : rGHeld w q csg g) :
    Calls Try.prog 36 #[.agg csh.toArray, .agg csg.toArray] w fun e w' => e = .returned (.bool (disB h g)) ∧ Keep Nix w w' := by
  have hg2 := hg
  obtain ⟨aK, cK, aS, cS, aW, cW, rfl, -, -, -, hW, -⟩ := rGHeld_open hh
  obtain ⟨bK, dK, bS, dS, bW, dW, rfl, -⟩ := rGHeld_open hg
  have kk : Keep Nix w ((w.alloc (.cells #[.int .u64 h.fTxn, .slice aK h.fKeys.length cK, .slice aS h.fSpans.length cS, .slice aW h.fWrites.length cW] 28)).alloc (.cells #[.int .u64 g.fTxn, .slice bK g.fKeys.length dK, .slice bS g.fSpans.length dS, .slice bW g.fWrites.length dW] 28)) := ((Keep.refl Nix w).alloc _).alloc _
  have row0 : RowIs ((w.alloc (.cells #[.int .u64 h.fTxn, .slice aK h.fKeys.length cK, .slice aS h.fSpans.length cS, .slice aW h.fWrites.length cW] 28)).alloc (.cells #[.int .u64 g.fTxn, .slice bK g.fKeys.length dK, .slice bS g.fSpans.length dS, .slice bW g.fWrites.length dW] 28)) w.heap.size 28 [.int .u64 h.fTxn, .slice aK h.fKeys.length cK, .slice aS h.fSpans.length cS, .slice aW h.fWrites.length cW] := (RowIs.alloc w _ _).keep ((Keep.refl Nix _).alloc _) id
  have row1 : RowIs ((w.alloc (.cells #[.int .u64 h.fTxn, .slice aK h.fKeys.length cK, .slice aS h.fSpans.length cS, .slice aW h.fWrites.length cW] 28)).alloc (.cells #[.int .u64 g.fTxn, .slice bK g.fKeys.length dK, .slice bS g.fSpans.length dS, .slice bW g.fWrites.length dW] 28)) (w.heap.size + 1) 28 [.int .u64 g.fTxn, .slice bK g.fKeys.length dK, .slice bS g.fSpans.length dS, .slice bW g.fWrites.length dW] := by
    have h := RowIs.alloc (w.alloc (.cells #[.int .u64 h.fTxn, .slice aK h.fKeys.length cK, .slice aS h.fSpans.length cS, .slice aW h.fWrites.length cW] 28)) #[.int .u64 g.fTxn, .slice bK g.fKeys.length dK, .slice bS g.fSpans.length dS, .slice bW g.fWrites.length dW] 28
    rw [World.size_alloc] at h
    exact h
  have hcall := cfWrite_c aW h.fWrites.length cW h.fWrites 38 (.pointer (some ⟨w.heap.size + 1, 0, none⟩)) (fun x => rdB g x.fKey || wrB g x.fKey) ((w.alloc (.cells #[.int .u64 h.fTxn, .slice aK h.fKeys.length cK, .slice aS h.fSpans.length cS, .slice aW h.fWrites.length cW] 28)).alloc (.cells #[.int .u64 g.fTxn, .slice bK g.fKeys.length dK, .slice bS g.fSpans.length dS, .slice bW g.fWrites.length dW] 28)) ((rList_lawful rGWrite_lawful).nix hW kk) (fun args w => by rfl) (fun w' x cs k hx rx => may11_c x cs _ g _ w' rx (rGHeld_lawful.nix hg2 (kk.trans k)) (row1.keep k id))
  have HC := Lib.hid hcall
  have x3 := row0.cell 3
  (try simp only [List.getElem?_cons_succ] at x3); (try simp only [List.getElem?_cons_zero] at x3)
  clear hcall hh hg hg2 hW row0 row1
  go_enter Try.func36, Try.ntmps36
  go_wp2_with fail
  go_fit HC.out
  rintro e w1 ⟨rfl, k1⟩
  go_wp2_with fail
  go_ret
  exact ⟨rfl, kk.trans k1⟩
set_option maxRecDepth 100000 in
theorem touched1_c {p q : Nat → Prop} (x : GWrite) (cs : List Value) (b : Nat) (s : GSpan) (css : List Value) (w : World) (hx : rGWrite w p cs x) (hs : rGSpan w q css s) (row : RowIs w b 46 css) :
    Calls Try.prog 72 #[.agg cs.toArray, .pointer (some ⟨b, 0, none⟩)] w fun e w' => e = .returned (.bool (withinF s x.fKey)) ∧ Keep Nix w w' := by
  obtain ⟨eK, fK, eV, fV, rfl, hk, -⟩ := rGWrite_open hx
  have hs2 := hs
  obtain ⟨sF, dF, sT, dT, rfl, -⟩ := rGSpan_open hs
  have kk : Keep Nix w (w.alloc (.cells #[.slice eK x.fKey.length fK, .slice eV x.fValue.length fV, .bool x.fDrop] 48)) := (Keep.refl Nix w).alloc _
  have row0 : RowIs (w.alloc (.cells #[.slice eK x.fKey.length fK, .slice eV x.fValue.length fV, .bool x.fDrop] 48)) w.heap.size 48 [.slice eK x.fKey.length fK, .slice eV x.fValue.length fV, .bool x.fDrop] := RowIs.alloc w _ _
  have rowS := row.keep kk id
  have hI := in_c s [.slice sF s.fFrom.length dF, .slice sT s.fTo.length dT] eK fK x.fKey (w.alloc (.cells #[.slice eK x.fKey.length fK, .slice eV x.fValue.length fV, .bool x.fDrop] 48)) (rGSpan_lawful.nix hs2 kk) (hk.1.keep kk (fun _ _ h => h))
  have x0 := row0.cell 0
  have y0 := rowS.cell 0
  (try simp only [List.getElem?_cons_zero] at x0 y0)
  have y1 := rowS.cell 1
  (try simp only [List.getElem?_cons_succ] at y1); (try simp only [List.getElem?_cons_zero] at y1)
  clear hx hs hs2 row row0 rowS hk
  go_enter Try.func72, Try.ntmps72
  go_wp2_with fail
  go_fit hI
  rintro e w1 ⟨rfl, k1⟩
  go_wp2_with fail
  go_ret
  exact ⟨rfl, kk.trans k1⟩
set_option maxRecDepth 100000 in
theorem touched_c {p q : Nat → Prop} (h : GHeld) (s : GSpan) (csh css : List Value) (w : World) (hh : rGHeld w p csh h) (hs : rGSpan w q css s) :
    Calls Try.prog 48 #[.agg csh.toArray, .agg css.toArray] w fun e w' => e = .returned (.bool (toB h s)) ∧ Keep Nix w w' := by
  have hs2 := hs
  obtain ⟨aK, cK, aS, cS, aW, cW, rfl, -, -, -, hW, -⟩ := rGHeld_open hh
  obtain ⟨sF, dF, sT, dT, rfl, -⟩ := rGSpan_open hs
  have kk : Keep Nix w ((w.alloc (.cells #[.int .u64 h.fTxn, .slice aK h.fKeys.length cK, .slice aS h.fSpans.length cS, .slice aW h.fWrites.length cW] 28)).alloc (.cells #[.slice sF s.fFrom.length dF, .slice sT s.fTo.length dT] 46)) := ((Keep.refl Nix w).alloc _).alloc _
  have row0 : RowIs ((w.alloc (.cells #[.int .u64 h.fTxn, .slice aK h.fKeys.length cK, .slice aS h.fSpans.length cS, .slice aW h.fWrites.length cW] 28)).alloc (.cells #[.slice sF s.fFrom.length dF, .slice sT s.fTo.length dT] 46)) w.heap.size 28 [.int .u64 h.fTxn, .slice aK h.fKeys.length cK, .slice aS h.fSpans.length cS, .slice aW h.fWrites.length cW] := (RowIs.alloc w _ _).keep ((Keep.refl Nix _).alloc _) id
  have row1 : RowIs ((w.alloc (.cells #[.int .u64 h.fTxn, .slice aK h.fKeys.length cK, .slice aS h.fSpans.length cS, .slice aW h.fWrites.length cW] 28)).alloc (.cells #[.slice sF s.fFrom.length dF, .slice sT s.fTo.length dT] 46)) (w.heap.size + 1) 46 [.slice sF s.fFrom.length dF, .slice sT s.fTo.length dT] := by
    have h := RowIs.alloc (w.alloc (.cells #[.int .u64 h.fTxn, .slice aK h.fKeys.length cK, .slice aS h.fSpans.length cS, .slice aW h.fWrites.length cW] 28)) #[.slice sF s.fFrom.length dF, .slice sT s.fTo.length dT] 46
    rw [World.size_alloc] at h
    exact h
  have hcall := cfWrite_c aW h.fWrites.length cW h.fWrites 72 (.pointer (some ⟨w.heap.size + 1, 0, none⟩)) (fun x => withinF s x.fKey) ((w.alloc (.cells #[.int .u64 h.fTxn, .slice aK h.fKeys.length cK, .slice aS h.fSpans.length cS, .slice aW h.fWrites.length cW] 28)).alloc (.cells #[.slice sF s.fFrom.length dF, .slice sT s.fTo.length dT] 46)) ((rList_lawful rGWrite_lawful).nix hW kk) (fun args w => by rfl) (fun w' x cs k hx rx => touched1_c x cs _ s _ w' rx (rGSpan_lawful.nix hs2 (kk.trans k)) (row1.keep k id))
  have HC := Lib.hid hcall
  have x3 := row0.cell 3
  (try simp only [List.getElem?_cons_succ] at x3); (try simp only [List.getElem?_cons_zero] at x3)
  clear hcall hh hs hs2 hW row0 row1
  go_enter Try.func48, Try.ntmps48
  go_wp2_with fail
  go_fit HC.out
  rintro e w1 ⟨rfl, k1⟩
  go_wp2_with fail
  go_ret
  exact ⟨rfl, kk.trans k1⟩
end Go.Proofs.Ytfagejfcibgigaa
