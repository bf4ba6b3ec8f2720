/- LOCK: what a lock touches; New; the nil table's plain answers. Printed by mac.py. -/
import Derived.Test.YtfagejfcibgigaaQLk6
namespace Go.Proofs.Ytfagejfcibgigaa
open Go.RowKit

set_option maxRecDepth 100000 in
set_option maxHeartbeats 1000000 in
theorem touches1_c {p q : Nat → Prop} (h : GHeld) (csh : List Value) (b : Nat) (s : GSpan) (css : List Value) (w : World) (hh : rGHeld w p csh h) (hs : rGSpan w q css s) (row : RowIs w b 46 css) :
    Calls Try.prog 47 #[.agg csh.toArray, .pointer (some ⟨b, 0, none⟩)] w fun e w' => e = .returned (.bool (toucheB h s)) ∧ Keep Nix w w' := by
  have hh2 := hh
  have hs2 := hs
  obtain ⟨aK, cK, aS, cS, aW, cW, rfl, -, hK, hS, -, -⟩ := rGHeld_open hh
  have row2 := row
  have HSS := Lib.hid hs2
  obtain ⟨sF, dF, sT, dT, rfl, -⟩ := rGSpan_open hs
  have kk : Keep Nix w (w.alloc (.cells #[.int .u64 h.fTxn, .slice aK h.fKeys.length cK, .slice aS h.fSpans.length cS, .slice aW h.fWrites.length cW] 28)) := (Keep.refl Nix w).alloc _
  have row0 : RowIs (w.alloc (.cells #[.int .u64 h.fTxn, .slice aK h.fKeys.length cK, .slice aS h.fSpans.length cS, .slice aW h.fWrites.length cW] 28)) w.heap.size 28 [.int .u64 h.fTxn, .slice aK h.fKeys.length cK, .slice aS h.fSpans.length cS, .slice aW h.fWrites.length cW] := RowIs.alloc w _ _
  have rowS := row.keep kk id
  have hT := touched_c h s [.int .u64 h.fTxn, .slice aK h.fKeys.length cK, .slice aS h.fSpans.length cS, .slice aW h.fWrites.length cW] [.slice sF s.fFrom.length dF, .slice sT s.fTo.length dT] (w.alloc (.cells #[.int .u64 h.fTxn, .slice aK h.fKeys.length cK, .slice aS h.fSpans.length cS, .slice aW h.fWrites.length cW] 28)) (rGHeld_lawful.nix hh2 kk) (rGSpan_lawful.nix hs2 kk)
  have HC1 : Hid (∀ w2, Keep Nix (w.alloc (.cells #[.int .u64 h.fTxn, .slice aK h.fKeys.length cK, .slice aS h.fSpans.length cS, .slice aW h.fWrites.length cW] 28)) w2 → Calls Try.prog 49 #[.slice aK h.fKeys.length cK, .func (.func 50) #[] #[.pointer (some ⟨b, 0, none⟩)]] w2 fun e w' => e = .returned (.bool (h.fKeys.any (fun k => withinF s k))) ∧ Keep Nix w2 w') := fun w2 k2 =>
    cfBytes_c aK h.fKeys.length cK h.fKeys 50 (.pointer (some ⟨b, 0, none⟩)) (fun k => withinF s k) w2 ((rList_lawful rBytes_lawful).nix hK (kk.trans k2)) (fun args w => by rfl) (fun w' x ax cx k hx rx => touches11_c x ax cx b s [.slice sF s.fFrom.length dF, .slice sT s.fTo.length dT] w' rx (rGSpan_lawful.nix HSS.out ((kk.trans k2).trans k)) (row2.keep ((kk.trans k2).trans k) id))
  have HC2 : Hid (∀ w2, Keep Nix (w.alloc (.cells #[.int .u64 h.fTxn, .slice aK h.fKeys.length cK, .slice aS h.fSpans.length cS, .slice aW h.fWrites.length cW] 28)) w2 → Calls Try.prog 52 #[.slice aS h.fSpans.length cS, .func (.func 53) #[] #[.pointer (some ⟨b, 0, none⟩)]] w2 fun e w' => e = .returned (.bool (h.fSpans.any (fun o => meetB o s))) ∧ Keep Nix w2 w') := fun w2 k2 =>
    cfSpan_c aS h.fSpans.length cS h.fSpans 53 (.pointer (some ⟨b, 0, none⟩)) (fun o => meetB o s) w2 ((rList_lawful rGSpan_lawful).nix hS (kk.trans k2)) (fun args w => by rfl) (fun w' x cs k hx rx => touches12_c x cs b s [.slice sF s.fFrom.length dF, .slice sT s.fTo.length dT] w' rx (rGSpan_lawful.nix HSS.out ((kk.trans k2).trans k)) (row2.keep ((kk.trans k2).trans k) id))
  have HX : Hid (∀ w2, Keep Nix (w.alloc (.cells #[.int .u64 h.fTxn, .slice aK h.fKeys.length cK, .slice aS h.fSpans.length cS, .slice aW h.fWrites.length cW] 28)) w2 → w2.cell? ⟨w.heap.size, 1, none⟩ = some (.slice aK h.fKeys.length cK) ∧ w2.cell? ⟨w.heap.size, 2, none⟩ = some (.slice aS h.fSpans.length cS)) := fun w2 k2 => by
    have h1 := (row0.keep k2 id).cell 1
    have h2 := (row0.keep k2 id).cell 2
    exact ⟨by simpa using h1, by simpa using h2⟩
  have HR : Hid (toucheB h s = (toB h s || h.fKeys.any (fun k => withinF s k) || h.fSpans.any (fun o => meetB o s))) := rfl
  have y0 := row0.cell 0
  have x0 := rowS.cell 0
  (try simp only [List.getElem?_cons_zero] at y0 x0)
  have y1 := row0.cell 1
  (try simp only [List.getElem?_cons_succ] at y1); (try simp only [List.getElem?_cons_zero] at y1)
  have y2 := row0.cell 2
  (try simp only [List.getElem?_cons_succ] at y2); (try simp only [List.getElem?_cons_zero] at y2)
  have y3 := row0.cell 3
  (try simp only [List.getElem?_cons_succ] at y3); (try simp only [List.getElem?_cons_zero] at y3)
  have x1 := rowS.cell 1
  (try simp only [List.getElem?_cons_succ] at x1); (try simp only [List.getElem?_cons_zero] at x1)
  obtain ⟨y, HY⟩ : ∃ y, Hid (toucheB h s = y) := ⟨_, rfl⟩
  rw [HY.out]
  rw [HY.out] at HR
  clear hh hh2 hs hs2 row row0 rowS row2 HSS HY hK hS
  generalize h.fKeys.any (fun k => withinF s k) = v2 at *
  generalize h.fSpans.any (fun o => meetB o s) = v3 at *
  generalize toB h s = v1 at *
  cases v1 with
  | true =>
    have e : Hid (y = true) := by show _ = _; rw [HR.out]; simp
    clear HR
    go_enter Try.func47, Try.ntmps47
    go_wp2_with fail
    go_fit hT
    rintro e w1 ⟨rfl, k1⟩
    go_wp2_with fail
    go_ret
    exact ⟨ret_bool e.out.symm, kk.trans k1⟩
  | false =>
    cases v2 with
    | true =>
      have e : Hid (y = true) := by show _ = _; rw [HR.out]; simp
      clear HR
      go_enter Try.func47, Try.ntmps47
      go_wp2_with fail
      go_fit hT
      rintro e w1 ⟨rfl, k1⟩
      have hx1 := (HX.out w1 k1).1
      clear y0 y1 y2 y3 x0 x1
      go_wp2_with fail
      go_fit (HC1.out w1 k1)
      rintro e w2 ⟨rfl, k2⟩
      go_wp2_with fail
      go_ret
      exact ⟨ret_bool e.out.symm, (kk.trans k1).trans k2⟩
    | false =>
      have e : Hid (y = v3) := by show _ = _; rw [HR.out]; simp
      clear HR
      go_enter Try.func47, Try.ntmps47
      go_wp2_with fail
      go_fit hT
      rintro e w1 ⟨rfl, k1⟩
      have hx1 := (HX.out w1 k1).1
      clear y0 y1 y2 y3 x0 x1
      go_wp2_with fail
      go_fit (HC1.out w1 k1)
      rintro e w2 ⟨rfl, k2⟩
      have k12 := k1.trans k2
      have hx2 := (HX.out w2 k12).2
      clear hx1
      go_wp2_with fail
      go_fit (HC2.out w2 k12)
      rintro e w3 ⟨rfl, k3⟩
      go_wp2_with fail
      go_ret
      exact ⟨ret_bool e.out.symm, (kk.trans k12).trans k3⟩
end Go.Proofs.Ytfagejfcibgigaa
