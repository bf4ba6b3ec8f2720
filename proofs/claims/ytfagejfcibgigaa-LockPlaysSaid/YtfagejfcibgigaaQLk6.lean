/- LOCK: ContainsFunc over locks; the closures of Free, Clear, Touches. Printed by mac.py. -/
import Derived.Test.YtfagejfcibgigaaQLk5
namespace Go.Proofs.Ytfagejfcibgigaa
open Go.RowKit

section
attribute [local go_sem ↓] ldz_Held
set_option maxHeartbeats 1000000 in
theorem ifHeld_c {p : Nat → Prop} (a : Option Addr) (n cap : Nat) (l : List GHeld) (fv : FuncId) (u : Value) (P : GHeld → Bool) (w : World) (hl : rList rGHeld w p [.slice a n cap] l)
    (hE : ∀ args w, (callFunc fv args).run Try.prog w = .ok (.enter fv args) w) (hF : (∀ (w' : World) (x : GHeld) (cs : List Value), Keep Nix w w' → x ∈ l → rGHeld w' p cs x → Calls Try.prog fv #[.agg cs.toArray, u] w' fun e w'' => e = .returned (.bool (P x)) ∧ Keep Nix w' w'')) :
    Calls Try.prog 80 #[.slice a n cap, .func (.func fv) #[] #[u]] w fun e w' => e = .returned (.int .i64 (findB P l)) ∧ Keep Nix w w' := by
  obtain ⟨rfl, -, hf⟩ := rList_len hl
  have hfar : l.length ≤ 9223372036854775807 := by have := far_len; unfold maxLen at this; omega
  have HF := Lib.hid hF
  clear hf hF
  go_enter Try.func80, Try.ntmps80
  go_wp2_with fail
  go_loopw [8] (fun i wr => ∃ k : Nat, k ≤ l.length ∧ i = .int .i64 k ∧ Hid (NoneYet P l k) ∧ Keep Nix w wr) (fun i _ => l.length - (intOf i).toNat)
  case atStart => exact ⟨0, by omega, rfl, fun j hj => by omega, Keep.refl _ _⟩
  case round =>
    obtain ⟨k, hk, rfl, hg, kk⟩ := hrel
    by_cases hlt : k < l.length
    · have hi0 : (0 : Int) ≤ (k : Int) := by omega
      have hi1 : (k : Int) < (l.length : Int) := by omega
      have HM : Hid (l[k] ∈ l) := List.getElem_mem hlt
      have HA := Lib.hid (findB_at (P := P) k hlt hg.out)
      have HS := Lib.hid (hg.out.succ (P := P) hlt)
      obtain ⟨b, o, c, cs, e1, -, hb, r, hc⟩ := rList_at rGHeld_lawful (by decide) ((rList_lawful rGHeld_lawful).nix hl kk) k hlt
      simp only [List.cons.injEq, Value.slice.injEq, and_true] at e1
      obtain ⟨rfl, -, -⟩ := e1
      have ld := Whole.at (P := Try.prog) S_Held (rGHeld_lawful.len r) hc
      unfold Whole at ld
      clear hl hc
      generalize l[k] = x at HM HA HS r
      have hcall := HF.out wr x cs kk HM.out r
      clear r
      rcases hP : P x with _ | _
      · rw [hP] at hcall
        have HP := Lib.hid hP
        have HC := Lib.hid hcall
        clear hP hcall
        go_wp2_with fail
        go_fit HC.out
        clear HC
        rintro e w2 ⟨rfl, k2⟩
        replace kk := kk.trans k2
        clear k2
        go_wp2_with fail
        go_roundw
        case rel => exact ⟨k + 1, by omega, by go_num, HS.out HP.out, kk⟩
        case measure => simp [intOf]; omega
      · rw [hP] at hcall
        have HP := Lib.hid hP
        have HC := Lib.hid hcall
        clear hP hcall
        go_wp2_with fail
        go_fit HC.out
        clear HC
        rintro e w2 ⟨rfl, k2⟩
        replace kk := kk.trans k2
        clear k2
        go_wp2_with fail
        go_ret
        exact ⟨ret_int (HA.out HP.out).symm, kk⟩
    · obtain rfl : k = l.length := by omega
      have HN := Lib.hid (findB_none (P := P) hg.out)
      go_wp2_with fail
      go_ret
      exact ⟨ret_int HN.out.symm, kk⟩
end
set_option maxHeartbeats 1000000 in
theorem cfHeld_c {p : Nat → Prop} (a : Option Addr) (n cap : Nat) (l : List GHeld) (fv : FuncId) (u : Value) (P : GHeld → Bool) (w : World) (hl : rList rGHeld w p [.slice a n cap] l)
    (hE : ∀ args w, (callFunc fv args).run Try.prog w = .ok (.enter fv args) w) (hF : (∀ (w' : World) (x : GHeld) (cs : List Value), Keep Nix w w' → x ∈ l → rGHeld w' p cs x → Calls Try.prog fv #[.agg cs.toArray, u] w' fun e w'' => e = .returned (.bool (P x)) ∧ Keep Nix w' w'')) :
    Calls Try.prog 71 #[.slice a n cap, .func (.func fv) #[] #[u]] w fun e w' => e = .returned (.bool (l.any P)) ∧ Keep Nix w w' := by
  have hif := ifHeld_c a n cap l fv u P w hl hE hF
  have HA := Lib.hid (findB_any P l)
  generalize findB P l = v at *
  generalize l.any P = y at *
  clear hl hE hF
  go_enter Try.func71, Try.ntmps71
  go_wp2_with fail
  go_fit hif
  rintro e w2 ⟨rfl, k2⟩
  go_wp2_with fail
  go_ret
  exact ⟨ret_bool HA.out, k2⟩
def toucheB (h : GHeld) (s : GSpan) : Bool := toB h s || h.fKeys.any (fun k => withinF s k) || h.fSpans.any (fun o => meetB o s)
set_option maxRecDepth 100000 in
theorem free1_c {p q : Nat → Prop} (h : GHeld) (csh : List Value) (b : Nat) (a : Option Addr) (cap : Nat) (l : List UInt8) (w : World) (hh : rGHeld w p csh h) (hb : b < w.heap.size) (hc : w.cell? ⟨b, 0, none⟩ = some (.slice a l.length cap)) (hl : Lies w q a (l.map bv)) :
    Calls Try.prog 57 #[.agg csh.toArray, .pointer (some ⟨b, 0, none⟩)] w fun e w' => e = .returned (.bool (wrB h l)) ∧ Keep Nix w w' := by
  have hh2 := hh
  obtain ⟨aK, cK, aS, cS, aW, cW, rfl, -⟩ := rGHeld_open hh
  have kk : Keep Nix w (w.alloc (.cells #[.int .u64 h.fTxn, .slice aK h.fKeys.length cK, .slice aS h.fSpans.length cS, .slice aW h.fWrites.length cW] 28)) := (Keep.refl Nix w).alloc _
  have row0 : RowIs (w.alloc (.cells #[.int .u64 h.fTxn, .slice aK h.fKeys.length cK, .slice aS h.fSpans.length cS, .slice aW h.fWrites.length cW] 28)) w.heap.size 28 [.int .u64 h.fTxn, .slice aK h.fKeys.length cK, .slice aS h.fSpans.length cS, .slice aW h.fWrites.length cW] := RowIs.alloc w _ _
  have c0 : ((w.alloc (.cells #[.int .u64 h.fTxn, .slice aK h.fKeys.length cK, .slice aS h.fSpans.length cS, .slice aW h.fWrites.length cW] 28))).cell? ⟨b, 0, none⟩ = some (.slice a l.length cap) := (kk.cell (p := ⟨b, 0, none⟩) hb id).trans hc
  have hW := writes_c h [.int .u64 h.fTxn, .slice aK h.fKeys.length cK, .slice aS h.fSpans.length cS, .slice aW h.fWrites.length cW] a cap l (w.alloc (.cells #[.int .u64 h.fTxn, .slice aK h.fKeys.length cK, .slice aS h.fSpans.length cS, .slice aW h.fWrites.length cW] 28)) (rGHeld_lawful.nix hh2 kk) (hl.keep kk (fun _ _ h => h))
  have y0 := row0.cell 0
  (try simp only [List.getElem?_cons_zero] at y0)
  have y1 := row0.cell 1
  (try simp only [List.getElem?_cons_succ] at y1); (try simp only [List.getElem?_cons_zero] at y1)
  have y2 := row0.cell 2
  (try simp only [List.getElem?_cons_succ] at y2); (try simp only [List.getElem?_cons_zero] at y2)
  have y3 := row0.cell 3
  (try simp only [List.getElem?_cons_succ] at y3); (try simp only [List.getElem?_cons_zero] at y3)
  clear hh hh2 hc hl row0
  go_enter Try.func57, Try.ntmps57
  go_wp2_with fail
  go_fit hW
  rintro e w1 ⟨rfl, k1⟩
  go_wp2_with fail
  go_ret
  exact ⟨rfl, kk.trans k1⟩
set_option maxRecDepth 100000 in
theorem clear1_c {p q : Nat → Prop} (h : GHeld) (csh : List Value) (b : Nat) (s : GSpan) (css : List Value) (w : World) (hh : rGHeld w p csh h) (hs : rGSpan w q css s) (row : RowIs w b 46 css) :
    Calls Try.prog 59 #[.agg csh.toArray, .pointer (some ⟨b, 0, none⟩)] w fun e w' => e = .returned (.bool (toB h s)) ∧ Keep Nix w w' := by
  have hh2 := hh
  have hs2 := hs
  obtain ⟨aK, cK, aS, cS, aW, cW, rfl, -⟩ := rGHeld_open hh
  obtain ⟨sF, dF, sT, dT, rfl, -⟩ := rGSpan_open hs
  have kk : Keep Nix w (w.alloc (.cells #[.int .u64 h.fTxn, .slice aK h.fKeys.length cK, .slice aS h.fSpans.length cS, .slice aW h.fWrites.length cW] 28)) := (Keep.refl Nix w).alloc _
  have row0 : RowIs (w.alloc (.cells #[.int .u64 h.fTxn, .slice aK h.fKeys.length cK, .slice aS h.fSpans.length cS, .slice aW h.fWrites.length cW] 28)) w.heap.size 28 [.int .u64 h.fTxn, .slice aK h.fKeys.length cK, .slice aS h.fSpans.length cS, .slice aW h.fWrites.length cW] := RowIs.alloc w _ _
  have rowS := row.keep kk id
  have hT := touched_c h s [.int .u64 h.fTxn, .slice aK h.fKeys.length cK, .slice aS h.fSpans.length cS, .slice aW h.fWrites.length cW] [.slice sF s.fFrom.length dF, .slice sT s.fTo.length dT] (w.alloc (.cells #[.int .u64 h.fTxn, .slice aK h.fKeys.length cK, .slice aS h.fSpans.length cS, .slice aW h.fWrites.length cW] 28)) (rGHeld_lawful.nix hh2 kk) (rGSpan_lawful.nix hs2 kk)
  have y0 := row0.cell 0
  have x0 := rowS.cell 0
  (try simp only [List.getElem?_cons_zero] at y0 x0)
  have y1 := row0.cell 1
  (try simp only [List.getElem?_cons_succ] at y1); (try simp only [List.getElem?_cons_zero] at y1)
  have y2 := row0.cell 2
  (try simp only [List.getElem?_cons_succ] at y2); (try simp only [List.getElem?_cons_zero] at y2)
  have y3 := row0.cell 3
  (try simp only [List.getElem?_cons_succ] at y3); (try simp only [List.getElem?_cons_zero] at y3)
  have x1 := rowS.cell 1
  (try simp only [List.getElem?_cons_succ] at x1); (try simp only [List.getElem?_cons_zero] at x1)
  clear hh hh2 hs hs2 row row0 rowS
  go_enter Try.func59, Try.ntmps59
  go_wp2_with fail
  go_fit hT
  rintro e w1 ⟨rfl, k1⟩
  go_wp2_with fail
  go_ret
  exact ⟨rfl, kk.trans k1⟩
set_option maxRecDepth 100000 in
theorem touches11_c {p q : Nat → Prop} (x : List UInt8) (ax : Option Addr) (cx : Nat) (b : Nat) (s : GSpan) (css : List Value) (w : World) (hx : Lies w p ax (x.map bv)) (hs : rGSpan w q css s) (row : RowIs w b 46 css) :
    Calls Try.prog 50 #[.slice ax x.length cx, .pointer (some ⟨b, 0, none⟩)] w fun e w' => e = .returned (.bool (withinF s x)) ∧ Keep Nix w w' := by
  have hI := in_c s css ax cx x w hs hx
  obtain ⟨sF, dF, sT, dT, rfl, -⟩ := rGSpan_open hs
  have x0 := row.cell 0
  (try simp only [List.getElem?_cons_zero] at x0)
  have x1 := row.cell 1
  (try simp only [List.getElem?_cons_succ] at x1); (try simp only [List.getElem?_cons_zero] at x1)
  clear hx hs row
  go_enter Try.func50, Try.ntmps50
  go_wp2_with fail
  go_fit hI
  rintro e w1 ⟨rfl, k1⟩
  go_wp2_with fail
  go_ret
  exact ⟨rfl, k1⟩
set_option maxRecDepth 100000 in
theorem touches12_c {p q : Nat → Prop} (r : GSpan) (csr : List Value) (b : Nat) (s : GSpan) (css : List Value) (w : World) (hr : rGSpan w p csr r) (hs : rGSpan w q css s) (row : RowIs w b 46 css) :
    Calls Try.prog 53 #[.agg csr.toArray, .pointer (some ⟨b, 0, none⟩)] w fun e w' => e = .returned (.bool (meetB r s)) ∧ Keep Nix w w' := by
  have hr2 := hr
  have hs2 := hs
  obtain ⟨sF, dF, sT, dT, rfl, -⟩ := rGSpan_open hs
  obtain ⟨rF, eF, rT, eT, rfl, -⟩ := rGSpan_open hr
  have kk : Keep Nix w (w.alloc (.cells #[.slice rF r.fFrom.length eF, .slice rT r.fTo.length eT] 46)) := (Keep.refl Nix w).alloc _
  have row0 : RowIs (w.alloc (.cells #[.slice rF r.fFrom.length eF, .slice rT r.fTo.length eT] 46)) w.heap.size 46 [.slice rF r.fFrom.length eF, .slice rT r.fTo.length eT] := RowIs.alloc w _ _
  have rowS := row.keep kk id
  have hM := meet_c r s [.slice rF r.fFrom.length eF, .slice rT r.fTo.length eT] [.slice sF s.fFrom.length dF, .slice sT s.fTo.length dT] (w.alloc (.cells #[.slice rF r.fFrom.length eF, .slice rT r.fTo.length eT] 46)) (rGSpan_lawful.nix hr2 kk) (rGSpan_lawful.nix hs2 kk)
  have y0 := row0.cell 0
  have x0 := rowS.cell 0
  (try simp only [List.getElem?_cons_zero] at y0 x0)
  have y1 := row0.cell 1
  (try simp only [List.getElem?_cons_succ] at y1); (try simp only [List.getElem?_cons_zero] at y1)
  have x1 := rowS.cell 1
  (try simp only [List.getElem?_cons_succ] at x1); (try simp only [List.getElem?_cons_zero] at x1)
  clear hr hr2 hs hs2 row row0 rowS
  go_enter Try.func53, Try.ntmps53
  go_wp2_with fail
  go_fit hM
  rintro e w1 ⟨rfl, k1⟩
  go_wp2_with fail
  go_ret
  exact ⟨rfl, kk.trans k1⟩
end Go.Proofs.Ytfagejfcibgigaa
