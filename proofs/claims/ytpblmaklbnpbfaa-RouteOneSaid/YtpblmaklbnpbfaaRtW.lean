/- ROUTE: which routes are right: the reference's Right. Printed by genRtA.py and mac.py. -/
import Derived.Test.YtpblmaklbnpbfaaRt9
import Derived.Laws.Cover1
namespace Go.Proofs.Ytpblmaklbnpbfaa
open Go.RowKit

def withinF (s : GSpan) (key : List UInt8) : Bool := !ltB key s.fFrom && (s.fTo.isEmpty || ltB key s.fTo)
set_option maxRecDepth 100000 in
theorem within_c {p q : Nat → Prop} (s : GSpan) (css : List Value) (a : Option Addr) (cap : Nat) (l : List UInt8) (w : World) (hs : rGSpan w p css s) (hl : LB w q a cap l) :
    Calls Try.prog 31 #[.agg css.toArray, .slice a l.length cap] w fun e w' => e = .returned (.bool (withinF s l)) ∧ Keep Nix w w' := by
  obtain ⟨sF, dF, sT, dT, rfl, h1, h2, -⟩ := rGSpan_open hs
  have kk : Keep Nix w (w.alloc (.cells #[.slice sF s.fFrom.length dF, .slice sT s.fTo.length dT] 29)) := (Keep.refl Nix w).alloc _
  have row0 : RowIs (w.alloc (.cells #[.slice sF s.fFrom.length dF, .slice sT s.fTo.length dT] 29)) w.heap.size 29 [.slice sF s.fFrom.length dF, .slice sT s.fTo.length dT] := RowIs.alloc w _ _
  have L1 : LB w p sF dF s.fFrom := h1
  have L2 : LB w p sT dT s.fTo := h2
  have c0 := conv_bytes (P := Try.prog) Try.underlying23 Try.underlying5 Try.underlying9 (cap := cap) rfl (hl.keep kk).1
  have c1 := conv_bytes (P := Try.prog) Try.underlying23 Try.underlying5 Try.underlying9 (cap := dF) rfl (L1.keep kk).1
  have c2 := conv_bytes (P := Try.prog) Try.underlying23 Try.underlying5 Try.underlying9 (cap := dT) rfl (L2.keep kk).1
  obtain ⟨y, HY⟩ : ∃ y, Hid (withinF s l = y) := ⟨_, rfl⟩
  rw [HY.out]
  obtain ⟨v1, e1⟩ : ∃ v, ltB l s.fFrom = v := ⟨_, rfl⟩
  obtain ⟨v2, e2⟩ : ∃ v, ltB l s.fTo = v := ⟨_, rfl⟩
  have H1 := Lib.hid e1
  have H2 := Lib.hid e2
  have b1 : Op.bytesLess (strB l).toList (strB s.fFrom).toList = v1 := by rw [strB_toList, strB_toList]; exact e1
  have b2 : Op.bytesLess (strB l).toList (strB s.fTo).toList = v2 := by rw [strB_toList, strB_toList]; exact e2
  have x0 := row0.cell 0
  (try simp only [List.getElem?_cons_zero] at x0)
  have x1 := row0.cell 1
  (try simp only [List.getElem?_cons_succ] at x1); (try simp only [List.getElem?_cons_zero] at x1)
  clear hs hl h1 h2 L1 L2 row0 e1 e2
  cases v1 with
  | true =>
    have e : Hid (y = false) := by show _ = _; rw [← HY.out, withinF, H1.out]; rfl
    go_enter Try.func31, Try.ntmps31
    go_wp2_with fail
    go_ret
    exact ⟨ret_bool e.out.symm, kk⟩
  | false =>
    by_cases ht : s.fTo = []
    · have hn := len0 ht
      have e : Hid (y = true) := by show _ = _; rw [← HY.out, withinF, H1.out, ht]; rfl
      clear ht
      go_enter Try.func31, Try.ntmps31
      go_wp2_with fail
      go_ret
      exact ⟨ret_bool e.out.symm, kk⟩
    · have hn := len1 ht
      have e : Hid (y = v2) := by
        show _ = _
        rw [← HY.out, withinF, H1.out, H2.out, show s.fTo.isEmpty = false from by simpa using ht]; rfl
      clear ht
      go_enter Try.func31, Try.ntmps31
      go_wp2_with fail
      go_ret
      exact ⟨ret_bool e.out.symm, kk⟩
def headOk (r : GRoutes) : Bool := decide (0 ≤ r.fEpoch) && decide (1 ≤ r.fBase) && decide (r.fBase ≤ 4) && decide (1 ≤ r.fSpans.length) && decide (r.fSpans.length ≤ 4) && decide (fromAt r.fSpans 0 = [120])
def badO (r : GRoutes) (k : Nat) (o : GOwner) : Bool := decide (o.fGroup ≤ r.fBase) || (decide (r.fBase + 4 < o.fGroup) || (!(placeI o.fGroup r.fSpans == (k : Int)) || (decide ((o.fFrom.length : Int) < 1) || (!(o.fFrom.head? == some 120) || (decide (600 < (o.fFrom.length : Int)) || (decide (0 < (k : Int)) && !ltB (fromAt r.fSpans (k - 1)) o.fFrom))))))
def badAt (r : GRoutes) (k : Nat) : Bool := match r.fSpans[k]? with
  | some o => badO r k o
  | none => false
def cutOk (r : GRoutes) : Bool := match placeO r.fMoving r.fSpans with
  | none => false
  | some k => decide (r.fCut.length ≤ 600) && (ltB (fromAt r.fSpans k) r.fCut && withinF (spanF r.fSpans k) r.fCut)
def tailOk (r : GRoutes) : Bool := if r.fMoving = 0 then r.fCut.isEmpty else cutOk r
def rightB (r : GRoutes) : Bool := headOk r && ((List.range r.fSpans.length).all (fun k => !badAt r k) && tailOk r)
end Go.Proofs.Ytpblmaklbnpbfaa
