/- LOCK: in (lock's own) and Within (the laws'): a key in a span. Printed by mac.py. -/
import Derived.Test.YtfagejfcibgigaaOrd
import Derived.Test.YtfagejfcibgigaaOpens
import Derived.Test.YtfagejfcibgigaaHelp
import Derived.Laws.Cover1
import Derived.Deep.RegionHeld3
namespace Go.Proofs.Ytfagejfcibgigaa
open Go.RowKit

def withinF (s : GSpan) (key : List UInt8) : Bool := !ltB key s.fFrom && (s.fTo.isEmpty || ltB key s.fTo)
set_option maxRecDepth 100000 in
theorem in_c {p q : Nat → Prop} (s : GSpan) (css : List Value) (a : Option Addr) (cap : Nat) (l : List UInt8) (w : World) (hs : rGSpan w p css s) (hl : Lies w q a (l.map bv)) :
    Calls Try.prog 51 #[.agg css.toArray, .slice a l.length cap] w fun e w' => e = .returned (.bool (withinF s l)) ∧ Keep Nix w w' := by
  obtain ⟨sF, dF, sT, dT, rfl, h1, h2, -⟩ := rGSpan_open hs
  have kk : Keep Nix w (w.alloc (.cells #[.slice sF s.fFrom.length dF, .slice sT s.fTo.length dT] 46)) := (Keep.refl Nix w).alloc _
  have row0 : RowIs (w.alloc (.cells #[.slice sF s.fFrom.length dF, .slice sT s.fTo.length dT] 46)) w.heap.size 46 [.slice sF s.fFrom.length dF, .slice sT s.fTo.length dT] := RowIs.alloc w _ _
  have c1 := cmpB_c a sF l.length cap s.fFrom.length dF l s.fFrom _ rfl rfl (hl.keep kk (fun _ _ h => h)) (h1.1.keep kk (fun _ _ h => h))
  have c2 := cmpB_c a sT l.length cap s.fTo.length dT l s.fTo _ rfl rfl (hl.keep kk (fun _ _ h => h)) (h2.1.keep kk (fun _ _ h => h))
  have e1 : Hid (ltB l s.fFrom = decide (Lib.compareBytes l s.fFrom < 0)) := (cmp_lt _ _).symm
  have e2 : Hid (ltB l s.fTo = decide (Lib.compareBytes l s.fTo < 0)) := (cmp_lt _ _).symm
  generalize Lib.compareBytes l s.fFrom = m1 at *
  generalize Lib.compareBytes l s.fTo = m2 at *
  obtain ⟨y, HY⟩ : ∃ y, Hid (withinF s l = y) := ⟨_, rfl⟩
  rw [HY.out]
  have x0 := row0.cell 0
  (try simp only [List.getElem?_cons_zero] at x0)
  have x1 := row0.cell 1
  (try simp only [List.getElem?_cons_succ] at x1); (try simp only [List.getElem?_cons_zero] at x1)
  clear hs hl h1 h2 row0
  rcases Int.lt_or_le m1 0 with t | t
  · have e : Hid (y = false) := by show _ = _; rw [← HY.out, withinF, e1.out]; simp [t]
    have t2 : ¬ 0 ≤ m1 := by omega
    go_enter Try.func51, Try.ntmps51
    go_wp2_with fail
    go_fit c1
    rintro e w' ⟨rfl, rfl⟩
    go_wp2_with fail
    go_ret
    exact ⟨ret_bool e.out.symm, kk⟩
  · by_cases ht : s.fTo = []
    · have hn : ((s.fTo.length : Int) == 0) = true := by rw [ht]; rfl
      have e : Hid (y = true) := by show _ = _; rw [← HY.out, withinF, e1.out, ht]; simp [t]
      clear ht
      go_enter Try.func51, Try.ntmps51
      go_wp2_with fail
      go_fit c1
      rintro e w' ⟨rfl, rfl⟩
      go_wp2_with fail
      go_ret
      exact ⟨ret_bool e.out.symm, kk⟩
    · have hn : ((s.fTo.length : Int) == 0) = false := by
        have : s.fTo.length ≠ 0 := fun e => ht (List.eq_nil_of_length_eq_zero e)
        simp only [beq_eq_false_iff_ne]; omega
      have e : Hid (y = decide (m2 < 0)) := by
        show _ = _
        rw [← HY.out, withinF, e1.out, e2.out]
        have : s.fTo.isEmpty = false := by cases h : s.fTo with
          | nil => exact absurd h ht
          | cons _ _ => rfl
        rw [this]; simp [t]
      clear ht
      go_enter Try.func51, Try.ntmps51
      go_wp2_with fail
      go_fit c1
      rintro e w' ⟨rfl, rfl⟩
      go_wp2_with fail
      go_fit c2
      rintro e w' ⟨rfl, rfl⟩
      go_wp2_with fail
      go_ret
      exact ⟨ret_bool e.out.symm, kk⟩
theorem len0 {α : Type} {l : List α} (h : l = []) : ((l.length : Int) == 0) = true := by rw [h]; rfl
theorem len1 {α : Type} {l : List α} (h : l ≠ []) : ((l.length : Int) == 0) = false := by
  have : l.length ≠ 0 := fun e => h (List.eq_nil_of_length_eq_zero e)
  simp only [beq_eq_false_iff_ne]; omega
set_option maxRecDepth 100000 in
theorem within_c {p q : Nat → Prop} (s : GSpan) (css : List Value) (a : Option Addr) (cap : Nat) (l : List UInt8) (w : World) (hs : rGSpan w p css s) (hl : Lies w q a (l.map bv)) :
    Calls Try.prog 18 #[.agg css.toArray, .slice a l.length cap] w fun e w' => e = .returned (.bool (withinF s l)) ∧ Keep Nix w w' := by
  obtain ⟨sF, dF, sT, dT, rfl, h1, h2, -⟩ := rGSpan_open hs
  have kk : Keep Nix w (w.alloc (.cells #[.slice sF s.fFrom.length dF, .slice sT s.fTo.length dT] 46)) := (Keep.refl Nix w).alloc _
  have row0 : RowIs (w.alloc (.cells #[.slice sF s.fFrom.length dF, .slice sT s.fTo.length dT] 46)) w.heap.size 46 [.slice sF s.fFrom.length dF, .slice sT s.fTo.length dT] := RowIs.alloc w _ _
  have c0 := conv_bytes (P := Try.prog) Try.underlying42 Try.underlying5 Try.underlying9 (cap := cap) rfl (hl.keep kk (fun _ _ h => h))
  have c1 := conv_bytes (P := Try.prog) Try.underlying42 Try.underlying5 Try.underlying9 (cap := dF) rfl (h1.1.keep kk (fun _ _ h => h))
  have c2 := conv_bytes (P := Try.prog) Try.underlying42 Try.underlying5 Try.underlying9 (cap := dT) rfl (h2.1.keep kk (fun _ _ h => h))
  obtain ⟨y, HY⟩ : ∃ y, Hid (withinF s l = y) := ⟨_, rfl⟩
  rw [HY.out]
  obtain ⟨v1, e1⟩ : ∃ v, ltB l s.fFrom = v := ⟨_, rfl⟩
  obtain ⟨v2, e2⟩ : ∃ v, ltB l s.fTo = v := ⟨_, rfl⟩
  have H1 := Lib.hid e1
  have H2 := Lib.hid e2
  have b1 : Op.bytesLess (strB l).toList (strB s.fFrom).toList = v1 := by rw [strB_toList, strB_toList]; exact e1
  have b2 : Op.bytesLess (strB l).toList (strB s.fTo).toList = v2 := by rw [strB_toList, strB_toList]; exact e2
  have x0 := row0.cell 0
  (try simp only [List.getElem?_cons_zero] at x0)
  have x1 := row0.cell 1
  (try simp only [List.getElem?_cons_succ] at x1); (try simp only [List.getElem?_cons_zero] at x1)
  clear hs hl h1 h2 row0 e1 e2
  cases v1 with
  | true =>
    have e : Hid (y = false) := by show _ = _; rw [← HY.out, withinF, H1.out]; rfl
    go_enter Try.func18, Try.ntmps18
    go_wp2_with fail
    go_ret
    exact ⟨ret_bool e.out.symm, kk⟩
  | false =>
    by_cases ht : s.fTo = []
    · have hn := len0 ht
      have e : Hid (y = true) := by show _ = _; rw [← HY.out, withinF, H1.out, ht]; rfl
      clear ht
      go_enter Try.func18, Try.ntmps18
      go_wp2_with fail
      go_ret
      exact ⟨ret_bool e.out.symm, kk⟩
    · have hn := len1 ht
      have e : Hid (y = v2) := by
        show _ = _
        rw [← HY.out, withinF, H1.out, H2.out, show s.fTo.isEmpty = false from by simpa using ht]; rfl
      clear ht
      go_enter Try.func18, Try.ntmps18
      go_wp2_with fail
      go_ret
      exact ⟨ret_bool e.out.symm, kk⟩
end Go.Proofs.Ytfagejfcibgigaa
