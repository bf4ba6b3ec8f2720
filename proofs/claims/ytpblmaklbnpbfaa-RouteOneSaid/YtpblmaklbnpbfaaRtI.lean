/- ROUTE: have two spans a key of both (the reference's meet). Printed by mac.py. -/
import Derived.Test.YtpblmaklbnpbfaaRtH
namespace Go.Proofs.Ytpblmaklbnpbfaa
open Go.RowKit

def meetF (a b : GSpan) : Bool := (a.fTo.isEmpty || ltB (partFrom a b) a.fTo) && (b.fTo.isEmpty || ltB (partFrom a b) b.fTo)
theorem run_maxS {P : Program} (w : World) (ts : Array TypeId) (t : TypeId) (a b : List UInt8) : (Builtin.max_ ts t #[.string (strB a), .string (strB b)]).run P w = .ok (.string (strB (if ltB a b then b else a))) w := by
  unfold Builtin.max_
  simp [Builtin.max2, Op.stringOp, strB_toList, asBool]
  cases h : Op.bytesLess a b <;> simp [ltB, h]
set_option maxRecDepth 100000 in
set_option maxHeartbeats 2000000 in
theorem meet_c {p q : Nat → Prop} (a b : GSpan) (csa csb : List Value) (w : World) (ha : rGSpan w p csa a) (hb : rGSpan w q csb b) :
    Calls Try.prog 47 #[.agg csa.toArray, .agg csb.toArray] w fun e w' => e = .returned (.bool (meetF a b)) ∧ Keep Nix w w' := by
  obtain ⟨aF, cF, aT, cT, rfl, f1, f2, -⟩ := rGSpan_open ha
  obtain ⟨bF, dF, bT, dT, rfl, f3, f4, -⟩ := rGSpan_open hb
  obtain ⟨y, HY⟩ : ∃ y, Hid (meetF a b = y) := ⟨_, rfl⟩
  rw [HY.out]
  have k1 := fun (w : World) (o : Obj) => (Keep.refl Nix w).alloc o
  have kk : Keep Nix w ((w.alloc (.cells #[.slice aF a.fFrom.length cF, .slice aT a.fTo.length cT] 29)).alloc (.cells #[.slice bF b.fFrom.length dF, .slice bT b.fTo.length dT] 29)) := (k1 _ _).trans (k1 _ _)
  have rowA : RowIs ((w.alloc (.cells #[.slice aF a.fFrom.length cF, .slice aT a.fTo.length cT] 29)).alloc (.cells #[.slice bF b.fFrom.length dF, .slice bT b.fTo.length dT] 29)) w.heap.size 29 [.slice aF a.fFrom.length cF, .slice aT a.fTo.length cT] := (RowIs.alloc w _ _).keep (k1 _ _) id
  have rowB : RowIs ((w.alloc (.cells #[.slice aF a.fFrom.length cF, .slice aT a.fTo.length cT] 29)).alloc (.cells #[.slice bF b.fFrom.length dF, .slice bT b.fTo.length dT] 29)) (w.heap.size + 1) 29 [.slice bF b.fFrom.length dF, .slice bT b.fTo.length dT] := by
    have h := RowIs.alloc (w.alloc (.cells #[.slice aF a.fFrom.length cF, .slice aT a.fTo.length cT] 29)) #[.slice bF b.fFrom.length dF, .slice bT b.fTo.length dT] 29
    simpa using h
  have c1 := conv_bytes (P := Try.prog) Try.underlying23 Try.underlying5 Try.underlying9 (cap := cF) rfl (LB.keep f1 kk).1
  have c2 := conv_bytes (P := Try.prog) Try.underlying23 Try.underlying5 Try.underlying9 (cap := cT) rfl (LB.keep f2 kk).1
  have c3 := conv_bytes (P := Try.prog) Try.underlying23 Try.underlying5 Try.underlying9 (cap := dF) rfl (LB.keep f3 kk).1
  have c4 := conv_bytes (P := Try.prog) Try.underlying23 Try.underlying5 Try.underlying9 (cap := dT) rfl (LB.keep f4 kk).1
  obtain ⟨f, hf⟩ : ∃ f, partFrom a b = f := ⟨_, rfl⟩
  have hmx : ∀ w' ts t, (Builtin.max_ ts t #[.string (strB a.fFrom), .string (strB b.fFrom)]).run Try.prog w' = .ok (.string (strB f)) w' := fun w' ts t => by rw [← hf]; exact run_maxS w' ts t a.fFrom b.fFrom
  have HF := Lib.hid hf
  have x0 := rowA.cell 0
  (try simp only [List.getElem?_cons_zero] at x0)
  have x1 := rowA.cell 1
  (try simp only [List.getElem?_cons_succ] at x1); (try simp only [List.getElem?_cons_zero] at x1)
  have y0 := rowB.cell 0
  (try simp only [List.getElem?_cons_zero] at y0)
  have y1 := rowB.cell 1
  (try simp only [List.getElem?_cons_succ] at y1); (try simp only [List.getElem?_cons_zero] at y1)
  obtain ⟨v1, h1⟩ : ∃ v, ltB f a.fTo = v := ⟨_, rfl⟩
  obtain ⟨v2, h2⟩ : ∃ v, ltB f b.fTo = v := ⟨_, rfl⟩
  have H1 := Lib.hid h1
  have H2 := Lib.hid h2
  have t1 : Op.bytesLess (strB f).toList (strB a.fTo).toList = v1 := by rw [strB_toList, strB_toList]; exact h1
  have t2 : Op.bytesLess (strB f).toList (strB b.fTo).toList = v2 := by rw [strB_toList, strB_toList]; exact h2
  clear ha hb k1 rowA rowB f1 f2 f3 f4 h1 h2 hf
  by_cases ha : a.fTo = []
  · have hn := len0 ha
    have ha' : a.fTo.isEmpty = true := by rw [ha]; rfl
    by_cases hb : b.fTo = []
    · have hm := len0 hb
      have e : Hid (y = true) := by show _ = _; rw [← HY.out, meetF, ha', hb]; rfl
      clear ha ha' hb
      go_enter Try.func47, Try.ntmps47
      go_wp2_with fail
      go_ret
      exact ⟨ret_bool e.out.symm, kk⟩
    · have hm := len1 hb
      have e : Hid (y = v2) := by show _ = _; rw [← HY.out, meetF, ha', HF.out, H2.out, show b.fTo.isEmpty = false by simpa using hb]; rfl
      clear ha ha' hb
      go_enter Try.func47, Try.ntmps47
      go_wp2_with fail
      go_ret
      exact ⟨ret_bool e.out.symm, kk⟩
  · have hn := len1 ha
    have ha' : a.fTo.isEmpty = false := by simpa using ha
    cases v1 with
    | false =>
      have e : Hid (y = false) := by show _ = _; rw [← HY.out, meetF, ha', HF.out, H1.out]; rfl
      clear ha ha'
      go_enter Try.func47, Try.ntmps47
      go_wp2_with fail
      go_ret
      exact ⟨ret_bool e.out.symm, kk⟩
    | true =>
      by_cases hb : b.fTo = []
      · have hm := len0 hb
        have e : Hid (y = true) := by show _ = _; rw [← HY.out, meetF, ha', HF.out, H1.out, hb]; rfl
        clear ha ha' hb
        go_enter Try.func47, Try.ntmps47
        go_wp2_with fail
        go_ret
        exact ⟨ret_bool e.out.symm, kk⟩
      · have hm := len1 hb
        have e : Hid (y = v2) := by show _ = _; rw [← HY.out, meetF, ha', HF.out, H1.out, H2.out, show b.fTo.isEmpty = false by simpa using hb]; rfl
        clear ha ha' hb
        go_enter Try.func47, Try.ntmps47
        go_wp2_with fail
        go_ret
        exact ⟨ret_bool e.out.symm, kk⟩
end Go.Proofs.Ytpblmaklbnpbfaa
