/- LOCK: the nil table. Printed by mac.py. -/
import Derived.Test.YtfagejfcibgigaaLk7
namespace Go.Proofs.Ytfagejfcibgigaa
open Go.RowKit

theorem txns_nil (w : World) : Calls Try.prog 33 #[.pointer none] w fun e w' => e = .returned (.slice none 0 0) ∧ w = w' := by
  go_enter Try.func33, Try.ntmps33
  go_wp2_with fail
  go_ret
  exact ⟨rfl, rfl⟩
theorem all_nil (w : World) : Calls Try.prog 14 #[.pointer none] w fun e w' => e = .returned (.slice none 0 0) ∧ Keep Nix w w' := by
  go_enter Try.func14, Try.ntmps14
  go_wp2_with fail
  go_fit (txns_nil w)
  rintro e w1 ⟨rfl, rfl⟩
  go_wp2_with fail
  refine wp_loop_rounds 1 ?_
  rw [rounds_succ]
  go_wp2_with fail
  go_ret
  exact ⟨rfl, Keep.refl _ _⟩
theorem held_nil (w : World) : rList rGHeld w (fun _ => True) [.slice none 0 0] [] := ⟨none, 0, [], rfl, rfl, Lies.nil _ _ _, Nat.le_refl _, Nat.zero_le _, fun i c x h => by cases h⟩
theorem any_nil (fv : FuncId) (u : Value) (w : World) (hE : ∀ args w, (callFunc fv args).run Try.prog w = .ok (.enter fv args) w) : Calls Try.prog 46 #[.pointer none, .func (.func fv) #[] #[u]] w fun e w' => e = .returned (.bool false) ∧ Keep Nix w w' := by
  have HC : Hid (∀ w2, Calls Try.prog 71 #[.slice none 0 0, .func (.func fv) #[] #[u]] w2 fun e w' => e = .returned (.bool false) ∧ Keep Nix w2 w') := fun w2 =>
    cfHeld_c none 0 0 [] fv u (fun _ => false) w2 (held_nil w2) hE (fun _ _ _ _ hx => by cases hx)
  clear hE
  go_enter Try.func46, Try.ntmps46
  go_wp2_with fail
  go_fit (all_nil w)
  rintro e w1 ⟨rfl, k1⟩
  go_wp2_with fail
  go_fit (HC.out w1)
  rintro e w2 ⟨rfl, k2⟩
  go_wp2_with fail
  go_ret
  exact ⟨rfl, k1.trans k2⟩
set_option maxRecDepth 100000 in
theorem free_nil (aF : Option Addr) (nF cF : Nat) (w : World) : Calls Try.prog 27 #[.pointer none, .slice aF nF cF] w fun e w' => e = .returned (.bool true) ∧ Keep Nix w w' := by
  have kk : Keep Nix w (w.alloc (.cells #[.slice aF nF cF] 42)) := (Keep.refl Nix w).alloc _
  have hA := any_nil 57 (.pointer (some ⟨w.heap.size, 0, none⟩)) (w.alloc (.cells #[.slice aF nF cF] 42)) (fun args w => by rfl)
  go_enter Try.func27, Try.ntmps27
  go_wp2_with fail
  go_fit hA
  rintro e w1 ⟨rfl, k1⟩
  go_wp2_with fail
  go_ret
  exact ⟨rfl, kk.trans k1⟩
set_option maxRecDepth 100000 in
theorem clear_nil (aF aT : Option Addr) (nF cF nT cT : Nat) (w : World) : Calls Try.prog 29 #[.pointer none, .agg #[.slice aF nF cF, .slice aT nT cT]] w fun e w' => e = .returned (.bool true) ∧ Keep Nix w w' := by
  have kk : Keep Nix w (w.alloc (.cells #[.slice aF nF cF, .slice aT nT cT] 46)) := (Keep.refl Nix w).alloc _
  have hA := any_nil 59 (.pointer (some ⟨w.heap.size, 0, none⟩)) (w.alloc (.cells #[.slice aF nF cF, .slice aT nT cT] 46)) (fun args w => by rfl)
  go_enter Try.func29, Try.ntmps29
  go_wp2_with fail
  go_fit hA
  rintro e w1 ⟨rfl, k1⟩
  go_wp2_with fail
  go_ret
  exact ⟨rfl, kk.trans k1⟩
set_option maxRecDepth 100000 in
theorem touches_nil (aF aT : Option Addr) (nF cF nT cT : Nat) (w : World) : Calls Try.prog 19 #[.pointer none, .agg #[.slice aF nF cF, .slice aT nT cT]] w fun e w' => e = .returned (.bool false) ∧ Keep Nix w w' := by
  have kk : Keep Nix w (w.alloc (.cells #[.slice aF nF cF, .slice aT nT cT] 46)) := (Keep.refl Nix w).alloc _
  have hA := any_nil 47 (.pointer (some ⟨w.heap.size, 0, none⟩)) (w.alloc (.cells #[.slice aF nF cF, .slice aT nT cT] 46)) (fun args w => by rfl)
  go_enter Try.func19, Try.ntmps19
  go_wp2_with fail
  go_fit hA
  rintro e w1 ⟨rfl, k1⟩
  go_wp2_with fail
  go_ret
  exact ⟨rfl, kk.trans k1⟩
set_option maxRecDepth 100000 in
theorem may_nil {p : Nat → Prop} (h : GHeld) (csh : List Value) (w : World) (hh : rGHeld w p csh h) : Calls Try.prog 12 #[.pointer none, .agg csh.toArray] w fun e w' => e = .returned (.int .i64 2) ∧ Keep Nix w w' := by
  obtain ⟨aK, cK, aS, cS, aW, cW, rfl, -⟩ := rGHeld_open hh
  have kk : Keep Nix w (w.alloc (.cells #[.int .u64 h.fTxn, .slice aK h.fKeys.length cK, .slice aS h.fSpans.length cS, .slice aW h.fWrites.length cW] 28)) := (Keep.refl Nix w).alloc _
  clear hh
  go_enter Try.func12, Try.ntmps12
  go_wp2_with fail
  go_ret
  exact ⟨rfl, kk⟩
set_option maxRecDepth 100000 in
theorem put_nil {p : Nat → Prop} (h : GHeld) (csh : List Value) (w : World) (hh : rGHeld w p csh h) : Calls Try.prog 11 #[.pointer none, .agg csh.toArray] w fun e w' => e = .returned (.int .i64 2) ∧ Keep Nix w w' := by
  have hh2 := hh
  obtain ⟨aK, cK, aS, cS, aW, cW, rfl, -⟩ := rGHeld_open hh
  have kk : Keep Nix w (w.alloc (.cells #[.int .u64 h.fTxn, .slice aK h.fKeys.length cK, .slice aS h.fSpans.length cS, .slice aW h.fWrites.length cW] 28)) := (Keep.refl Nix w).alloc _
  have row0 : RowIs (w.alloc (.cells #[.int .u64 h.fTxn, .slice aK h.fKeys.length cK, .slice aS h.fSpans.length cS, .slice aW h.fWrites.length cW] 28)) w.heap.size 28 [.int .u64 h.fTxn, .slice aK h.fKeys.length cK, .slice aS h.fSpans.length cS, .slice aW h.fWrites.length cW] := RowIs.alloc w _ _
  have hM := may_nil h [.int .u64 h.fTxn, .slice aK h.fKeys.length cK, .slice aS h.fSpans.length cS, .slice aW h.fWrites.length cW] _ (rGHeld_lawful.nix hh2 kk)
  have y0 := row0.cell 0
  (try simp only [List.getElem?_cons_zero] at y0)
  have y1 := row0.cell 1
  (try simp only [List.getElem?_cons_succ] at y1); (try simp only [List.getElem?_cons_zero] at y1)
  have y2 := row0.cell 2
  (try simp only [List.getElem?_cons_succ] at y2); (try simp only [List.getElem?_cons_zero] at y2)
  have y3 := row0.cell 3
  (try simp only [List.getElem?_cons_succ] at y3); (try simp only [List.getElem?_cons_zero] at y3)
  clear hh hh2 row0
  go_enter Try.func11, Try.ntmps11
  go_wp2_with fail
  go_fit hM
  rintro e w1 ⟨rfl, k1⟩
  go_wp2_with fail
  go_ret
  exact ⟨rfl, kk.trans k1⟩
end Go.Proofs.Ytfagejfcibgigaa
