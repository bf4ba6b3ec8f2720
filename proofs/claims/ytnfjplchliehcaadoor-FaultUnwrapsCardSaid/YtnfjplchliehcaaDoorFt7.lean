/- FAULTS: fault.Code, awake, the law FaultAgain. Printed by mac.py. -/
import Derived.Test.YtnfjplchliehcaaDoorFt6
namespace Go.Proofs.YtnfjplchliehcaaDoor
open Go.RowKit Go.Extern.Stop Go.Stop Go.Extern

/-- The package variable errors.errorType. -/
def Laid (w : World) : Prop := w.cell? ⟨0, 0, none⟩ = some (.iface 78 (.agg #[.pointer (some ⟨1, 26, none⟩)])) ∧ 0 < w.heap.size
theorem Laid.keep {w w' : World} (h : Laid w) (k : Keep Nix w w') : Laid w' := ⟨(k.cell (p := ⟨0, 0, none⟩) h.2 id).trans h.1, Nat.lt_of_lt_of_le h.2 k.size⟩
theorem Laid.of {w : World} (h : w.cell? ⟨0, 0, none⟩ = some (.iface 78 (.agg #[.pointer (some ⟨1, 26, none⟩)]))) : Laid w := ⟨h, by
  rcases Nat.eq_zero_or_pos w.heap.size with h0 | h0
  · simp [World.cell?, h0] at h
  · exact h0⟩
theorem codeOf_no : ∀ {E : Er}, E.isCode = false → E.codeOf = 11
  | .code _, h => by cases h
  | .other _, _ => rfl
  | .fault _ E, h => codeOf_no (E := E) h
theorem code_nil (w : World) : Calls Tryd.prog 17 #[.nilIface] w fun e w' => e = .returned (.int .i64 0) ∧ w = w' := by
  go_enter Tryd.func17, Tryd.ntmps17
  go_wp2
  go_ret
  exact ⟨rfl, rfl⟩
set_option maxHeartbeats 1000000 in
theorem code_c (E : Er) (v : Value) (w : World) (h : IsEr w E v) (hl : Laid w) : Calls Tryd.prog 17 #[v] w fun e w' => e = .returned (.int .i64 E.codeOf) ∧ Keep Nix w w' := by
  have k1 : Keep Nix w (w.alloc (.cells #[.int .i64 0] 22)) := (Keep.refl Nix w).alloc _
  have row := RowIs.alloc w #[.int .i64 0] 22
  have HC := Lib.hid (asE_c E v w.heap.size _ _ (h.keep k1) row (hl.keep k1).1)
  obtain ⟨T, x, rfl⟩ := h.iface
  clear h hl
  obtain ⟨ic, hic⟩ : ∃ b, E.isCode = b := ⟨_, rfl⟩
  have hno := codeOf_no (E := E)
  clear row
  go_enter Tryd.func17, Tryd.ntmps17
  go_wp2_with fail
  go_fit HC.out
  rintro e w' ⟨rfl, r, k⟩
  rw [hic] at r hno ⊢
  replace k := Lib.hid (k1.then k (fun i hi h => by omega))
  clear k1 HC
  cases ic with
  | false =>
    have hno' := Lib.hid (hno rfl)
    clear r hno
    go_wp2_with fail
    go_ret
    rw [hno'.out]
    exact ⟨rfl, k.out⟩
  | true =>
    rw [if_pos rfl] at r
    have y0 := r.cell 0
    (try simp only [List.getElem?_cons_zero] at y0)
    clear r hno
    go_wp2_with fail
    go_ret
    exact ⟨rfl, k.out⟩
set_option maxHeartbeats 2000000 in
theorem ftawake_c (w : World) (hl : Laid w) : Calls Tryd.prog 8 #[] w fun e w' => e = .returned (.bool true) ∧ Keep Nix w w' := by
  have hm := methF
  go_enter Tryd.func8, Tryd.ntmps8
  go_wp2_with fail
  go_fit (newf_c 12 (by decide) [115, 104, 97, 114, 100] w)
  rintro e w1 ⟨b1, rfl, -, row1, h1, k1⟩
  go_wp2_with fail
  go_fit (wrap_c _ _ [116, 120, 110] w1 h1)
  rintro e w2 ⟨b2, rfl, -, row2, h2, k2⟩
  replace h1 := h1.keep k2
  replace k1 := k1.trans k2
  clear k2 row1
  go_wp2_with fail
  go_fit (errorF_c _ [116, 120, 110] b2 _ w2 row2 h1 (by decide))
  rintro e w3 ⟨rfl, k3⟩
  rw [show strB ([116, 120, 110] ++ 58 :: 32 :: (Er.fault [115, 104, 97, 114, 100] (Er.code 12)).text) = ⟨#[116, 120, 110, 58, 32, 115, 104, 97, 114, 100, 58, 32, 108, 111, 99, 107, 101, 100]⟩ from by decide +kernel]
  replace h2 := h2.keep k3
  replace k1 := k1.trans k3
  clear k3 row2 h1
  go_wp2_with fail
  go_fit (code_c _ _ w3 h2 (hl.keep k1))
  rintro e w4 ⟨rfl, k4⟩
  rw [show (Er.fault [116, 120, 110] (Er.fault [115, 104, 97, 114, 100] (Er.code 12))).codeOf = 12 from rfl]
  replace k1 := Lib.hid (k1.trans k4)
  clear k4 h2
  go_wp2_with fail
  go_fit (again_c 12 w4)
  rintro e w5 ⟨rfl, rfl⟩
  rw [show kindF 12 = 2 from rfl]
  go_wp2_with fail
  go_ret
  exact ⟨rfl, k1.out⟩
end Go.Proofs.YtnfjplchliehcaaDoor
