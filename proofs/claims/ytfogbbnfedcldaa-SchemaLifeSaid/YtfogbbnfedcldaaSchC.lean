/- SCHEMA: the reference's places once more: quiet. Printed by gen24.py. -/
import Derived.Test.YtfogbbnfedcldaaSchB
namespace Go.Proofs.Ytfogbbnfedcldaa
open Go.RowKit

theorem drewN_two (w : World) (a b : Nat) : (w.drewN a).drewN b = w.drewN (a + b) := by
  unfold World.drewN; simp [Nat.add_assoc]
set_option maxHeartbeats 2000000 in
theorem rplaces_q {p : Nat → Prop} (a : Option Addr) (n cap : Nat) (l : List Int) (m : Int) (w : World) (hl : rList (rInt .i64) w p [.slice a n cap] l) :
    Calls Try.prog 53 #[.slice a n cap, .int .i64 m] w fun e w' => e = .returned (.bool (placesR m l)) ∧ ∃ q, w' = w.drewN q := by
  obtain ⟨rfl, hcap, hf⟩ := rList_len hl
  have hfar : l.length ≤ 9223372036854775807 := by have := far_len; unfold maxLen at this; omega
  clear hf
  go_enter Try.func53, Try.ntmps53
  go_wp2_with fail
  go_loopw [5] (fun i wr => ∃ k : Nat, k ≤ l.length ∧ i = .int .i64 k ∧ Hid (goodP m (l.take k)) ∧ ∃ q, wr = w.drewN q) (fun i _ => l.length - (intOf i).toNat)
  case atStart => exact ⟨0, by omega, rfl, goodP_nil _, 0, rfl⟩
  case round =>
    obtain ⟨k, hk, rfl, hg, q0, hq0⟩ := hrel
    have kk : Keep Nix w wr := by rw [hq0]; exact (Keep.refl Nix w).drewN q0
    by_cases hlt : k < l.length
    · have hi0 : (0 : Int) ≤ (k : Int) := by omega
      have hi1 : (k : Int) < (l.length : Int) := by omega
      have hi2 : (k : Int) ≤ (cap : Int) := by omega
      replace hl := (rList_lawful (rInt_lawful _)).nix hl kk
      obtain ⟨b, off, rfl, hb, x, -⟩ := rInt_at hl k hlt
      have hT := rList_take hl k hk
      have HB := Lib.hid (goodP_bad (m := m) k hlt)
      have HS := Lib.hid (goodP_snoc (m := m) k hlt)
      clear hl
      replace hq0 := Lib.hid hq0
      generalize hv : l[k] = v at x HB HS
      clear hv
      have fin : ¬ goodP m l → placesR m l = false := fun h => by unfold placesR; rw [decide_eq_false_iff_not]; exact fun h2 => h h2.1
      have FIN := Lib.hid fin
      clear fin
      rcases Int.lt_or_le v 0 with h1 | h1
      · have d1 : decide (v < 0) = true := decide_eq_true h1
        go_wp2_with fail
        go_quiet (fail)
        go_wp2_with fail
        go_ret
        exact ⟨ret_bool (FIN.out (HB.out (by omega))).symm, _, by rw [hq0.out]; exact drewN_two _ _ _⟩
      have d1 : decide (v < 0) = false := decide_eq_false (by omega)
      rcases Int.lt_or_le v m with h2 | h2
      rotate_left
      · have d2 : decide (m ≤ v) = true := decide_eq_true h2
        go_wp2_with fail
        go_quiet (fail)
        go_wp2_with fail
        go_ret
        exact ⟨ret_bool (FIN.out (HB.out (by omega))).symm, _, by rw [hq0.out]; exact drewN_two _ _ _⟩
      have d2 : decide (m ≤ v) = false := decide_eq_false (by omega)
      have HIN := Lib.hid (fun w' => In_c (p := p) (some ⟨b, off, none⟩) k cap (l.take k) v w')
      by_cases hm : v ∈ l.take k
      · have hd : decide (v ∈ l.take k) = true := decide_eq_true hm
        have HM := Lib.hid hm
        clear hm
        rw [hd] at HIN
        clear hd
        go_wp2_with fail
        go_quiet ((go_at_call 49; exact quiet_eq (HIN.out _ ((rList_lawful (rInt_lawful _)).nix hT ((Keep.refl Nix wr).drewN _)))))
        go_wp2_with fail
        go_ret
        exact ⟨ret_bool (FIN.out (HB.out (fun h => h.2.2 HM.out))).symm, _, by rw [hq0.out]; exact drewN_two _ _ _⟩
      · have hd : decide (v ∈ l.take k) = false := decide_eq_false hm
        have HM := Lib.hid hm
        clear hm
        rw [hd] at HIN
        clear hd
        go_wp2_with fail
        go_quiet ((go_at_call 49; exact quiet_eq (HIN.out _ ((rList_lawful (rInt_lawful _)).nix hT ((Keep.refl Nix wr).drewN _)))))
        go_wp2_with fail
        go_roundw
        case rel => exact ⟨k + 1, by omega, by go_num, by show goodP _ _; rw [HS.out]; exact ⟨hg.out, by omega, by omega, HM.out⟩, _, by rw [hq0.out]; exact drewN_two _ _ _⟩
        case measure => simp [intOf]; omega
    · obtain rfl : k = l.length := by omega
      have hG : placesR m l = decide (1 ≤ l.length ∧ l.length ≤ 6) := by
        have := hg.out
        rw [List.take_length] at this
        unfold placesR; exact decide_eq_decide.2 ⟨fun h => h.2, fun h => ⟨this, h⟩⟩
      have HG := Lib.hid hG
      clear hG
      replace hq0 := Lib.hid hq0
      go_wp2_with fail
      all_goals
        go_ret
        exact ⟨ret_bool (by rw [HG.out, Bool.eq_iff_iff]; simp only [decide_eq_true_eq, Bool.false_eq_true, false_iff]; omega), _, hq0.out⟩
end Go.Proofs.Ytfogbbnfedcldaa
