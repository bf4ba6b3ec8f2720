/- CodeLonger: a greater number has no fewer bytes; a number below 0 has as many as its other one; one to ten bytes. For every input. -/
import Derived.Test.YtbjoemaejbmjaaaCode
namespace Go.Proofs.Ytbjoemaejbmjaaa.codeLonger
open Go.RowKit Go.ChangeShapes Go.WideShapes Go.ChangeAt

theorem len_mono (f a b : Nat) (h : a ≤ b) : (numF f a).length ≤ (numF f b).length := by
  induction f generalizing a b with
  | zero => simp [numF]
  | succ f ih =>
    by_cases h1 : a < 128
    · rw [numF_small _ _ h1]; have := (numF_len (f + 1) b).2; simpa using this
    · rw [numF_big _ _ (by omega), numF_big _ _ (by omega)]
      simp only [List.length_cons]
      have := ih (a / 128) (b / 128) (by omega)
      omega
theorem len_pair (f n : Nat) : (numF f (2 * n)).length = (numF f (2 * n + 1)).length := by
  cases f with
  | zero => simp [numF]
  | succ f =>
    by_cases h1 : 2 * n < 128
    · rw [numF_small _ _ h1, numF_small _ _ (by omega)]; rfl
    · rw [numF_big _ _ (by omega), numF_big _ _ (by omega)]
      rw [show (2 * n + 1) / 128 = 2 * n / 128 by omega]; simp
theorem len_zig (c : Int) : (numB (zig c).toNat).length = (numB (zig (-c - 1)).toNat).length := by
  unfold numB zig
  by_cases h : c < 0
  · rw [if_pos h, if_neg (by omega)]
    have e1 : (-(c + 1) * 2 + 1).toNat = 2 * (-(c + 1)).toNat + 1 := by omega
    have e2 : ((-c - 1) * 2).toNat = 2 * (-(c + 1)).toNat := by omega
    rw [e1, e2, len_pair]
  · rw [if_neg h, if_pos (by omega)]
    have e1 : (-(-c - 1 + 1) * 2 + 1).toNat = 2 * c.toNat + 1 := by omega
    have e2 : (c * 2).toNat = 2 * c.toNat := by omega
    rw [e1, e2, len_pair]
theorem wrap_other {c : Int} (h : isI64 c) : wrap64 (wrap64 (-c) - 1) = -c - 1 := by
  unfold isI64 at h; simp only [wrap64]; omega

theorem other_i64 {c : Int} (h : isI64 c) : isI64 (-c - 1) := by unfold isI64 at *; omega
set_option maxRecDepth 100000 in
set_option maxHeartbeats 400000 in
theorem walk' (a b c : Int) (w : World) (ha : isU64 a) (hb : isU64 b) (hc : isI64 c) :
    Calls Try.prog 3 #[.int .u64 a, .int .u64 b, .int .i64 c] w fun e w' => e = .returned (.bool true) ∧ Keep Nix w w' := by
  have hz : (((numB (zig c).toNat).length : Int) == ((numB (zig (-c - 1)).toNat).length : Int)) = true := by rw [len_zig c]; simp
  have hl := numB_len a.toNat
  have kk := Keep.refl Nix w
  by_cases h : b < a
  case' neg => have hm : (numB a.toNat).length ≤ (numB b.toNat).length := len_mono 9 a.toNat b.toNat (by omega)
  all_goals
    go_enter Try.func3, Try.ntmps3
    go_wp2_with (first
      | (go_at_call 10; refine (awake_c _).mono ?_; rintro e w' ⟨rfl, hk⟩; replace kk := kk.trans hk; clear hk)
      | (go_at_call 11; refine (num_i _ _ (by assumption)).mono ?_; rintro e w' ⟨_, _, rfl, -, hk⟩; replace kk := kk.trans hk; clear hk)
      | (go_at_call 12; refine (int_i _ _ (by assumption)).mono ?_; rintro e w' ⟨_, _, rfl, -, hk⟩; replace kk := kk.trans hk; clear hk)
      | (go_at_call 12; rw [wrap_other hc]; refine (int_i _ _ (other_i64 hc)).mono ?_; rintro e w' ⟨_, _, rfl, -, hk⟩; replace kk := kk.trans hk; clear hk))
    go_ret
    refine ⟨ret_true ?_, kk⟩
  all_goals (simp only [decide_eq_true_eq]; omega)
theorem walk {m0 m1 m2 : Nat} (W : World) (v0 v1 v2 : Value) (h0 : Arg Try.prog W m0 22 v0) (h1 : Arg Try.prog W m1 22 v1) (h2 : Arg Try.prog W m2 2 v2) :
    Calls Try.prog 3 #[v0, v1, v2] W fun e w' => e = .returned (.bool true) ∧ Keep Nix W w' := by
  obtain ⟨a, rfl, wa⟩ := h0.int Try.underlying22
  obtain ⟨b, rfl, wb⟩ := h1.int Try.underlying22
  obtain ⟨c, rfl, wc⟩ := h2.int Try.underlying2
  exact walk' a b c W (isU64_wf wa) (isU64_wf wb) (isI64_wf wc)
end Go.Proofs.Ytbjoemaejbmjaaa.codeLonger
