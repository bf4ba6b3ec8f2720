/- LOCK: slices.Sort at uint64: at most 12 elements. Printed by mac.py. -/
import Derived.Test.YtfagejfcibgigaaQLkF
import Derived.Test.YtfagejfcibgigaaQCpR
namespace Go.Proofs.Ytfagejfcibgigaa
open Go.RowKit

theorem ins0_c (a : Option Addr) (cap : Nat) (w : World) :
    Calls Try.prog 86 #[.slice a 0 cap, .int .i64 0, .int .i64 0] w fun e w' => e = .returned (.tuple #[]) ∧ w = w' := by
  go_enter Try.func86, Try.ntmps86
  go_wp2_with fail
  refine wp_loop_rounds 1 ?_
  rw [rounds_succ]
  go_wp2_with fail
  go_end0
  exact ⟨rfl, rfl⟩
theorem pdq_c {R : World → Prop} (a : Option Addr) (n cap : Nat) (k : Int) (w : World) (hn : n ≤ 12) (HI : Calls Try.prog 86 #[.slice a n cap, .int .i64 0, .int .i64 n] w fun e w' => e = .returned (.tuple #[]) ∧ R w') :
    Calls Try.prog 84 #[.slice a n cap, .int .i64 0, .int .i64 n, .int .i64 k] w fun e w' => e = .returned (.tuple #[]) ∧ R w' := by
  have hc : (n : Int) ≤ 12 := by omega
  have hw : IntKind.i64.wrap (n : Int) = (n : Int) := by rw [IntKind.wrap_i64]; omega
  go_enter Try.func84, Try.ntmps84
  go_wp2_with fail
  refine wp_loop_rounds 1 ?_
  rw [rounds_succ]
  go_wp2_with fail
  go_fit HI
  rintro e w1 ⟨rfl, hR⟩
  go_wp2_with fail
  refine bodyPost_ret (results_none rfl _ _ _) rfl ?_
  exact ⟨rfl, hR⟩
set_option maxRecDepth 100000 in
theorem len64_c (n : Nat) (w : World) (hn : n ≤ 12) : Calls Try.prog 96 #[.int .u64 n] w fun e w' => (∃ k, e = .returned (.int .i64 k)) ∧ w = w' := by
  rcases (by omega : n = 0 ∨ n = 1 ∨ n = 2 ∨ n = 3 ∨ n = 4 ∨ n = 5 ∨ n = 6 ∨ n = 7 ∨ n = 8 ∨ n = 9 ∨ n = 10 ∨ n = 11 ∨ n = 12) with h | h | h | h | h | h | h | h | h | h | h | h | h <;> subst h
  all_goals
    go_enter Try.func96, Try.ntmps96
    go_wp2_with fail
    go_ret
    exact ⟨⟨_, rfl⟩, rfl⟩
theorem len_c (n : Nat) (w : World) (hn : n ≤ 12) : Calls Try.prog 85 #[.int .u64 n] w fun e w' => (∃ k, e = .returned (.int .i64 k)) ∧ w = w' := by
  go_enter Try.func85, Try.ntmps85
  go_wp2_with fail
  go_fit (len64_c n w hn)
  rintro e w1 ⟨⟨k, rfl⟩, rfl⟩
  go_wp2_with fail
  go_ret
  exact ⟨⟨k, rfl⟩, rfl⟩
theorem sortV_c {R : World → Prop} (a : Option Addr) (n cap : Nat) (w : World) (hn : n ≤ 12) (HI : Calls Try.prog 86 #[.slice a n cap, .int .i64 0, .int .i64 n] w fun e w' => e = .returned (.tuple #[]) ∧ R w') :
    Calls Try.prog 78 #[.slice a n cap] w fun e w' => e = .returned (.tuple #[]) ∧ R w' := by
  have HP := fun k => pdq_c a n cap k w hn HI
  have hcv : IntKind.u64.wrap (n : Int) = (n : Int) := by simp [IntKind.wrap, IntKind.signed, IntKind.bits]; omega
  go_enter Try.func78, Try.ntmps78
  go_wp2_with fail
  go_fit (len_c n w hn)
  rintro e w1 ⟨⟨k, rfl⟩, rfl⟩
  go_wp2_with fail
  go_fit (HP k)
  rintro e w2 ⟨rfl, hR⟩
  go_wp2_with fail
  go_end0
  exact ⟨rfl, hR⟩
theorem sort_c {base : Nat} (a : Option Addr) (n cap : Nat) (xs : List Int) (w : World) (own : w.ownsRow base 23 1 (.slice a n cap) n (xs.map iv)) (hn : n ≤ 12) :
    Calls Try.prog 78 #[.slice a n cap] w fun e w' => e = .returned (.tuple #[]) ∧ ∃ ys, w'.ownsRow base 23 1 (.slice a n cap) n (ys.map iv) ∧ ys.Perm xs ∧ UpTo n ys ∧ Keep (OwnB (.slice a n cap)) w w' := by
  have hl : xs.length = n := by have := own.1; simpa using this
  by_cases h0 : n = 0
  · subst h0
    have hx : xs = [] := List.eq_nil_of_length_eq_zero hl
    subst hx
    refine (sortV_c (R := fun w' => w = w') a 0 cap w hn (ins0_c a cap w)).mono ?_
    rintro e w' ⟨rfl, rfl⟩
    exact ⟨rfl, [], own, List.Perm.refl _, fun p q h1 h2 => by omega, Keep.refl _ _⟩
  · obtain ⟨b, rest, rfl, hb, row, hlr, hlx, hc, hm⟩ := own_row own (Nat.pos_of_ne_zero h0)
    refine (sortV_c (R := fun w' => ∃ ys, RowIs w' b 23 (ys.map iv ++ rest) ∧ ys.Perm xs ∧ UpTo n ys ∧ Keep (· = b) w w') _ n cap w hn (ins_c b n cap xs rest w row hl (by omega))).mono ?_
    rintro e w' ⟨rfl, ys, row', hp, hu, kk⟩
    have hly : ys.length = xs.length := hp.length_eq
    refine ⟨rfl, ys, row_own row' hb (by rw [← hlr]; simp [hly]) (by simp [hly, hl]) hc hm, hp, hu, kk.mono (fun i hi => by rw [hi]; rfl)⟩
end Go.Proofs.Ytfagejfcibgigaa
