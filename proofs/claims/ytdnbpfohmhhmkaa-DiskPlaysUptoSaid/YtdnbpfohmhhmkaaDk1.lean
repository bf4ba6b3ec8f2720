/- DISK: the small methods of the program's disk. Printed by mac.py. -/
import Derived.Test.YtdnbpfohmhhmkaaErr
import Derived.Test.YtdnbpfohmhhmkaaWhole
import Derived.Test.YtdnbpfohmhhmkaaLst
namespace Go.Proofs.Ytdnbpfohmhhmkaa
open Go.RowKit

theorem up_nil (w : World) : Calls Try.prog 32 #[.pointer none] w fun e w' => e = .returned (.int .i64 2) ∧ w = w' := by
  go_enter Try.func32, Try.ntmps32
  go_wp2
  go_ret
  exact ⟨rfl, rfl⟩
theorem up_c (g : Nat) (s1 s2 s4 : Value) (dn : Bool) (w : World) (row : RowIs w g 62 [s1, s2, .bool dn, s4]) : Calls Try.prog 32 #[.pointer (some ⟨g, 0, none⟩)] w fun e w' => e = .returned (.int .i64 (if dn then 3 else 0)) ∧ w = w' := by
  have x2 := row.cell 2
  (try simp only [List.getElem?_cons_succ] at x2); (try simp only [List.getElem?_cons_zero] at x2)
  cases dn
  all_goals
    go_enter Try.func32, Try.ntmps32
    go_wp2
    go_ret
    exact ⟨rfl, rfl⟩
theorem size_nil (w : World) : Calls Try.prog 31 #[.pointer none] w fun e w' => e = .returned (.int .i64 0) ∧ w = w' := by
  go_enter Try.func31, Try.ntmps31
  go_wp2
  go_ret
  exact ⟨rfl, rfl⟩
theorem size_c (g : Nat) (a : Option Addr) (n c : Nat) (s2 s3 s4 : Value) (w : World) (row : RowIs w g 62 [.slice a n c, s2, s3, s4]) : Calls Try.prog 31 #[.pointer (some ⟨g, 0, none⟩)] w fun e w' => e = .returned (.int .i64 n) ∧ w = w' := by
  have x2 := row.cell 0
  (try simp only [List.getElem?_cons_succ] at x2); (try simp only [List.getElem?_cons_zero] at x2)
  go_enter Try.func31, Try.ntmps31
  go_wp2
  go_ret
  exact ⟨rfl, rfl⟩
theorem waiting_nil (w : World) : Calls Try.prog 12 #[.pointer none] w fun e w' => e = .returned (.int .i64 0) ∧ w = w' := by
  go_enter Try.func12, Try.ntmps12
  go_wp2
  go_ret
  exact ⟨rfl, rfl⟩
theorem waiting_c (g : Nat) (a : Option Addr) (n c : Nat) (s1 s3 s4 : Value) (w : World) (row : RowIs w g 62 [s1, .slice a n c, s3, s4]) : Calls Try.prog 12 #[.pointer (some ⟨g, 0, none⟩)] w fun e w' => e = .returned (.int .i64 n) ∧ w = w' := by
  have x2 := row.cell 1
  (try simp only [List.getElem?_cons_succ] at x2); (try simp only [List.getElem?_cons_zero] at x2)
  go_enter Try.func12, Try.ntmps12
  go_wp2
  go_ret
  exact ⟨rfl, rfl⟩
theorem down_nil (w : World) : Calls Try.prog 30 #[.pointer none] w fun e w' => e = .returned (.bool false) ∧ w = w' := by
  go_enter Try.func30, Try.ntmps30
  go_wp2
  go_ret
  exact ⟨rfl, rfl⟩
theorem down_c (g : Nat) (dn : Bool) (s1 s2 s4 : Value) (w : World) (row : RowIs w g 62 [s1, s2, .bool dn, s4]) : Calls Try.prog 30 #[.pointer (some ⟨g, 0, none⟩)] w fun e w' => e = .returned (.bool dn) ∧ w = w' := by
  have x2 := row.cell 2
  (try simp only [List.getElem?_cons_succ] at x2); (try simp only [List.getElem?_cons_zero] at x2)
  go_enter Try.func30, Try.ntmps30
  go_wp2
  go_ret
  exact ⟨rfl, rfl⟩
theorem fork_nil (w : World) : Calls Try.prog 26 #[.pointer none] w fun e w' => e = .returned (.pointer none) ∧ w = w' := by
  go_enter Try.func26, Try.ntmps26
  go_wp2
  go_ret
  exact ⟨rfl, rfl⟩
theorem start_nil (w : World) : Calls Try.prog 14 #[.pointer none] w fun e w' => e = .returned (.int .i64 2) ∧ w = w' := by
  go_enter Try.func14, Try.ntmps14
  go_wp2
  go_ret
  exact ⟨rfl, rfl⟩
theorem crash_nil (v : Value) (w : World) : Calls Try.prog 13 #[.pointer none, v] w fun e w' => e = .returned (.int .i64 2) ∧ w = w' := by
  go_enter Try.func13, Try.ntmps13
  go_wp2
  go_ret
  exact ⟨rfl, rfl⟩
theorem arm_nil (n : Int) (w : World) : Calls Try.prog 21 #[.pointer none, .int .i64 n] w fun e w' => e = .returned (.int .i64 2) ∧ w = w' := by
  go_enter Try.func21, Try.ntmps21
  go_wp2
  go_ret
  exact ⟨rfl, rfl⟩
theorem flush_nil (w : World) : Calls Try.prog 11 #[.pointer none] w fun e w' => e = .returned (.int .i64 2) ∧ w = w' := by
  go_enter Try.func11, Try.ntmps11
  go_wp2_with fail
  go_fit (up_nil _)
  rintro e w1 ⟨rfl, rfl⟩
  go_wp2_with fail
  go_fit (fine_c 2 _)
  rintro e w1 ⟨rfl, rfl⟩
  go_wp2_with fail
  go_ret
  exact ⟨rfl, rfl⟩
theorem write_nil (v : Value) (n : Int) (w : World) : Calls Try.prog 9 #[.pointer none, .int .i64 n, v] w fun e w' => e = .returned (.int .i64 2) ∧ w = w' := by
  go_enter Try.func9, Try.ntmps9
  go_wp2_with fail
  go_fit (up_nil _)
  rintro e w1 ⟨rfl, rfl⟩
  go_wp2_with fail
  go_fit (fine_c 2 _)
  rintro e w1 ⟨rfl, rfl⟩
  go_wp2_with fail
  go_ret
  exact ⟨rfl, rfl⟩
theorem read_nil (n : Int) (w : World) : Calls Try.prog 15 #[.pointer none, .int .i64 n] w fun e w' => e = .returned (.tuple #[.slice none 0 0, .int .i64 2]) ∧ w = w' := by
  go_enter Try.func15, Try.ntmps15
  go_wp2_with fail
  go_fit (up_nil _)
  rintro e w1 ⟨rfl, rfl⟩
  go_wp2_with fail
  go_fit (fine_c 2 _)
  rintro e w1 ⟨rfl, rfl⟩
  go_wp2_with fail
  go_ret2
  exact ⟨rfl, rfl⟩
/-- A call that may be hit: down, what is left, hit? -/
def hitF (dn : Bool) (ar : Int) : Bool × Int × Bool := if ar = 0 then (dn, 0, false) else (decide (ar = 1), ar - 1, decide (ar = 1))
theorem hit_c (g : Nat) (s1 s2 : Value) (dn : Bool) (ar : Int) (w : World) (row : RowIs w g 62 [s1, s2, .bool dn, .int .i64 ar]) (h0 : 0 ≤ ar) (h1 : ar ≤ 9223372036854775807) : Calls Try.prog 34 #[.pointer (some ⟨g, 0, none⟩)] w fun e w' => e = .returned (.bool (hitF dn ar).2.2) ∧ RowIs w' g 62 [s1, s2, .bool (hitF dn ar).1, .int .i64 (hitF dn ar).2.1] ∧ Keep (· = g) w w' := by
  have x3 := row.cell 3
  (try simp only [List.getElem?_cons_succ] at x3); (try simp only [List.getElem?_cons_zero] at x3)
  have f3 := row.frozen 3
  have f2 := row.frozen 2
  rcases test_eq ar 0 with ⟨q, hq⟩ | ⟨q, hq⟩
  · have HF : Hid (hitF dn ar = (dn, 0, false)) := by show hitF dn ar = _; unfold hitF; rw [if_pos hq.out]
    go_enter Try.func34, Try.ntmps34
    go_wp2
    go_ret
    rw [HF.out]
    exact ⟨rfl, by rw [hq.out] at row; exact row, Keep.refl _ _⟩
  · have HF : Hid (hitF dn ar = (decide (ar = 1), ar - 1, decide (ar = 1))) := by show hitF dn ar = _; unfold hitF; rw [if_neg hq]
    have hpos : 1 ≤ ar := by omega
    have row1 : RowIs (w.setCell ⟨g, 3, none⟩ (.int .i64 (ar - 1))) g 62 [s1, s2, .bool dn, .int .i64 (ar - 1)] := row.set 3 _
    have row2 : RowIs ((w.setCell ⟨g, 3, none⟩ (.int .i64 (ar - 1))).setCell ⟨g, 2, none⟩ (.bool (decide (ar = 1)))) g 62 [s1, s2, .bool (decide (ar = 1)), .int .i64 (ar - 1)] := row1.set 2 _
    have kk : Keep (· = g) w ((w.setCell ⟨g, 3, none⟩ (.int .i64 (ar - 1))).setCell ⟨g, 2, none⟩ (.bool (decide (ar = 1)))) := ((Keep.refl (· = g) w).setCell (fun _ => rfl) _).setCell (fun _ => rfl) _
    have y3 := row1.cell 3
    (try simp only [List.getElem?_cons_succ] at y3); (try simp only [List.getElem?_cons_zero] at y3)
    have y2 := row1.cell 2
    (try simp only [List.getElem?_cons_succ] at y2); (try simp only [List.getElem?_cons_zero] at y2)
    have g2 := row1.frozen 2
    have z2 := row2.cell 2
    (try simp only [List.getElem?_cons_succ] at z2); (try simp only [List.getElem?_cons_zero] at z2)
    have hd : ((ar - 1 == 0) : Bool) = decide (ar = 1) := by rw [Bool.eq_iff_iff]; simp; omega
    have HR := Lib.hid row2
    have HK := Lib.hid kk
    clear row2 kk hq row row1
    go_enter Try.func34, Try.ntmps34
    go_wp2
    go_ret
    rw [HF.out]
    exact ⟨rfl, HR.out, HK.out⟩
end Go.Proofs.Ytdnbpfohmhhmkaa
