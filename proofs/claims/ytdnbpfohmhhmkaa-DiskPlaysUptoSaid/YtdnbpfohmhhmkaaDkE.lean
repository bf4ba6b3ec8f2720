/- DISK: read's other ways; a fork. Printed by mac.py. -/
import Derived.Test.YtdnbpfohmhhmkaaDkD
import Derived.Lib.SliceRun
namespace Go.Proofs.Ytdnbpfohmhhmkaa
open Go.RowKit

theorem read_down (g : Nat) (s1 s2 s4 : Value) (n : Int) (w : World) (row : RowIs w g 62 [s1, s2, .bool true, s4]) : Calls Try.prog 15 #[.pointer (some ⟨g, 0, none⟩), .int .i64 n] w fun e w' => e = .returned (.tuple #[.slice none 0 0, .int .i64 3]) ∧ w = w' := by
  go_enter Try.func15, Try.ntmps15
  go_wp2_with fail
  go_fit (up_c g _ _ _ true _ row)
  rintro e w1 ⟨rfl, rfl⟩
  go_wp2_with fail
  go_fit (fine_c 3 _)
  rintro e w1 ⟨rfl, rfl⟩
  go_wp2_with fail
  go_ret2
  exact ⟨rfl, rfl⟩
theorem read_out (g : Nat) (a : Option Addr) (m c : Nat) (s2 s4 : Value) (n : Int) (w : World) (row : RowIs w g 62 [.slice a m c, s2, .bool false, s4]) (h : n < 0 ∨ (m : Int) ≤ n) : Calls Try.prog 15 #[.pointer (some ⟨g, 0, none⟩), .int .i64 n] w fun e w' => e = .returned (.tuple #[.slice none 0 0, .int .i64 1]) ∧ w = w' := by
  have x0 := row.cell 0
  (try simp only [List.getElem?_cons_succ] at x0); (try simp only [List.getElem?_cons_zero] at x0)
  rcases (show n < 0 ∨ (0 ≤ n ∧ (m : Int) ≤ n) by omega) with h | ⟨h, h'⟩
  all_goals
    go_enter Try.func15, Try.ntmps15
    go_wp2_with fail
    go_fit (up_c g _ _ _ false _ row)
    rintro e w1 ⟨rfl, rfl⟩
    go_wp2_with fail
    go_fit (fine_c 0 _)
    rintro e w1 ⟨rfl, rfl⟩
    go_wp2_with fail
    go_ret2
    exact ⟨rfl, rfl⟩
theorem owns_empty (w : World) (e sz base : Nat) (hb : base ≤ w.heap.size) : (w.alloc (.cells #[] e)).ownsRow base e sz (.slice (some ⟨w.heap.size, 0, none⟩) 0 0) 0 [] := by
  refine ⟨by simp, .inr ⟨w.heap.size, 0, #[], rfl, hb, heap_alloc_new _ _, Nat.le_refl _, Nat.zero_le _, by simp, by simp⟩⟩
theorem list0_run {P : Program} {t e n bytes : Nat} (S : SliceT P t e n bytes) (w : World) : (Instr.buildSlice t 0 #[]).run P w = .ok (.slice (some ⟨w.heap.size, 0, none⟩) 0 0) (w.alloc (.cells #[] e)) := by
  obtain ⟨i, z, hi, hz, hsz, hby, hzs⟩ := S.info
  unfold Instr.buildSlice
  simp [run_underlying S.under, sizeOf, typeInfo, hi, newRow, newObj, Instr.fill]
  have e : ∀ f : Nat → Value, Array.map f (Array.range 0) = #[] := fun f => by apply Array.eq_empty_of_size_eq_zero; simp
  rw [e]
  rfl
theorem T_lsec : SliceT Try.prog 59 65 64 64 := SliceT.mk' Try.underlying59 (z := .agg (List.replicate 64 (bv 0)).toArray) (by kernel_rfl) rfl (by decide)
theorem secs_one (S : List (List UInt8)) : ∀ u ∈ secs S, u.oneCell' = true := fun u hu => by
  unfold secs at hu
  obtain ⟨l, hl, hu⟩ := List.mem_flatten.1 hu
  obtain ⟨b, -, rfl⟩ := List.mem_map.1 hl
  exact bv_one _ u hu
theorem wrts_one (Q : List (Int × List UInt8)) : ∀ u ∈ wrts Q, u.oneCell' = true := fun u hu => by
  unfold wrts at hu
  obtain ⟨l, hl, hu⟩ := List.mem_flatten.1 hu
  obtain ⟨b, -, rfl⟩ := List.mem_map.1 hl
  rcases List.mem_cons.1 (show u ∈ Value.int .i64 b.1 :: b.2.map bv from hu) with rfl | hu
  · rfl
  · exact bv_one _ u hu
theorem wrts_len {Q : List (Int × List UInt8)} (h : ∀ q ∈ Q, q.2.length = 64) : (wrts Q).length = Q.length * 65 := by
  unfold wrts
  induction Q with
  | nil => rfl
  | cons q Q ih => rw [List.map_cons, List.flatten_cons, List.length_append, ih (fun c hc => h c (List.mem_cons_of_mem _ hc)), List.length_cons]; simp [wcells, h q (by simp)]; omega
set_option maxHeartbeats 1000000 in
theorem clS_c {p : Nat → Prop} (a : Option Addr) (n cap : Nat) (xs : List Value) (w : World) (hl : xs.length = n * 64) (ha : Lies w p a xs) (h1 : ∀ u ∈ xs, u.oneCell' = true) (hr : n ≤ 65536) :
    Calls Try.prog 38 #[.slice a n cap] w fun e w' => ∃ a' cap', e = .returned (.slice a' n cap') ∧ w'.ownsRow w.heap.size 65 64 (.slice a' n cap') n xs ∧ Keep Nix w w' := by
  cases a with
  | none =>
    obtain rfl : n = 0 := by
      by_cases h : n = 0
      · exact h
      · obtain ⟨b, off, hb, -⟩ := ha (by intro e; subst e; simp at hl; omega)
        cases hb
    obtain rfl : xs = [] := List.eq_nil_of_length_eq_zero (by simpa using hl)
    have hnil := fun (w' : World) (n c : Nat) => Lib.run_eql_slice_nil (P := Try.prog) w' 59 65 none n c 0 0 Try.underlying59
    clear ha
    go_enter Try.func38, Try.ntmps38
    go_wp2_with fail
    go_ret
    exact ⟨none, 0, rfl, World.ownsRow_nil _ _ _ _, Keep.refl _ _⟩
  | some ad =>
    have hnil := fun (w' : World) => Lib.run_eql_slice_nil (P := Try.prog) w' 59 65 (some ad) n cap 0 0 Try.underlying59
    have hl0 := fun w' => list0_run T_lsec w'
    have own0 := owns_empty w 65 64 w.heap.size (Nat.le_refl _)
    have lies2 := ha.keep ((Keep.refl Nix w).alloc (.cells #[] 65)) (fun _ _ h => h)
    have hsz : w.heap.size ≤ (w.alloc (.cells #[] 65)).heap.size := by simp
    clear ha
    go_enter Try.func38, Try.ntmps38
    go_wp2_with (at_builtin; refine wpl_append T_lsec rfl (.tmp 5) (.tmp 6) rfl w.heap.size rfl own0 xs rfl hl lies2 h1 ?c1 ?c2 hsz ?_)
    case c1 => unfold maxLen; omega
    case c2 => omega
    intro a' cap' w2 own2 hg
    have kk : Keep Nix w w2 := ((Keep.refl Nix w).alloc (.cells #[] 65)).grown hg (fun k hk hlt => by simp [Value.ownBlock] at hk; omega)
    (try rw [Nat.zero_add, List.nil_append] at own2)
    clear own0 hg lies2
    go_wp2
    go_ret
    exact ⟨a', cap', by simp, own2, kk⟩
set_option maxHeartbeats 1000000 in
theorem clQ_c {p : Nat → Prop} (a : Option Addr) (n cap : Nat) (xs : List Value) (w : World) (hl : xs.length = n * 65) (ha : Lies w p a xs) (h1 : ∀ u ∈ xs, u.oneCell' = true) (hr : n ≤ 65536) :
    Calls Try.prog 39 #[.slice a n cap] w fun e w' => ∃ a' cap', e = .returned (.slice a' n cap') ∧ w'.ownsRow w.heap.size 67 65 (.slice a' n cap') n xs ∧ Keep Nix w w' := by
  cases a with
  | none =>
    obtain rfl : n = 0 := by
      by_cases h : n = 0
      · exact h
      · obtain ⟨b, off, hb, -⟩ := ha (by intro e; subst e; simp at hl; omega)
        cases hb
    obtain rfl : xs = [] := List.eq_nil_of_length_eq_zero (by simpa using hl)
    have hnil := fun (w' : World) (n c : Nat) => Lib.run_eql_slice_nil (P := Try.prog) w' 60 67 none n c 0 0 Try.underlying60
    clear ha
    go_enter Try.func39, Try.ntmps39
    go_wp2_with fail
    go_ret
    exact ⟨none, 0, rfl, World.ownsRow_nil _ _ _ _, Keep.refl _ _⟩
  | some ad =>
    have hnil := fun (w' : World) => Lib.run_eql_slice_nil (P := Try.prog) w' 60 67 (some ad) n cap 0 0 Try.underlying60
    have hl0 := fun w' => list0_run T_lwrite w'
    have own0 := owns_empty w 67 65 w.heap.size (Nat.le_refl _)
    have lies2 := ha.keep ((Keep.refl Nix w).alloc (.cells #[] 67)) (fun _ _ h => h)
    have hsz : w.heap.size ≤ (w.alloc (.cells #[] 67)).heap.size := by simp
    clear ha
    go_enter Try.func39, Try.ntmps39
    go_wp2_with (at_builtin; refine wpl_append T_lwrite rfl (.tmp 5) (.tmp 6) rfl w.heap.size rfl own0 xs rfl hl lies2 h1 ?c1 ?c2 hsz ?_)
    case c1 => unfold maxLen; omega
    case c2 => omega
    intro a' cap' w2 own2 hg
    have kk : Keep Nix w w2 := ((Keep.refl Nix w).alloc (.cells #[] 67)).grown hg (fun k hk hlt => by simp [Value.ownBlock] at hk; omega)
    (try rw [Nat.zero_add, List.nil_append] at own2)
    clear own0 hg lies2
    go_wp2
    go_ret
    exact ⟨a', cap', by simp, own2, kk⟩
end Go.Proofs.Ytdnbpfohmhhmkaa
