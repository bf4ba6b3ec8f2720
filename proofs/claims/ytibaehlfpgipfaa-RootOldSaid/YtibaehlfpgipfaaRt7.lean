/- ROUTE: New; a group's part of a span; awake. Printed by mac.py. -/
import Derived.Test.YtibaehlfpgipfaaRt6
namespace Go.Proofs.Ytibaehlfpgipfaa
open Go.RowKit

section
attribute [local go_sem ↓] ldz_Routes
def newF (b s : Int) : GRoutes × Int := if 1 ≤ b ∧ b ≤ 4 ∧ 1 ≤ s ∧ s ≤ 4 then (⟨0, b, [⟨b + 1, [120]⟩], 0, []⟩, 0) else (⟨0, 0, [], 0, []⟩, 1)
def RetRE (w : World) (y : GRoutes × Int) (e : Ending) (w' : World) : Prop := ∃ cs : List Value, e = .returned (.tuple #[.agg cs.toArray, .int .i64 y.2]) ∧ rGRoutes w' (NewIn w w') cs y.1 ∧ Keep Nix w w'
theorem rrList_nil {α : Type} (R : RD α) (w : World) (p : Nat → Prop) : rList R w p [.slice none 0 0] [] := ⟨none, 0, [], rfl, rfl, fun h => absurd rfl h, Nat.le_refl _, Nat.zero_le _, fun i c x h => by simp at h⟩
theorem i64_0 : isI64 0 := by unfold isI64; omega
theorem rZero (w : World) (p : Nat → Prop) : rGRoutes w p [.int .i64 0, .int .i64 0, .slice none 0 0, .int .i64 0, .slice none 0 0] ⟨0, 0, [], 0, []⟩ :=
  rGRoutes_mk (x := ⟨0, 0, [], 0, []⟩) w p i64_0 i64_0 (rrList_nil _ w p) i64_0 (LB.nil0 w p)
set_option maxRecDepth 100000 in
set_option maxHeartbeats 1000000 in
theorem New_c (b s : Int) (w : World) : Calls Try.prog 12 #[.int .i64 b, .int .i64 s] w (RetRE w (newF b s)) := by
  have hinfo : (Try.prog.info? 38).map (·.size) = some 5 := by kernel_rfl
  by_cases h : 1 ≤ b ∧ b ≤ 4 ∧ 1 ≤ s ∧ s ≤ 4
  · have HP : Hid (newF b s = (⟨0, b, [⟨b + 1, [120]⟩], 0, []⟩, 0)) := by show _ = _; unfold newF; rw [if_pos h]
    rw [HP.out]
    obtain ⟨h1, h2, h3, h4⟩ := h
    have k1 := fun (w : World) (o : Obj) => (Keep.refl Nix w).alloc o
    have kk : Keep Nix w (((w.alloc (.cells #[.int .i64 0, .int .i64 b, .slice (some ⟨w.heap.size + 1 + 1, 0, none⟩) 1 1, .int .i64 0, .slice none 0 0] 38)).alloc (.cells #[.int .u8 120] 5)).alloc (.cells #[.int .i64 (b + 1), .slice (some ⟨w.heap.size + 1, 0, none⟩) 1 1] 80)) := ((k1 _ _).trans (k1 _ _)).trans (k1 _ _)
    have rowF : RowIs (((w.alloc (.cells #[.int .i64 0, .int .i64 b, .slice (some ⟨w.heap.size + 1 + 1, 0, none⟩) 1 1, .int .i64 0, .slice none 0 0] 38)).alloc (.cells #[.int .u8 120] 5)).alloc (.cells #[.int .i64 (b + 1), .slice (some ⟨w.heap.size + 1, 0, none⟩) 1 1] 80)) w.heap.size 38 [.int .i64 0, .int .i64 b, .slice (some ⟨w.heap.size + 1 + 1, 0, none⟩) 1 1, .int .i64 0, .slice none 0 0] := ((RowIs.alloc w _ _).keep (k1 _ _) id).keep (k1 _ _) id
    have rowB : RowIs (((w.alloc (.cells #[.int .i64 0, .int .i64 b, .slice (some ⟨w.heap.size + 1 + 1, 0, none⟩) 1 1, .int .i64 0, .slice none 0 0] 38)).alloc (.cells #[.int .u8 120] 5)).alloc (.cells #[.int .i64 (b + 1), .slice (some ⟨w.heap.size + 1, 0, none⟩) 1 1] 80)) (w.heap.size + 1) 5 [.int .u8 120] := by
      have h := (RowIs.alloc (w.alloc (.cells #[.int .i64 0, .int .i64 b, .slice (some ⟨w.heap.size + 1 + 1, 0, none⟩) 1 1, .int .i64 0, .slice none 0 0] 38)) #[.int .u8 120] 5).keep (k1 _ (.cells #[.int .i64 (b + 1), .slice (some ⟨w.heap.size + 1, 0, none⟩) 1 1] 80)) id
      simpa using h
    have rowO : RowIs (((w.alloc (.cells #[.int .i64 0, .int .i64 b, .slice (some ⟨w.heap.size + 1 + 1, 0, none⟩) 1 1, .int .i64 0, .slice none 0 0] 38)).alloc (.cells #[.int .u8 120] 5)).alloc (.cells #[.int .i64 (b + 1), .slice (some ⟨w.heap.size + 1, 0, none⟩) 1 1] 80)) (w.heap.size + 1 + 1) 80 [.int .i64 (b + 1), .slice (some ⟨w.heap.size + 1, 0, none⟩) 1 1] := by
      have h := RowIs.alloc ((w.alloc (.cells #[.int .i64 0, .int .i64 b, .slice (some ⟨w.heap.size + 1 + 1, 0, none⟩) 1 1, .int .i64 0, .slice none 0 0] 38)).alloc (.cells #[.int .u8 120] 5)) #[.int .i64 (b + 1), .slice (some ⟨w.heap.size + 1, 0, none⟩) 1 1] 80
      simpa using h
    have LB1 := LB.row (c := 120) rowB (NewIn w (((w.alloc (.cells #[.int .i64 0, .int .i64 b, .slice (some ⟨w.heap.size + 1 + 1, 0, none⟩) 1 1, .int .i64 0, .slice none 0 0] 38)).alloc (.cells #[.int .u8 120] 5)).alloc (.cells #[.int .i64 (b + 1), .slice (some ⟨w.heap.size + 1, 0, none⟩) 1 1] 80))) ⟨by omega, rowB.lt⟩
    have LL : rList rGOwner (((w.alloc (.cells #[.int .i64 0, .int .i64 b, .slice (some ⟨w.heap.size + 1 + 1, 0, none⟩) 1 1, .int .i64 0, .slice none 0 0] 38)).alloc (.cells #[.int .u8 120] 5)).alloc (.cells #[.int .i64 (b + 1), .slice (some ⟨w.heap.size + 1, 0, none⟩) 1 1] 80)) (NewIn w (((w.alloc (.cells #[.int .i64 0, .int .i64 b, .slice (some ⟨w.heap.size + 1 + 1, 0, none⟩) 1 1, .int .i64 0, .slice none 0 0] 38)).alloc (.cells #[.int .u8 120] 5)).alloc (.cells #[.int .i64 (b + 1), .slice (some ⟨w.heap.size + 1, 0, none⟩) 1 1] 80))) [.slice (some ⟨w.heap.size + 1 + 1, 0, none⟩) 1 1] [⟨b + 1, [120]⟩] :=
      ⟨_, 1, [[.int .i64 (b + 1), .slice (some ⟨w.heap.size + 1, 0, none⟩) 1 1]], rfl, rfl, fun _ => ⟨_, 0, rfl, ⟨by omega, rowO.lt⟩, rowO.lt, fun j u hu => by rw [Nat.zero_add, rowO.cell]; exact hu⟩, Nat.le_refl _, by show 1 ≤ far; decide, fun i c x hc hx => by
        match i, hc, hx with
        | 0, hc, hx =>
          cases hc; cases hx
          exact rGOwner_mk (x := ⟨b + 1, [120]⟩) _ _ (by unfold isI64; show _ ≤ b + 1 ∧ b + 1 ≤ _; omega) LB1⟩
    have hR := rGRoutes_mk (x := ⟨0, b, [⟨b + 1, [120]⟩], 0, []⟩) (((w.alloc (.cells #[.int .i64 0, .int .i64 b, .slice (some ⟨w.heap.size + 1 + 1, 0, none⟩) 1 1, .int .i64 0, .slice none 0 0] 38)).alloc (.cells #[.int .u8 120] 5)).alloc (.cells #[.int .i64 (b + 1), .slice (some ⟨w.heap.size + 1, 0, none⟩) 1 1] 80)) (NewIn w (((w.alloc (.cells #[.int .i64 0, .int .i64 b, .slice (some ⟨w.heap.size + 1 + 1, 0, none⟩) 1 1, .int .i64 0, .slice none 0 0] 38)).alloc (.cells #[.int .u8 120] 5)).alloc (.cells #[.int .i64 (b + 1), .slice (some ⟨w.heap.size + 1, 0, none⟩) 1 1] 80))) i64_0 (by unfold isI64; show _ ≤ b ∧ b ≤ _; omega) LL i64_0 (LB.nil0 _ _)
    clear k1 rowB rowO LB1 LL
    go_enter Try.func12, Try.ntmps12
    go_wp2_with fail
    refine bodyPost_ret (results_cell_row2 (by rfl) _ _ _ _ _ _ _ (by rfl) rowF Try.underlying38 (by rfl) hinfo) rfl ?_
    exact ⟨_, rfl, hR, kk⟩
  · have HP : Hid (newF b s = (⟨0, 0, [], 0, []⟩, 1)) := by show _ = _; unfold newF; rw [if_neg h]
    rw [HP.out]
    have k1 : Keep Nix w (w.alloc (.cells #[.int .i64 0, .int .i64 0, .slice none 0 0, .int .i64 0, .slice none 0 0] 38)) := (Keep.refl Nix w).alloc _
    have rowF : RowIs (w.alloc (.cells #[.int .i64 0, .int .i64 0, .slice none 0 0, .int .i64 0, .slice none 0 0] 38)) w.heap.size 38 [.int .i64 0, .int .i64 0, .slice none 0 0, .int .i64 0, .slice none 0 0] := RowIs.alloc w _ _
    rcases Int.lt_or_le b 1 with h1 | h1
    · clear h
      go_enter Try.func12, Try.ntmps12
      go_wp2_with fail
      refine bodyPost_ret (results_cell_row2 (by rfl) _ _ _ _ _ _ _ (by rfl) rowF Try.underlying38 (by rfl) hinfo) rfl ?_
      exact ⟨_, rfl, rZero _ _, k1⟩
    rcases Int.lt_or_le 4 b with h2 | h2
    · clear h
      go_enter Try.func12, Try.ntmps12
      go_wp2_with fail
      refine bodyPost_ret (results_cell_row2 (by rfl) _ _ _ _ _ _ _ (by rfl) rowF Try.underlying38 (by rfl) hinfo) rfl ?_
      exact ⟨_, rfl, rZero _ _, k1⟩
    rcases Int.lt_or_le s 1 with h3 | h3
    · clear h
      go_enter Try.func12, Try.ntmps12
      go_wp2_with fail
      refine bodyPost_ret (results_cell_row2 (by rfl) _ _ _ _ _ _ _ (by rfl) rowF Try.underlying38 (by rfl) hinfo) rfl ?_
      exact ⟨_, rfl, rZero _ _, k1⟩
    have h4 : 4 < s := by omega
    clear h
    go_enter Try.func12, Try.ntmps12
    go_wp2_with fail
    refine bodyPost_ret (results_cell_row2 (by rfl) _ _ _ _ _ _ _ (by rfl) rowF Try.underlying38 (by rfl) hinfo) rfl ?_
    exact ⟨_, rfl, rZero _ _, k1⟩
end
section
attribute [local go_sem ↓] ldz_Routes
end
end Go.Proofs.Ytibaehlfpgipfaa
