/- A NEW READER; A NIL READER. -/
import Derived.Test.YtibaehlfpgipfaaGreatQRead2
namespace Go.Proofs.YtibaehlfpgipfaaGreat
open Go.RowKit

set_option maxRecDepth 100000 in
theorem New_rd {p : Nat → Prop} (a : Option Addr) (n ca : Nat) (l : List UInt8) (w : World) (hn : l.length = n) (ha : Lies w p a (l.map bv)) (hr : n ≤ 140737488355328) :
    Calls Tryz.prog 42 #[.slice a n ca] w fun e w' => ∃ r, e = .returned (.pointer (some ⟨r, 0, none⟩)) ∧ w.heap.size ≤ r ∧
      IsRd w' 151 r (fun b => w.heap.size ≤ b ∧ b ≠ r) ⟨l, 0, 0, []⟩ ∧ Keep Nix w w' := by
  subst hn
  go_enter Tryz.func42, Tryz.ntmps42
  go_wp2_with (at_builtin; refine wpl_append T_bytes rfl (.const (.slice none 0 0)) (.tmp 3) rfl w.heap.size rfl (World.ownsRow_nil _ _ _ _) (p := p) (l.map bv) rfl ?c1 ha (bv_one _) ?c3 ?c4 (Nat.le_refl _) ?_)
  case c1 => simp
  case c3 => unfold maxLen; omega
  case c4 => omega
  intro a' cap' w1 own1 hg
  have k1 := Keep.grown (Keep.refl Nix w) hg (fun k hk _ => nomatch hk)
  clear hg ha
  go_wp2
  go_ret
  have hb := owned_bounds own1
  refine ⟨w1.heap.size, rfl, k1.size, ⟨⟨a', cap', RowIs.alloc _ _ _, ?_, hb.2.1, hr⟩, by simp, Nat.zero_le _⟩, k1.alloc _⟩
  · refine ((Lies.of_owned own1).keep ((Keep.refl Nix w1).alloc _) (fun _ _ h => h)).mono fun b hb' => ⟨hb'.1, ?_⟩
    have := own1.lt b hb'.2
    omega
theorem Num_nil (w : World) : Calls Tryz.prog 48 #[.pointer none] w fun e w' => e = .returned (.int .u64 0) ∧ w = w' := by
  go_enter Tryz.func48, Tryz.ntmps48
  go_wp2
  go_ret
  exact ⟨rfl, rfl⟩
theorem Int_nil (w : World) : Calls Tryz.prog 189 #[.pointer none] w fun e w' => e = .returned (.int .i64 0) ∧ w = w' := by
  go_enter Tryz.func189, Tryz.ntmps189
  go_wp2
  go_ret
  exact ⟨ret_int (by decide +kernel), rfl⟩
theorem Left_nil (w : World) : Calls Tryz.prog 88 #[.pointer none] w fun e w' => e = .returned (.int .i64 0) ∧ w = w' := by
  go_enter Tryz.func88, Tryz.ntmps88
  go_wp2
  go_ret
  exact ⟨rfl, rfl⟩
theorem Err_nil (w : World) : Calls Tryz.prog 49 #[.pointer none] w fun e w' => e = .returned (.int .i64 2) ∧ w = w' := by
  go_enter Tryz.func49, Tryz.ntmps49
  go_wp2
  go_ret
  exact ⟨rfl, rfl⟩
theorem End_nil (w : World) : Calls Tryz.prog 50 #[.pointer none] w fun e w' => e = .returned (.int .i64 2) ∧ w = w' := by
  go_enter Tryz.func50, Tryz.ntmps50
  go_wp2
  go_ret
  exact ⟨rfl, rfl⟩
theorem Small_nil (m : Int) (w : World) (hm : isI64 m) : Calls Tryz.prog 43 #[.pointer none, .int .i64 m] w fun e w' => e = .returned (.int .i64 0) ∧ w = w' := by
  unfold isI64 at hm
  rcases Int.lt_or_le m 0 with h0 | h0
  all_goals
    go_enter Tryz.func43, Tryz.ntmps43
    go_wp2
    go_ret
    exact ⟨rfl, rfl⟩
theorem Text_nil (m : Int) (w : World) : Calls Tryz.prog 45 #[.pointer none, .int .i64 m] w fun e w' => e = .returned (.slice none 0 0) ∧ w = w' := by
  go_enter Tryz.func45, Tryz.ntmps45
  go_wp2
  go_ret
  exact ⟨rfl, rfl⟩
end Go.Proofs.YtibaehlfpgipfaaGreat
