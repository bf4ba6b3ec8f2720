/- PAGES: Scan of a nil map: the closure. Printed by mac.py. -/
import Derived.Test.YthkocgpbpgfocaaPg1
namespace Go.Proofs.Ythkocgpbpgfocaa
open Go.RowKit

theorem rev_nil (w : World) : Calls Try.prog 36 #[.slice none 0 0] w fun e w' => e = .returned (.tuple #[]) ∧ w = w' := by
  go_enter Try.func36, Try.ntmps36
  go_wp2
  refine wp_loop_rounds 1 ?_
  rw [rounds_succ]
  go_wp2
  go_end0
  exact ⟨rfl, rfl⟩
theorem scan_nil (a b : Option Addr) (n m c d : Nat) (back : Bool) (w : World) : Calls Try.prog 14 #[.pointer none, .agg #[.slice a n c, .slice b m d], .bool back] w fun e w' => ∃ g, e = .returned (.func (.func 37) #[] #[.pointer (some ⟨g, 0, none⟩)]) ∧ RowIs w' g 22 [.slice none 0 0] ∧ w.heap.size ≤ g ∧ Keep Nix w w' := by
  have hmf : ∀ (fn : Fn) (first cap : Array Value) (w : World), (Instr.makeFunc fn first cap).run Try.prog w = .ok (.func fn first cap) w := fun _ _ _ _ => rfl
  have k1 : Keep Nix w (w.alloc (.cells #[.slice a n c, .slice b m d] 37)) := (Keep.refl Nix w).alloc _
  have hs : w.heap.size ≤ (w.alloc (.cells #[.slice a n c, .slice b m d] 37)).heap.size := k1.size
  go_enter Try.func14, Try.ntmps14
  go_wp2_with fail
  go_fit (list_nil a b n m c d _)
  rintro e w2 ⟨rfl, k2⟩
  have k3 : Keep Nix w2 (w2.alloc (.cells #[.slice none 0 0] 22)) := (Keep.refl Nix w2).alloc _
  have row := RowIs.alloc w2 #[.slice none 0 0] 22
  have kk := (k1.trans k2).trans k3
  have hg := (k1.trans k2).size
  have x0 := row.cell 0
  (try simp only [List.getElem?_cons_zero] at x0)
  cases back with
  | false =>
    go_wp2_with fail
    go_ret
    exact ⟨_, rfl, row, hg, kk⟩
  | true =>
    go_wp2_with fail
    go_fit (rev_nil _)
    rintro e w' ⟨rfl, rfl⟩
    go_wp2_with fail
    go_ret
    exact ⟨_, rfl, row, hg, kk⟩
end Go.Proofs.Ythkocgpbpgfocaa
