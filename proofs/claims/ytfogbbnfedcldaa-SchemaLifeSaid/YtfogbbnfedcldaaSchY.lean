/- SCHEMA: the state of an index, by the laws. Printed by mac.py. -/
import Derived.Test.YtfogbbnfedcldaaSchX
namespace Go.Proofs.Ytfogbbnfedcldaa
open Go.RowKit

def stateV (c : GCatalog) (d : Int) : Int := (firstB (fun x => decide (x.fID = d)) c.fIndexes zIdx).1.fState
section
set_option maxRecDepth 100000 in
set_option maxHeartbeats 8000000 in
theorem stateOf_c {p : Nat → Prop} (c : GCatalog) (csc : List Value) (d : Int) (w : World) (hc : rGCatalog w p csc c) :
    Calls Try.prog 35 #[.agg csc.toArray, .int .i64 d] w fun e w' => e = .returned (.int .i64 (stateV c d)) ∧ Keep Nix w w' := by
  obtain ⟨aT, cT, aX, cX, rfl, -, -, hT, hX, -⟩ := rGCatalog_open hc
  have nX := (rList_len hX).2.2
  have mX : c.fIndexes.length ≤ 140737488351232 := by have := far_len; omega
  clear nX hc hT
  have row0 := RowIs.alloc w #[.int .i64 c.fVersion, .int .i64 c.fNext, .slice aT c.fTables.length cT, .slice aX c.fIndexes.length cX] 25
  have kk : Keep Nix w (w.alloc (.cells #[.int .i64 c.fVersion, .int .i64 c.fNext, .slice aT c.fTables.length cT, .slice aX c.fIndexes.length cX] 25)) := (Keep.refl Nix w).alloc _
  have x3 := row0.cell 3
  (try simp only [List.getElem?_cons_succ] at x3); (try simp only [List.getElem?_cons_zero] at x3)
  go_enter Try.func35, Try.ntmps35
  go_wp2_with fail
  go_loop [5] (fun i => ∃ k : Nat, k ≤ c.fIndexes.length ∧ i = .int .i64 k ∧ Hid (NoneYet (fun x => decide (x.fID = d)) c.fIndexes k)) (fun i => c.fIndexes.length - (intOf i).toNat)
  case atStart => exact ⟨0, by omega, rfl, fun j hj => by omega⟩
  case round =>
    obtain ⟨k, hk, rfl, hg⟩ := hrel
    by_cases hlt : k < c.fIndexes.length
    · have hi0 : (0 : Int) ≤ (k : Int) := by omega
      have hi1 : (k : Int) < (c.fIndexes.length : Int) := by omega
      obtain ⟨b, o, cc, cs, e1, -, hb, r, hcl⟩ := rList_at rGIndex_lawful (by decide) ((rList_lawful rGIndex_lawful).nix hX kk) k hlt
      simp only [List.cons.injEq, Value.slice.injEq, and_true] at e1
      obtain ⟨rfl, -, -⟩ := e1
      have HS := Lib.hid (hg.out.succ (P := (fun x => decide (x.fID = d))) hlt)
      have HF : Hid (decide (c.fIndexes[k].fID = d) = true → firstB (fun x => decide (x.fID = d)) c.fIndexes zIdx = (c.fIndexes[k], true)) := fun h => firstB_some (P := (fun x => decide (x.fID = d))) k hlt h (fun j hj => hg.out j hj _ (List.getElem?_eq_getElem (by omega)))
      generalize c.fIndexes[k] = x at r HS HF
      obtain ⟨_, _, rfl, -⟩ := rGIndex_open r
      have y0 := hcl 0 _ rfl
      have y5 := hcl 5 _ rfl
      rw [Nat.add_zero] at y0
      clear r hcl hX
      rcases test_eq x.fID d with ⟨ht, hT⟩ | ⟨ht, hT⟩
      · have HR : Hid (stateV c d = x.fState) := by show _ = _; unfold stateV; rw [HF.out (decide_eq_true hT.out)]
        clear HF HS hT
        go_wp2_with fail
        go_ret
        exact ⟨ret_int HR.out.symm, kk⟩
      · have HN := Lib.hid (HS.out (decide_eq_false hT))
        clear hT HF HS
        go_wp2_with fail
        go_round
        case rel => exact ⟨k + 1, by omega, by go_num, HN.out⟩
        case measure => simp [intOf]; omega
    · obtain rfl : k = c.fIndexes.length := by omega
      have HR : Hid (stateV c d = 0) := by
        show _ = _
        unfold stateV
        rw [firstB_none (P := (fun x => decide (x.fID = d))) (l := c.fIndexes) (z := zIdx) (fun x hx => by
          obtain ⟨m, hm, rfl⟩ := List.mem_iff_getElem.1 hx
          exact hg.out m hm _ (List.getElem?_eq_getElem hm))]
        rfl
      clear hg hX
      go_wp2_with fail
      go_ret
      exact ⟨ret_int HR.out.symm, kk⟩
end
end Go.Proofs.Ytfogbbnfedcldaa
