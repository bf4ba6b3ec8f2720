/- ROOT: what the law RootOnce needs: Plain as a quiet callee; a known transaction asked again. Printed by mkRoJ.py and mac.py. -/
import Derived.Test.YtibaehlfpgipfaaGreatQZRoV
import Derived.Deep.Draws
namespace Go.Proofs.YtibaehlfpgipfaaGreat
open Go.RowKit
theorem cmd_at {w : World} {p : Nat → Prop} {cs : List Value} {x : GCommand} (h : rGCommand w p cs x) : cs[0]? = some (.int .i64 x.fKind) ∧ cs[2]? = some (.int .u64 x.fTxn) ∧ cs[3]? = some (.int .i64 x.fN) ∧ cs[6]? = some (.bool x.fFlag) ∧ isU64 x.fTxn := by
  obtain ⟨_, _, _, _, _, _, _, _, _, _, _, _, _, _, _, _, _, _, rfl, -, -, u, -⟩ := rGCommand_open h
  exact ⟨rfl, rfl, rfl, rfl, u⟩
theorem op_cmd {w : World} {p : Nat → Prop} {cs : List Value} {x : GOp} (h : rGOp w p cs x) : ∃ c0 : List Value, rGCommand w p c0 x.fC ∧ ∀ (j : Nat) (u : Value), c0[j]? = some u → cs[j]? = some u := by
  obtain ⟨c0, c1, c2, rfl, h0, -, -⟩ := h
  refine ⟨c0, h0, fun j u hu => ?_⟩
  have hj := (List.getElem?_eq_some_iff.1 hu).1
  simp only [List.flatten_cons, List.flatten_nil, List.append_nil]
  rw [List.getElem?_append_left hj]
  exact hu
theorem small_idx {c : GCommand} (h : smallCmd c = true) : c.fIndex.fColumns.length ≤ 1000 := by
  unfold smallCmd at h
  simp only [Bool.and_eq_true, decide_eq_true_eq] at h
  omega
theorem start_small (s : Int) (r : GRoutes) (h : RtOk r) : Small 0 (startS s r) := ⟨Nat.le_refl _, Nat.le_refl _, Int.le_refl _, h, fun t p hp => by cases hp⟩
theorem start_rt (b : Int) (hb : 1 ≤ b ∧ b ≤ 4) : RtOk ⟨0, b, [⟨b + 1, [120]⟩], 0, []⟩ :=
  ⟨hb, by simp, fun o ho => by have : o = ⟨b + 1, [120]⟩ := by simpa using ho
                               subst this; exact ⟨by show b < b + 1; omega, by show b + 1 ≤ b + 4; omega⟩, fun h => absurd rfl h⟩
end Go.Proofs.YtibaehlfpgipfaaGreat
