/- LOCK: the law LockReads: plain. Printed by mac.py. -/
import Derived.Test.YtfagejfcibgigaaLkL
namespace Go.Proofs.Ytfagejfcibgigaa
open Go.RowKit

namespace lockReads
def hF (alone : Bool) (s : GSpan) : GHeld := if alone then ⟨1, [s.fFrom], [], []⟩ else ⟨1, [], [s], []⟩
def wF (key : List UInt8) : GHeld := ⟨2, [], [], [⟨key, [], false⟩]⟩
def qF (key : List UInt8) : GHeld := ⟨2, [key], [], []⟩
def inF (alone : Bool) (s : GSpan) (key : List UInt8) : Bool := if alone then decide (s.fFrom = key) else withinF s key
theorem h_txn (alone : Bool) (s : GSpan) : (hF alone s).fTxn = 1 := by cases alone <;> rfl
theorem h_small (alone : Bool) (s : GSpan) : smallF (hF alone s) := by cases alone <;> simp [smallF, hF]
theorem h_wr (alone : Bool) (s : GSpan) : (hF alone s).fWrites = [] := by cases alone <;> rfl
theorem h_rd (alone : Bool) (s : GSpan) (key : List UInt8) : (rdB (hF alone s) key || wrB (hF alone s) key) = inF alone s key := by
  cases alone with
  | true => simp [hF, inF, rdB, wrB]
  | false => simp [hF, inF, rdB, wrB]
theorem may1 (h : GHeld) (e : h.fTxn = 1) : mayF [] h = 0 := by
  unfold mayF
  rw [if_neg (by omega), if_neg (by simp [findT]), if_neg (by simp [disT])]
theorem put1 (h : GHeld) (e : h.fTxn = 1) : afterPut [] h = [h] := by
  unfold afterPut
  rw [if_pos (may1 h e)]
  rfl
theorem find1 (h : GHeld) (e : h.fTxn = 1) : findT [h] 1 = some h := by simp [findT, e]
theorem find2 (h : GHeld) (e : h.fTxn = 1) : findT [h] 2 = none := by simp [findT, e]
theorem drop1 (h : GHeld) (e : h.fTxn = 1) : dropT [h] 1 = [] := by simp [dropT, e]
theorem may_w (alone : Bool) (s : GSpan) (key : List UInt8) : mayF [hF alone s] (wF key) = if inF alone s key then 12 else 0 := by
  unfold mayF
  rw [if_neg (by show ¬ (2 : Int) = 0; decide), show (wF key).fTxn = 2 from rfl, find2 _ (h_txn alone s), if_neg (by simp)]
  have e : disT [hF alone s] (wF key) = inF alone s key := by
    unfold disT
    rw [List.any_cons, List.any_nil, Bool.or_false]
    have e1 : disB (wF key) (hF alone s) = inF alone s key := by
      unfold disB
      rw [show (wF key).fWrites = [⟨key, [], false⟩] from rfl, List.any_cons, List.any_nil, Bool.or_false, h_rd]
    have e2 : disB (hF alone s) (wF key) = false := by unfold disB; rw [h_wr]; rfl
    rw [e1, e2, Bool.or_false]
  rw [e]
theorem may_q (alone : Bool) (s : GSpan) (key : List UInt8) : mayF [hF alone s] (qF key) = 0 := by
  unfold mayF
  rw [if_neg (by show ¬ (2 : Int) = 0; decide), show (qF key).fTxn = 2 from rfl, find2 _ (h_txn alone s), if_neg (by simp), if_neg]
  unfold disT
  rw [List.any_cons, List.any_nil, Bool.or_false]
  have e2 : disB (hF alone s) (qF key) = false := by unfold disB; rw [h_wr]; rfl
  rw [e2]
  simp [disB, qF]
theorem free_h (alone : Bool) (s : GSpan) (key : List UInt8) : (!([hF alone s]).any (fun h => wrB h key)) = true := by
  rw [List.any_cons, List.any_nil, Bool.or_false]
  unfold wrB
  rw [h_wr]
  rfl
theorem clear_h (alone : Bool) (s t : GSpan) : (!([hF alone s]).any (fun h => toB h t)) = true := by
  rw [List.any_cons, List.any_nil, Bool.or_false]
  unfold toB
  rw [h_wr]
  rfl
theorem touch_h (alone : Bool) (s : GSpan) (key : List UInt8) (hi : inF alone s key = true) : ([hF alone s]).any (fun h => toucheB h ⟨key, []⟩) = true := by
  rw [List.any_cons, List.any_nil, Bool.or_false]
  have hk : withinF ⟨key, []⟩ key = true := by unfold withinF; rw [ltB_irrefl]; rfl
  cases alone with
  | true =>
    have e : s.fFrom = key := by simpa [inF] using hi
    simp [toucheB, hF, e, hk]
  | false =>
    have e : withinF s key = true := hi
    have hm : meetB s ⟨key, []⟩ = true := by
      unfold meetB fromF
      by_cases q : ltB s.fFrom key = true
      · rw [if_pos q, e, hk]; rfl
      · have e2 : s.fFrom = key := by
          unfold withinF at e
          simp only [Bool.and_eq_true, Bool.not_eq_true'] at e
          exact ltB_total (by simpa using q) e.1
        rw [if_neg q]
        show (withinF s s.fFrom && withinF ⟨key, []⟩ s.fFrom) = true
        rw [e2, e, hk]; rfl
    simp [toucheB, hF, hm]
theorem may_w0 (key : List UInt8) : mayF [] (wF key) = 0 := by
  unfold mayF
  rw [if_neg (by show ¬ (2 : Int) = 0; decide), if_neg (by simp [findT]), if_neg (by simp [disT])]
theorem put_w0 (key : List UInt8) : afterPut [] (wF key) = [wF key] := by
  unfold afterPut
  rw [if_pos (may_w0 key)]
  rfl
theorem free_w (key : List UInt8) : (!([wF key]).any (fun h => wrB h key)) = false := by
  rw [List.any_cons, List.any_nil, Bool.or_false]
  simp [wrB, wF]
theorem may_h (alone : Bool) (s : GSpan) (key : List UInt8) : mayF [wF key] (hF alone s) = if inF alone s key then 12 else 0 := by
  unfold mayF
  rw [if_neg (by rw [h_txn]; decide), h_txn, if_neg (by simp [findT, wF])]
  have e : disT [wF key] (hF alone s) = inF alone s key := by
    unfold disT
    rw [List.any_cons, List.any_nil, Bool.or_false]
    have e1 : disB (wF key) (hF alone s) = inF alone s key := by
      unfold disB
      rw [show (wF key).fWrites = [⟨key, [], false⟩] from rfl, List.any_cons, List.any_nil, Bool.or_false, h_rd]
    have e2 : disB (hF alone s) (wF key) = false := by unfold disB; rw [h_wr]; rfl
    rw [e1, e2, Bool.false_or]
  rw [e]
end lockReads
end Go.Proofs.Ytfagejfcibgigaa
