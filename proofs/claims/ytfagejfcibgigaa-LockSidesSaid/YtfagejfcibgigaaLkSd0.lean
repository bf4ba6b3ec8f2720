/- LOCK: the law LockSides: plain. Printed by mac.py. -/
import Derived.Test.YtfagejfcibgigaaLkL
namespace Go.Proofs.Ytfagejfcibgigaa
open Go.RowKit

namespace lockSides
def noW (h : GHeld) : GHeld := ⟨h.fTxn, h.fKeys, h.fSpans, []⟩
def wF (tx : Int) (key : List UInt8) : GHeld := ⟨tx, [], [], [⟨key, [], false⟩]⟩
theorem may0 (h : GHeld) (e : h.fTxn ≠ 0) : mayF [] h = 0 := by
  unfold mayF
  rw [if_neg e, if_neg (by simp [findT]), if_neg (by simp [disT])]
theorem put0 (h : GHeld) (e : h.fTxn ≠ 0) : afterPut [] h = [h] := by
  unfold afterPut
  rw [if_pos (may0 h e)]
  rfl
theorem may_one {a b : GHeld} (hb : b.fTxn ≠ 0) (hab : a.fTxn ≠ b.fTxn) : mayF [a] b = if (disB b a || disB a b) = true then 12 else 0 := by
  unfold mayF
  rw [if_neg hb, if_neg (by simp [findT, hab])]
  simp [disT]
theorem may_sym {a b : GHeld} (ha : a.fTxn ≠ 0) (hb : b.fTxn ≠ 0) (hab : a.fTxn ≠ b.fTxn) : mayF [a] b = mayF [b] a := by
  rw [may_one hb hab, may_one ha (fun e => hab e.symm), Bool.or_comm]
theorem dis_noW (a b : GHeld) : disB (noW a) b = false := rfl
theorem may_no {a b : GHeld} (hb : b.fTxn ≠ 0) (hab : a.fTxn ≠ b.fTxn) : mayF [noW a] (noW b) = 0 := by
  rw [may_one (a := noW a) (b := noW b) hb hab, dis_noW, dis_noW]
  rfl
theorem put_no {a b : GHeld} (hb : b.fTxn ≠ 0) (hab : a.fTxn ≠ b.fTxn) : afterPut [noW a] (noW b) = putT [noW a] (noW b) := by
  unfold afterPut
  rw [if_pos (may_no hb hab)]
theorem mem_L {a b h : GHeld} (hab : a.fTxn ≠ b.fTxn) : h ∈ putT [noW a] (noW b) ↔ (h = noW a ∨ h = noW b) := by
  unfold putT
  rw [List.mem_append, List.mem_cons, List.mem_filter, List.mem_filter]
  simp only [List.mem_singleton, decide_eq_true_eq]
  constructor
  · rintro (⟨h1, -⟩ | h1 | ⟨h1, -⟩)
    · exact .inl h1
    · exact .inr h1
    · exact .inl h1
  · rintro (h1 | h1)
    · subst h1
      rcases Int.lt_or_gt_of_ne hab with q | q
      · exact .inl ⟨rfl, q⟩
      · exact .inr (.inr ⟨rfl, q⟩)
    · exact .inr (.inl h1)
theorem len_L (a b : GHeld) : (putT [noW a] (noW b)).length ≤ 12 := by
  unfold putT
  rw [List.length_append, List.length_cons]
  have h1 := List.length_filter_le (fun x : GHeld => decide (x.fTxn < (noW b).fTxn)) [noW a]
  have h2 := List.length_filter_le (fun x : GHeld => decide ((noW b).fTxn < x.fTxn)) [noW a]
  simp only [List.length_singleton] at h1 h2
  omega
def readsB (a b : GHeld) (key : List UInt8) : Bool := a.fKeys.any (fun k => decide (k = key)) || b.fSpans.any (fun s => withinF s key)
theorem may_w {a b : GHeld} {tx : Int} {key : List UInt8} (hab : a.fTxn ≠ b.fTxn) (h0 : tx ≠ 0) (h1 : tx ≠ a.fTxn) (h2 : tx ≠ b.fTxn) (hr : readsB a b key = true) : mayF (putT [noW a] (noW b)) (wF tx key) = 12 := by
  unfold mayF
  have hf : findT (putT [noW a] (noW b)) tx = none := List.find?_eq_none.2 (fun x hx => by
    rcases (mem_L hab).1 hx with rfl | rfl
    · have : (noW a).fTxn ≠ tx := fun e => h1 e.symm
      simpa using this
    · have : (noW b).fTxn ≠ tx := fun e => h2 e.symm
      simpa using this)
  rw [show (wF tx key).fTxn = tx from rfl, if_neg h0, hf, if_neg (by simp), if_pos]
  unfold readsB at hr
  rw [Bool.or_eq_true] at hr
  rcases hr with hr | hr
  · refine List.any_eq_true.2 ⟨noW a, (mem_L hab).2 (.inl rfl), ?_⟩
    have e : disB (wF tx key) (noW a) = true := by simp only [disB, wF, List.any_cons, List.any_nil, Bool.or_false, rdB, noW, hr, Bool.true_or]
    rw [e]; rfl
  · refine List.any_eq_true.2 ⟨noW b, (mem_L hab).2 (.inr rfl), ?_⟩
    have e : disB (wF tx key) (noW b) = true := by simp only [disB, wF, List.any_cons, List.any_nil, Bool.or_false, rdB, noW, hr, Bool.or_true, Bool.true_or]
    rw [e]; rfl
theorem meet_key {s : GSpan} {key : List UInt8} (e : withinF s key = true) : meetB s ⟨key, []⟩ = true := by
  have hk : withinF ⟨key, []⟩ key = true := by unfold withinF; rw [ltB_irrefl]; rfl
  unfold meetB fromF
  by_cases q : ltB s.fFrom key = true
  · rw [if_pos q, e, hk]; rfl
  · have e2 : s.fFrom = key := by
      unfold withinF at e
      simp only [Bool.and_eq_true, Bool.not_eq_true'] at e
      exact ltB_total (by simpa using q) e.1
    rw [if_neg q]
    show (withinF s s.fFrom && withinF ⟨key, []⟩ s.fFrom) = true
    rw [e2, e, hk]; rfl
theorem touch_L {a b : GHeld} {key : List UInt8} (hab : a.fTxn ≠ b.fTxn) (hr : readsB a b key = true) : (putT [noW a] (noW b)).any (fun h => toucheB h ⟨key, []⟩) = true := by
  unfold readsB at hr
  rw [Bool.or_eq_true] at hr
  have hk : withinF ⟨key, []⟩ key = true := by unfold withinF; rw [ltB_irrefl]; rfl
  rcases hr with hr | hr
  · refine List.any_eq_true.2 ⟨noW a, (mem_L hab).2 (.inl rfl), ?_⟩
    obtain ⟨k, h1, h2⟩ := List.any_eq_true.1 hr
    have h2 := of_decide_eq_true h2
    subst h2
    have e : a.fKeys.any (fun j => withinF ⟨k, []⟩ j) = true := List.any_eq_true.2 ⟨k, h1, hk⟩
    simp only [toucheB, noW, e, Bool.or_true, Bool.true_or]
  · refine List.any_eq_true.2 ⟨noW b, (mem_L hab).2 (.inr rfl), ?_⟩
    obtain ⟨s, h1, h2⟩ := List.any_eq_true.1 hr
    have e : b.fSpans.any (fun o => meetB o ⟨key, []⟩) = true := List.any_eq_true.2 ⟨s, h1, meet_key h2⟩
    simp only [toucheB, noW, e, Bool.or_true]
theorem any_snoc {α : Type} (l : List α) (k : Nat) (h : k < l.length) (p : α → Bool) : (l.take (k + 1)).any p = ((l.take k).any p || p l[k]) := by
  rw [List.take_succ_eq_append_getElem h, List.any_append, List.any_cons, List.any_nil, Bool.or_false]
end lockSides
end Go.Proofs.Ytfagejfcibgigaa
