/- PAGES: Put. Printed by mac.py. -/
import Derived.Test.YthkocgpbpgfocaaPg9
import Derived.Test.YthkocgpbpgfocaaPg5
namespace Go.Proofs.Ythkocgpbpgfocaa
open Go.RowKit

set_option maxHeartbeats 1000000 in
theorem clP_c {p : Nat → Prop} (ad : Addr) (n cap : Nat) (xs : List Value) (w : World) (hn : xs.length = n * 3) (ha : Lies w p (some ad) xs) (ho : ∀ u ∈ xs, u.oneCell' = true) (hr : n ≤ 1000000) :
    Calls Try.prog 33 #[.slice (some ad) n cap] w fun e w' => ∃ a' cap', e = .returned (.slice a' n cap') ∧ w'.ownsRow w.heap.size 29 3 (.slice a' n cap') n xs ∧ Keep Nix w w' := by
  have hnil := fun (w' : World) => Lib.run_eql_slice_nil (P := Try.prog) w' 22 29 (some ad) n cap 0 0 Try.underlying22
  have hl0 := fun w' => list0_run T_lPair w'
  have own0 := owns_empty w 29 3 w.heap.size (Nat.le_refl _)
  have lies2 := ha.keep ((Keep.refl Nix w).alloc (.cells #[] 29)) (fun _ _ h => h)
  have hsz : w.heap.size ≤ (w.alloc (.cells #[] 29)).heap.size := by simp
  clear ha
  go_enter Try.func33, Try.ntmps33
  go_wp2_with (at_builtin; refine wpl_append T_lPair rfl (.tmp 5) (.tmp 6) rfl w.heap.size rfl own0 xs rfl hn lies2 ho ?c1 ?c2 hsz ?_)
  case c1 => unfold maxLen; omega
  case c2 => omega
  intro a' cap' w2 own2 hg
  have kk : Keep Nix w w2 := ((Keep.refl Nix w).alloc (.cells #[] 29)).grown hg (fun k hk hlt => by simp [Value.ownBlock] at hk; omega)
  (try rw [Nat.zero_add, List.nil_append] at own2)
  clear own0 hg lies2
  go_wp2
  go_ret
  exact ⟨a', cap', by simp, own2, kk⟩
theorem find_zero (bD c : Nat) (a : Option Addr) (v : Value) (w : World) (row : RowIs w bD 65 [.slice a 0 c]) : Calls Try.prog 31 #[.pointer (some ⟨bD, 0, none⟩), v] w fun e w' => e = .returned (.tuple #[.int .i64 0, .int .i64 0, .bool false]) ∧ w = w' := by
  have x0 := row.cell 0
  (try simp only [List.getElem?_cons_zero] at x0)
  clear row
  go_enter Try.func31, Try.ntmps31
  go_wp2
  go_ret3
  exact ⟨rfl, rfl⟩
/-! ### Put, in plain words -/
def mayF (x : GPair) : Int := if x.fKey = [] ∨ 600 < x.fKey.length then 1 else if 1000 < x.fValue.length then 10 else 0
structure PagesOk (L : List (List GPair)) : Prop where
  one : ∀ l ∈ L, 0 < l.length ∧ l.length ≤ 8
  many : 1 < L.length → ∀ l ∈ L, 4 ≤ l.length
def insL (l : List GPair) (k : Nat) (x : GPair) : List GPair := l.take k ++ x :: l.drop k
def insF (L : List (List GPair)) (i k : Nat) (is : Bool) (x : GPair) : List (List GPair) := match L[i]? with
  | none => [[x]]
  | some l => if is then L.set i (l.set k x) else if l.length < 8 then L.set i (insL l k x) else (L.set i ((insL l k x).take 4)).take (i + 1) ++ (insL l k x).drop 4 :: L.drop (i + 1)
theorem set3_list {xs : List Value} {o : Nat} (u0 u1 u2 : Value) (h : o + 3 ≤ xs.length) : ((xs.set o u0).set (o + 1) u1).set (o + 2) u2 = xs.take o ++ [u0, u1, u2] ++ xs.drop (o + 3) := by
  obtain ⟨A, D, rfl, hA⟩ : ∃ A D, xs = A ++ D ∧ A.length = o := ⟨xs.take o, xs.drop o, (List.take_append_drop o xs).symm, by rw [List.length_take]; omega⟩
  rw [List.length_append] at h
  match D, h with
  | [], h => simp at h; omega
  | [_], h => simp at h; omega
  | [_, _], h => simp at h; omega
  | a :: b :: c :: C, _ =>
    subst hA
    have e1 : (A ++ a :: b :: c :: C).set A.length u0 = A ++ u0 :: b :: c :: C := by rw [List.set_append_right _ _ (Nat.le_refl _), Nat.sub_self]; rfl
    have e2 : (A ++ u0 :: b :: c :: C).set (A.length + 1) u1 = A ++ u0 :: u1 :: c :: C := by rw [List.set_append_right _ _ (by omega), Nat.add_sub_cancel_left]; rfl
    have e3 : (A ++ u0 :: u1 :: c :: C).set (A.length + 2) u2 = A ++ u0 :: u1 :: u2 :: C := by rw [List.set_append_right _ _ (by omega), Nat.add_sub_cancel_left]; rfl
    rw [e1, e2, e3, List.take_left, List.drop_append]
    simp
theorem flat_set {css : List (List Value)} (h : ∀ c ∈ css, c.length = 3) {k : Nat} (hk : k < css.length) (c : List Value) : (css.set k c).flatten = css.flatten.take (k * 3) ++ c ++ css.flatten.drop (k * 3 + 3) := by
  have h1 : css = css.take k ++ css[k] :: css.drop (k + 1) := by rw [List.getElem_cons_drop, List.take_append_drop]
  have h2 : css.set k c = css.take k ++ c :: css.drop (k + 1) := List.set_eq_take_append_cons_drop.trans (by rw [if_pos hk])
  have e1 : (css.take k).flatten.length = k * 3 := by
    have : ∀ (l : List (List Value)), (∀ c ∈ l, c.length = 3) → l.flatten.length = l.length * 3 := fun l => by
      induction l with
      | nil => intro _; rfl
      | cons a l ih => intro h; rw [List.flatten_cons, List.length_append, h a (by simp), ih (fun c hc => h c (by simp [hc])), List.length_cons]; omega
    rw [this _ (fun c hc => h c (List.mem_of_mem_take hc)), List.length_take]; omega
  have e2 : css[k].length = 3 := h _ (List.getElem_mem hk)
  have e3 : css.flatten = (css.take k).flatten ++ (css[k] ++ (css.drop (k + 1)).flatten) := by
    conv => lhs; rw [h1]
    rw [List.flatten_append, List.flatten_cons]
  have e4 : css.flatten.take (k * 3) = (css.take k).flatten := by rw [e3, List.take_left' e1]
  have e5 : css.flatten.drop (k * 3 + 3) = (css.drop (k + 1)).flatten := by rw [e3, ← List.drop_drop, List.drop_left' e1, List.drop_left' e2]
  rw [h2, List.flatten_append, List.flatten_cons, e4, e5, List.append_assoc]
theorem Els.setAt {w : World} {B : Nat → Prop} {css : List (List Value)} {l : List GPair} (h : Els rGPair w B css l) {k : Nat} {c : List Value} {x : GPair} (hc : rGPair w B c x) : Els rGPair w B (css.set k c) (l.set k x) := by
  refine ⟨by rw [List.length_set, List.length_set, h.1], fun j d y hd hy => ?_⟩
  rw [List.getElem?_set] at hd hy
  by_cases e : k = j
  · rw [if_pos e] at hd hy
    split at hd
    · cases hd
      split at hy
      · cases hy; exact hc
      · cases hy
    · cases hd
  · rw [if_neg e] at hd hy
    exact h.2 j d y hd hy
end Go.Proofs.Ythkocgpbpgfocaa
