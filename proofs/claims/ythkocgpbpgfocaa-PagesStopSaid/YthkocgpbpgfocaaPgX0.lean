/- PAGES: small things of the laws: may, one pair of a list, a whole scan. Printed by mac.py. -/
import Derived.Test.YthkocgpbpgfocaaPgY
namespace Go.Proofs.Ythkocgpbpgfocaa
open Go.RowKit Go.Shelf

set_option maxRecDepth 100000 in
theorem may_c {p : Nat → Prop} (x : GPair) (cs : List Value) (w : World) (hx : rGPair w p cs x) :
    Calls Try.prog 13 #[.agg cs.toArray] w fun e w' => e = .returned (.int .i64 (mayF x)) ∧ Keep Nix w w' := by
  obtain ⟨aK, cK, aV, cV, rfl, hk, hv, -⟩ := rGPair_open hx
  have kk : Keep Nix w (w.alloc (.cells #[.slice aK x.fKey.length cK, .slice aV x.fValue.length cV, .int .i64 x.fVersion] 29)) := (Keep.refl Nix w).alloc _
  have row := RowIs.alloc w #[.slice aK x.fKey.length cK, .slice aV x.fValue.length cV, .int .i64 x.fVersion] 29
  have x0 := row.cell 0
  (try simp only [List.getElem?_cons_zero] at x0)
  have x1 := row.cell 1
  (try simp only [List.getElem?_cons_succ] at x1); (try simp only [List.getElem?_cons_zero] at x1)
  have HM : ∀ c : Int, mayF x = c → (Ending.returned (.int .i64 c) = .returned (.int .i64 (mayF x)) ∧ Keep Nix w (w.alloc (.cells #[.slice aK x.fKey.length cK, .slice aV x.fValue.length cV, .int .i64 x.fVersion] 29))) := fun c h => ⟨by rw [h], kk⟩
  have HER := Lib.hid HM
  clear HM
  by_cases hk0 : x.fKey = []
  · have hl0 : ((x.fKey.length : Int) == 0) = true := by rw [hk0]; rfl
    have hm : Hid (mayF x = 1) := by show _ = _; unfold mayF; rw [if_pos (.inl hk0)]
    clear hk0 hk hv row hx kk
    go_enter Try.func13, Try.ntmps13
    go_wp2_with fail
    go_ret
    exact HER.out 1 hm.out
  have hl0 : ((x.fKey.length : Int) == 0) = false := by
    have : x.fKey.length ≠ 0 := fun e => hk0 (List.eq_nil_of_length_eq_zero e)
    simp only [beq_eq_false_iff_ne]; omega
  rcases Int.lt_or_le 600 (x.fKey.length : Int) with hl6 | hl6
  · have hm : Hid (mayF x = 1) := by show _ = _; unfold mayF; rw [if_pos (.inr (by omega))]
    clear hk0 hk hv row hx kk
    go_enter Try.func13, Try.ntmps13
    go_wp2_with fail
    go_ret
    exact HER.out 1 hm.out
  rcases Int.lt_or_le 1000 (x.fValue.length : Int) with hl1 | hl1
  · have hm : Hid (mayF x = 10) := by show _ = _; unfold mayF; rw [if_neg (by rintro (h | h); exact hk0 h; omega), if_pos (by omega)]
    clear hk0 hk hv row hx kk
    go_enter Try.func13, Try.ntmps13
    go_wp2_with fail
    go_ret
    exact HER.out 10 hm.out
  · have hm : Hid (mayF x = 0) := by show _ = _; unfold mayF; rw [if_neg (by rintro (h | h); exact hk0 h; omega), if_neg (by omega)]
    clear hk0 hk hv row hx kk
    go_enter Try.func13, Try.ntmps13
    go_wp2_with fail
    go_ret
    exact HER.out 0 hm.out
/-- One pair of a list in memory, as the walk reads it. -/
theorem at_pair {w : World} {p : Nat → Prop} {a : Option Addr} {n c : Nat} {l : List GPair} (h : rList rGPair w p [.slice a n c] l) (k : Nat) (hk : k < l.length) :
    ∃ b o aK cK aV cV, a = some ⟨b, o, none⟩ ∧ b < w.heap.size ∧ p b ∧ rGPair w p [.slice aK (l[k]).fKey.length cK, .slice aV (l[k]).fValue.length cV, .int .i64 (l[k]).fVersion] l[k] ∧
      w.cell? ⟨b, o + k * 3, none⟩ = some (.slice aK (l[k]).fKey.length cK) ∧ w.cell? ⟨b, o + k * 3 + 1, none⟩ = some (.slice aV (l[k]).fValue.length cV) ∧ w.cell? ⟨b, o + k * 3 + 2, none⟩ = some (.int .i64 (l[k]).fVersion) := by
  obtain ⟨b, o, _, cx, e1, hp, hb, rx, hcx⟩ := rList_at rGPair_lawful (by decide) h k hk
  simp only [List.cons.injEq, Value.slice.injEq, and_true] at e1
  obtain ⟨rfl, -, -⟩ := e1
  have rx2 := rx
  obtain ⟨aK, cK, aV, cV, rfl, -⟩ := rGPair_open rx
  exact ⟨b, o, aK, cK, aV, cV, rfl, hb, hp, rx2, hcx 0 _ rfl, hcx 1 _ rfl, hcx 2 _ rfl⟩
theorem len_mayPut (l : List GPair) (x : GPair) : (mayPut l x).length ≤ l.length + 1 := by
  unfold mayPut
  split
  · exact len_putS l x
  · omega
theorem OwnP.keepB {D : Nat} {w w' : World} {cs : List Value} {x : GPair} (h : OwnP w (D + 2) cs x) (k : Keep (Book D) w w') : OwnP w' (D + 2) cs x := by
  obtain ⟨a1, c1, a2, c2, e, o1, o2, r⟩ := h
  exact ⟨a1, c1, a2, c2, e, owned_keep o1 k (fun b hb e => by have := (o1.lt b hb).1; rcases e with e | e <;> omega), owned_keep o2 k (fun b hb e => by have := (o2.lt b hb).1; rcases e with e | e <;> omega), r⟩
theorem scanF_all (l : List GPair) : scanF ⟨[], []⟩ false l = l := by
  have : ∀ x : GPair, withinF ⟨[], []⟩ x.fKey = true := fun x => by unfold withinF; rw [ltB_nil]; rfl
  unfold scanF partF
  simp only [Bool.false_eq_true, if_false]
  exact List.filter_eq_self.2 (fun x _ => this x)
theorem span0 (w : World) : rGSpan w (fun _ => True) [.slice none 0 0, .slice none 0 0] ⟨[], []⟩ := rGSpan_mk (x := ⟨[], []⟩) w _ ⟨Lies.nil _ _ _, Nat.zero_le _, Nat.zero_le _⟩ ⟨Lies.nil _ _ _, Nat.zero_le _, Nat.zero_le _⟩
end Go.Proofs.Ythkocgpbpgfocaa
