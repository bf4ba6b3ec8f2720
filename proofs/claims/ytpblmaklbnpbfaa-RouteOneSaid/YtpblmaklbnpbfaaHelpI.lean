/- THE WALKS of package armoirehelp over ints: Plain, Same, Own, Kept (XHelp's, turned by program). -/
import Derived.Test.YtpblmaklbnpbfaaHelp
namespace Go.Proofs.Ytpblmaklbnpbfaa
open Go.RowKit

def iv (n : Int) : Value := .int .i64 n
theorem iv_one (l : List Int) : ∀ u ∈ l.map iv, u.oneCell' = true := fun u hu => by
  obtain ⟨x, -, rfl⟩ := List.mem_map.1 hu
  rfl
theorem T_ints : SliceT Try.prog 38 3 1 8 := SliceT.mk' Try.underlying38 (z := .int .i64 0) (by kernel_rfl) rfl (by decide)
theorem iv_at (l : List Int) (k : Nat) (h : k < l.length) : (l.map iv)[k]? = some (.int .i64 l[k]) := by simp [iv, h]
theorem intEq_c (c d : Int) (w : World) : Calls Try.prog 51 #[.int .i64 c, .int .i64 d] w fun e w' => e = .returned (.bool (c == d)) ∧ w = w' := by
  go_enter Try.func51, Try.ntmps51
  go_wp2
  go_ret
  exact ⟨rfl, rfl⟩

/-- Two byte slices: are they alike? -/
theorem sameI_c {p q : Nat → Prop} (a b : Option Addr) (n ca m cb : Nat) (la lb : List Int) (w : World) (hn : la.length = n) (hm : lb.length = m) (ha : Lies w p a (la.map iv)) (hb : Lies w q b (lb.map iv)) (hnb : n ≤ maxLen) :
    Calls Try.prog 50 #[.slice a n ca, .slice b m cb, .func (.func 51) #[] #[]] w fun e w' => e = .returned (.bool (decide (la = lb))) ∧ Keep Nix w w' := by
  unfold maxLen at hnb
  by_cases h : n = m
  · subst h
    have hh : ((n : Int) != (n : Int)) = false := by simp
    have HN := Lib.hid hn
    have HM := Lib.hid hm
    clear hn hm
    go_enter Try.func50, Try.ntmps50
    go_wp2_with fail
    go_loopw [6, 7] (fun r i wr => ∃ k : Nat, k ≤ n ∧ i = .int .i64 k ∧ r = .bool false ∧ Hid (la.take k = lb.take k) ∧ Keep Nix w wr) (fun _ i _ => n - (intOf i).toNat)
    case atStart => exact ⟨0, by omega, rfl, rfl, rfl, Keep.refl _ _⟩
    case round =>
      obtain ⟨k, hk, rfl, rfl, hsame, kk⟩ := hrel
      by_cases hlt : k < n
      · have l1 : k < la.length := by rw [HN.out]; exact hlt
        have l2 : k < lb.length := by rw [HM.out]; exact hlt
        obtain ⟨ba, oa, rfl, -, hba, hca⟩ := ha (by intro e; rw [List.map_eq_nil_iff] at e; subst e; simp at l1)
        obtain ⟨bb, ob, rfl, -, hbb, hcb⟩ := hb (by intro e; rw [List.map_eq_nil_iff] at e; subst e; simp at l2)
        have ga := (kk.cell (p := ⟨ba, oa + k, none⟩) hba id).trans (hca k _ (iv_at la k l1))
        have gb := (kk.cell (p := ⟨bb, ob + k, none⟩) hbb id).trans (hcb k _ (iv_at lb k l2))
        have hst : Hid (la.take (k + 1) = lb.take (k + 1) ↔ la[k] = lb[k]) := by
          show _ ↔ _
          rw [List.take_succ_eq_append_getElem l1, List.take_succ_eq_append_getElem l2, hsame.out, List.append_cancel_left_eq]; simp
        have hne : la[k] ≠ lb[k] → la ≠ lb := by rintro h1 rfl; exact h1 rfl
        have HNE := Lib.hid hne
        clear hca hcb ha hb hne
        generalize la[k] = x at ga hst HNE
        generalize lb[k] = y at gb hst HNE
        clear l1 l2
        have hxy : ((x == y) = true ∧ x = y) ∨ ((x == y) = false ∧ x ≠ y) := by
          by_cases e : x = y
          · exact .inl ⟨by simp [e], e⟩
          · exact .inr ⟨by simp [e], e⟩
        rcases hxy with ⟨hb1, he⟩ | ⟨hb1, he⟩
        · have HE := Lib.hid he
          clear he
          go_wp2_with fail
          go_quiet ((go_at_call 51; exact quiet_eq (intEq_c _ _ _)))
          go_wp2
          go_roundw
          case rel => exact ⟨k + 1, by omega, by go_num, rfl, hst.out.2 HE.out, kk.drewN _⟩
          case measure => simp [intOf]; omega
        · have HE := Lib.hid he
          clear he
          go_wp2_with fail
          go_quiet ((go_at_call 51; exact quiet_eq (intEq_c _ _ _)))
          go_wp2
          go_ret
          exact ⟨ret_bool (by simp [HNE.out HE.out]), kk.drewN _⟩
      · go_wp2_with fail
        go_ret
        obtain rfl : k = n := by omega
        have e : la = lb := by
          have := hsame.out
          rwa [List.take_of_length_le (by rw [HN.out]; omega), List.take_of_length_le (by rw [HM.out]; omega)] at this
        exact ⟨ret_bool (by simp [e]), kk⟩
  · have hh : ((n : Int) != (m : Int)) = true := by simp; omega
    have hne : la ≠ lb := by rintro rfl; omega
    have HNE := Lib.hid hne
    clear hne h hn hm
    go_enter Try.func50, Try.ntmps50
    go_wp2_with fail
    go_ret
    exact ⟨ret_bool (by simp [HNE.out]), Keep.refl _ _⟩
theorem plainI_c {p q : Nat → Prop} (a b : Option Addr) (n ca m cb : Nat) (la lb : List Int) (w : World) (hn : la.length = n) (hm : lb.length = m) (ha : Lies w p a (la.map iv)) (hb : Lies w q b (lb.map iv)) (hnb : n ≤ maxLen) :
    Calls Try.prog 26 #[.slice a n ca, .slice b m cb] w fun e w' => e = .returned (.bool (decide (la = lb))) ∧ Keep Nix w w' := by
  have hmf : ∀ (fn : Fn) (first cap : Array Value) (w : World), (Instr.makeFunc fn first cap).run Try.prog w = .ok (.func fn first cap) w := fun _ _ _ _ => rfl
  go_enter Try.func26, Try.ntmps26
  go_wp2_with fail
  refine (sameI_c a b n ca m cb la lb w hn hm ha hb hnb).mono ?_
  rintro e w1 ⟨rfl, kk⟩
  go_wp2
  go_ret
  exact ⟨rfl, kk⟩

end Go.Proofs.Ytpblmaklbnpbfaa
