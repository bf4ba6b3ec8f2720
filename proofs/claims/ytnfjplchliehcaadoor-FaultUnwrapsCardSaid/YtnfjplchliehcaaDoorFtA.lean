/- FAULTS: the reference's chain: Err and Text. Printed by mac.py. -/
import Derived.Test.YtnfjplchliehcaaDoorFt9
namespace Go.Proofs.YtnfjplchliehcaaDoor
open Go.RowKit Go.Extern.Stop Go.Stop Go.Extern

def flatT (ws : List (List UInt8)) : List UInt8 := (ws.map (· ++ [58, 32])).flatten
theorem join_flat : ∀ (ws : List (List UInt8)) (t : List UInt8), joinT ws t = flatT ws ++ t
  | [], _ => rfl
  | x :: ws, t => by
    show x ++ 58 :: 32 :: joinT ws t = flatT (x :: ws) ++ t
    rw [join_flat ws t]
    simp [flatT]
theorem flat_snoc (ws : List (List UInt8)) (x : List UInt8) : flatT (ws ++ [x]) = flatT ws ++ (x ++ [58, 32]) := by simp [flatT]
theorem flat_len (ws : List (List UInt8)) (h : ∀ x ∈ ws, x.length ≤ far) : (flatT ws).length ≤ ws.length * (far + 2) := by
  have := join_len ws [] h
  rw [join_flat, List.append_nil] at this
  simpa using this
def chainV (a : Option Addr) (cap n : Nat) (code : Int) (other : List UInt8) (kd : Int) : List Value := [.slice a n cap, .int .i64 code, .string (strB other), .int .i64 kd]
def endT (kd code : Int) (other : List UInt8) : List UInt8 := if kd = 1 then nameS code else other
def errK (kd code : Int) : Int := if kd = 0 then 0 else if kd = 1 then code else 11
theorem errR_c (a : Option Addr) (cap n : Nat) (code : Int) (other : List UInt8) (kd : Int) (hk : kd = 0 ∨ kd = 1 ∨ kd = 2) (w : World) : Calls Tryd.prog 18 #[.agg (chainV a cap n code other kd).toArray] w fun e w' => e = .returned (.int .i64 (errK kd code)) ∧ Keep Nix w w' := by
  unfold chainV
  have kk : Keep Nix w (w.alloc (.cells #[.slice a n cap, .int .i64 code, .string (strB other), .int .i64 kd] 38)) := (Keep.refl Nix w).alloc _
  rcases hk with rfl | rfl | rfl
  all_goals
    go_enter Tryd.func18, Tryd.ntmps18
    go_wp2
    go_ret
    exact ⟨rfl, kk⟩
set_option maxRecDepth 100000 in
set_option maxHeartbeats 4000000 in
theorem textR_c {p : Nat → Prop} (a : Option Addr) (cap : Nat) (ws : List (List UInt8)) (code : Int) (other : List UInt8) (kd : Int) (w : World) (hl : Lies w p a (ws.map strV)) (hn : ws.length ≤ 100) (hf : ∀ x ∈ ws, x.length ≤ far) (ho : other.length ≤ far) :
    Calls Tryd.prog 20 #[.agg (chainV a cap ws.length code other kd).toArray] w fun e w' => e = .returned (.string (strB (joinT ws (endT kd code other)))) ∧ Keep Nix w w' := by
  unfold chainV
  have hfar := far_len
  have kk : Keep Nix w (w.alloc (.cells #[.slice a ws.length cap, .int .i64 code, .string (strB other), .int .i64 kd] 38)) := (Keep.refl Nix w).alloc _
  have row := RowIs.alloc w #[.slice a ws.length cap, .int .i64 code, .string (strB other), .int .i64 kd] 38
  have hl1 := hl.keep kk (fun _ _ h => h)
  have hmul : ws.length * (far + 2) ≤ 100 * (far + 2) := Nat.mul_le_mul_right _ hn
  clear hl
  go_enter Tryd.func20, Tryd.ntmps20
  go_wp2_with fail
  generalize w.alloc (.cells #[.slice a ws.length cap, .int .i64 code, .string (strB other), .int .i64 kd] 38) = w1 at *
  have x0 := row.cell 0
  (try simp only [List.getElem?_cons_succ] at x0); (try simp only [List.getElem?_cons_zero] at x0)
  have x1 := row.cell 1
  (try simp only [List.getElem?_cons_succ] at x1); (try simp only [List.getElem?_cons_zero] at x1)
  have x2 := row.cell 2
  (try simp only [List.getElem?_cons_succ] at x2); (try simp only [List.getElem?_cons_zero] at x2)
  have x3 := row.cell 3
  (try simp only [List.getElem?_cons_succ] at x3); (try simp only [List.getElem?_cons_zero] at x3)
  go_loopw [3, 4] (fun o i wr => ∃ k : Nat, k ≤ ws.length ∧ i = .int .i64 k ∧ o = .string (strB (flatT (ws.take k))) ∧ w1 = wr) (fun _ i _ => ws.length - (intOf i).toNat)
  case atStart => exact ⟨0, by omega, rfl, rfl, rfl⟩
  case round =>
    obtain ⟨k, hk, rfl, rfl, rfl⟩ := hrel
    have hfk : (flatT (ws.take k)).length ≤ 100 * (far + 2) := by
      refine Nat.le_trans (flat_len _ (fun x hx => hf x (List.mem_of_mem_take hx))) (Nat.le_trans (Nat.mul_le_mul_right _ ?_) hmul)
      rw [List.length_take]; omega
    rcases Nat.lt_or_ge k ws.length with hlt | hge
    · have hi1 : (k : Int) < (ws.length : Int) := by omega
      have hi0 : (0 : Int) ≤ (k : Int) := by omega
      obtain ⟨b, off, rfl, -, hb, hc⟩ := hl1 (by intro e; rw [List.map_eq_nil_iff] at e; subst e; simp at hlt)
      have xk := hc k (strV ws[k]) (by simp [hlt])
      unfold strV at xk
      have hx := hf ws[k] (List.getElem_mem hlt)
      have hnx : Hid (flatT (ws.take (k + 1)) = flatT (ws.take k) ++ (ws[k] ++ [58, 32])) := (by
        show _ = _
        rw [List.take_succ_eq_append_getElem hlt, flat_snoc])
      have a1 := addS (P := Tryd.prog) (flatT (ws.take k)) ws[k] (by unfold far at *; omega)
      have a2 : ∀ w', (Op.stringOp .add (strB (flatT (ws.take k) ++ ws[k])) ⟨#[58, 32]⟩).run Tryd.prog w' = .ok (.string (strB (flatT (ws.take k) ++ (ws[k] ++ [58, 32])))) w' := fun w' => by
        rw [← List.append_assoc]
        exact addS _ [58, 32] (by rw [List.length_append]; simp; unfold far at *; omega) w'
      rw [← hnx.out] at a2
      obtain ⟨fk1, hfk1⟩ : ∃ y, Hid (flatT (ws.take (k + 1)) = y) := ⟨_, rfl⟩
      rw [hfk1.out] at a2
      generalize ws[k] = x at *
      generalize flatT (ws.take k) = fk at *
      clear hc hmul hfk hx hnx
      go_wp2_with fail
      go_roundw
      case rel => exact ⟨k + 1, by omega, by go_num, by rw [hfk1.out], trivial⟩
      case measure => simp [intOf]; omega
    · obtain rfl : k = ws.length := by omega
      rw [List.take_length] at hfk ⊢
      have hj := fun t => join_flat ws t
      have hne := nameS_len code
      by_cases hkd : kd = 1
      · subst hkd
        have HJ : Hid (joinT ws (endT 1 code other) = flatT ws ++ nameS code) := (by show _ = _; rw [hj]; rfl)
        have a1 := addS (P := Tryd.prog) (flatT ws) (nameS code) (by unfold far at *; omega)
        generalize flatT ws = fk at *
        clear hj hne hmul hfk
        go_wp2_with fail
        go_fit (errno_c code w1)
        rintro e w2 ⟨rfl, k2⟩
        replace kk := Lib.hid (kk.trans k2)
        clear k2
        go_wp2_with fail
        go_ret
        rw [HJ.out]
        exact ⟨rfl, kk.out⟩
      · have HJ : Hid (joinT ws (endT kd code other) = flatT ws ++ other) := (by show _ = _; rw [hj]; unfold endT; rw [if_neg hkd])
        have a1 := addS (P := Tryd.prog) (flatT ws) other (by unfold far at *; omega)
        rcases test_eq kd 1 with ⟨t1, t2⟩ | ⟨t1, t2⟩
        · exact absurd t2.out hkd
        · generalize flatT ws = fk at *
          clear hj hne hmul hfk t2 hkd
          replace kk := Lib.hid kk
          go_wp2_with fail
          go_ret
          rw [HJ.out]
          exact ⟨rfl, kk.out⟩
end Go.Proofs.YtnfjplchliehcaaDoor
