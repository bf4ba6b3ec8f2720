/- THE LAW PagesOrder, walked. Printed by mac.py. -/
import Derived.Test.YthkocgpbpgfocaaPgY
import Derived.Test.YthkocgpbpgfocaaMod
namespace Go.Proofs.Ythkocgpbpgfocaa
open Go.RowKit Go.Shelf

set_option maxRecDepth 100000 in
theorem may_c {p : Nat → Prop} (x : GPair) (cs : List Value) (w : World) (hx : rGPair w p cs x) :
    Calls Try.prog 13 #[.agg cs.toArray] w fun e w' => e = .returned (.int .i64 (mayF x)) ∧ Keep Nix w w' := by
  obtain ⟨aK, cK, aV, cV, rfl, hk, hv, -⟩ := rGPair_open hx
  have kk : Keep Nix w (w.alloc (.cells #[.slice aK x.fKey.length cK, .slice aV x.fValue.length cV, .int .i64 x.fVersion] 29)) := (Keep.refl Nix w).alloc _
  have row := RowIs.alloc w #[.slice aK x.fKey.length cK, .slice aV x.fValue.length cV, .int .i64 x.fVersion] 29
  have x0 := row.cell 0
  (try simp only [List.getElem?_cons_zero] at x0)
  have x1 := row.cell 1
  (try simp only [List.getElem?_cons_succ] at x1); (try simp only [List.getElem?_cons_zero] at x1)
  have HM : ∀ c : Int, mayF x = c → (Ending.returned (.int .i64 c) = .returned (.int .i64 (mayF x)) ∧ Keep Nix w (w.alloc (.cells #[.slice aK x.fKey.length cK, .slice aV x.fValue.length cV, .int .i64 x.fVersion] 29))) := fun c h => ⟨by rw [h], kk⟩
  have HER := Lib.hid HM
  clear HM
  by_cases hk0 : x.fKey = []
  · have hl0 : ((x.fKey.length : Int) == 0) = true := by rw [hk0]; rfl
    have hm : Hid (mayF x = 1) := by show _ = _; unfold mayF; rw [if_pos (.inl hk0)]
    clear hk0 hk hv row hx kk
    go_enter Try.func13, Try.ntmps13
    go_wp2_with fail
    go_ret
    exact HER.out 1 hm.out
  have hl0 : ((x.fKey.length : Int) == 0) = false := by
    have : x.fKey.length ≠ 0 := fun e => hk0 (List.eq_nil_of_length_eq_zero e)
    simp only [beq_eq_false_iff_ne]; omega
  rcases Int.lt_or_le 600 (x.fKey.length : Int) with hl6 | hl6
  · have hm : Hid (mayF x = 1) := by show _ = _; unfold mayF; rw [if_pos (.inr (by omega))]
    clear hk0 hk hv row hx kk
    go_enter Try.func13, Try.ntmps13
    go_wp2_with fail
    go_ret
    exact HER.out 1 hm.out
  rcases Int.lt_or_le 1000 (x.fValue.length : Int) with hl1 | hl1
  · have hm : Hid (mayF x = 10) := by show _ = _; unfold mayF; rw [if_neg (by rintro (h | h); exact hk0 h; omega), if_pos (by omega)]
    clear hk0 hk hv row hx kk
    go_enter Try.func13, Try.ntmps13
    go_wp2_with fail
    go_ret
    exact HER.out 10 hm.out
  · have hm : Hid (mayF x = 0) := by show _ = _; unfold mayF; rw [if_neg (by rintro (h | h); exact hk0 h; omega), if_neg (by omega)]
    clear hk0 hk hv row hx kk
    go_enter Try.func13, Try.ntmps13
    go_wp2_with fail
    go_ret
    exact HER.out 0 hm.out
/-- One pair of a list in memory, as the walk reads it. -/
theorem at_pair {w : World} {p : Nat → Prop} {a : Option Addr} {n c : Nat} {l : List GPair} (h : rList rGPair w p [.slice a n c] l) (k : Nat) (hk : k < l.length) :
    ∃ b o aK cK aV cV, a = some ⟨b, o, none⟩ ∧ b < w.heap.size ∧ p b ∧ rGPair w p [.slice aK (l[k]).fKey.length cK, .slice aV (l[k]).fValue.length cV, .int .i64 (l[k]).fVersion] l[k] ∧
      w.cell? ⟨b, o + k * 3, none⟩ = some (.slice aK (l[k]).fKey.length cK) ∧ w.cell? ⟨b, o + k * 3 + 1, none⟩ = some (.slice aV (l[k]).fValue.length cV) ∧ w.cell? ⟨b, o + k * 3 + 2, none⟩ = some (.int .i64 (l[k]).fVersion) := by
  obtain ⟨b, o, _, cx, e1, hp, hb, rx, hcx⟩ := rList_at rGPair_lawful (by decide) h k hk
  simp only [List.cons.injEq, Value.slice.injEq, and_true] at e1
  obtain ⟨rfl, -, -⟩ := e1
  have rx2 := rx
  obtain ⟨aK, cK, aV, cV, rfl, -⟩ := rGPair_open rx
  exact ⟨b, o, aK, cK, aV, cV, rfl, hb, hp, rx2, hcx 0 _ rfl, hcx 1 _ rfl, hcx 2 _ rfl⟩
def Apart (l : List GPair) (i : Nat) : Prop := ∀ q (h : q < l.length) r (h' : r < l.length), q < i → r < q → l[q].fKey ≠ l[r].fKey
theorem Apart.ne {l : List GPair} (h : Apart l l.length) {q r : Nat} (hq : q < l.length) (hr : r < l.length) (hn : q ≠ r) : l[q].fKey ≠ l[r].fKey := by
  rcases Nat.lt_or_ge r q with h1 | h1
  · exact h q hq r hr hq h1
  · exact (h r hr q hq hr (by omega)).symm
theorem may_step {l la : List GPair} {P P' : Nat → Prop} {k : Nat} (hk : k < l.length) (hA : ∀ x, x ∈ la ↔ (∃ q, ∃ h : q < l.length, P q ∧ l[q] = x) ∧ mayF x = 0) (hap : Apart l l.length) (hP : ¬ P k) (hP' : ∀ q, P' q ↔ P q ∨ q = k) :
    ∀ x, x ∈ mayPut la l[k] ↔ (∃ q, ∃ h : q < l.length, P' q ∧ l[q] = x) ∧ mayF x = 0 := by
  intro x
  unfold mayPut
  by_cases hm : mayF l[k] = 0
  · rw [if_pos hm, mem_putS, hA]
    constructor
    · rintro (rfl | ⟨⟨⟨q, h, h1, h2⟩, h3⟩, h4⟩)
      · exact ⟨⟨k, hk, (hP' k).2 (.inr rfl), rfl⟩, hm⟩
      · exact ⟨⟨q, h, (hP' q).2 (.inl h1), h2⟩, h3⟩
    · rintro ⟨⟨q, h, h1, rfl⟩, h3⟩
      rcases (hP' q).1 h1 with h2 | rfl
      · exact .inr ⟨⟨⟨q, h, h2, rfl⟩, h3⟩, hap.ne h hk (fun e => hP (e ▸ h2))⟩
      · exact .inl rfl
  · rw [if_neg hm, hA]
    constructor
    · rintro ⟨⟨q, h, h1, h2⟩, h3⟩
      exact ⟨⟨q, h, (hP' q).2 (.inl h1), h2⟩, h3⟩
    · rintro ⟨⟨q, h, h1, rfl⟩, h3⟩
      rcases (hP' q).1 h1 with h2 | rfl
      · exact ⟨⟨q, h, h2, rfl⟩, h3⟩
      · exact absurd h3 hm
theorem len_mayPut (l : List GPair) (x : GPair) : (mayPut l x).length ≤ l.length + 1 := by
  unfold mayPut
  split
  · exact len_putS l x
  · omega
theorem turn_eq {n i t : Nat} (hi : i < n) (ht : t < n) : (i + t) % n = if i + t < n then i + t else i + t - n := by
  split
  · exact Nat.mod_eq_of_lt (by omega)
  · rw [Nat.mod_eq_sub_mod (by omega)]; exact Nat.mod_eq_of_lt (by omega)
theorem turn_inj {n i j t : Nat} (hi : i < n) (hj : j < n) (ht : t < n) (h : (i + t) % n = (j + t) % n) : i = j := by
  rw [turn_eq hi ht, turn_eq hj ht] at h
  split at h <;> split at h <;> omega
theorem turn_all {n q t : Nat} (hq : q < n) (ht : t < n) : ∃ j, j < n ∧ (j + t) % n = q := by
  rcases Nat.lt_or_ge q t with h | h
  · exact ⟨q + n - t, by omega, by rw [turn_eq (by omega) ht]; split <;> omega⟩
  · exact ⟨q - t, by omega, by rw [turn_eq (by omega) ht]; split <;> omega⟩
theorem OwnP.keepB {D : Nat} {w w' : World} {cs : List Value} {x : GPair} (h : OwnP w (D + 2) cs x) (k : Keep (Book D) w w') : OwnP w' (D + 2) cs x := by
  obtain ⟨a1, c1, a2, c2, e, o1, o2, r⟩ := h
  exact ⟨a1, c1, a2, c2, e, owned_keep o1 k (fun b hb e => by have := (o1.lt b hb).1; rcases e with e | e <;> omega), owned_keep o2 k (fun b hb e => by have := (o2.lt b hb).1; rcases e with e | e <;> omega), r⟩
theorem scanF_all (l : List GPair) : scanF ⟨[], []⟩ false l = l := by
  have : ∀ x : GPair, withinF ⟨[], []⟩ x.fKey = true := fun x => by unfold withinF; rw [ltB_nil]; rfl
  unfold scanF partF
  simp only [Bool.false_eq_true, if_false]
  exact List.filter_eq_self.2 (fun x _ => this x)
theorem span0 (w : World) : rGSpan w (fun _ => True) [.slice none 0 0, .slice none 0 0] ⟨[], []⟩ := rGSpan_mk (x := ⟨[], []⟩) w _ ⟨Lies.nil _ _ _, Nat.zero_le _, Nat.zero_le _⟩ ⟨Lies.nil _ _ _, Nat.zero_le _, Nat.zero_le _⟩
attribute [local go_sem ↓] cv_up cv_down rm_uint
set_option maxRecDepth 100000 in
set_option maxHeartbeats 4000000 in
theorem order_walk (W : World) (a0 : Option Addr) (cap : Nat) (l : List GPair) (tn : Int) (hl : rList rGPair W (· < W.heap.size) [.slice a0 l.length cap] l) :
    Calls Try.prog 3 #[.slice a0 l.length cap, .int .i64 tn] W fun e w' => e = .returned (.bool true) ∧ Keep Nix W w' := by
  have hfar := (rList_len hl).2.2
  have hfm : l.length ≤ maxLen := Nat.le_trans hfar (by unfold far maxLen; decide)
  have HL := Lib.hid hl
  clear hl
  refine calls_marks Try.func3 rfl ?_
  simp only [Try.ntmps3, List.size_toArray, List.length_cons, List.length_nil, Nat.reduceAdd, Nat.reduceSub, Array.replicate_succ, Array.replicate_zero, List.push_toArray, List.append_toArray, List.nil_append, List.cons_append]
  go_wp2_with fail
  go_fit (new_m W)
  rintro e w1 ⟨rfl, MA, k1⟩
  go_wp2_with fail
  go_fit (new_m w1)
  rintro e w2 ⟨rfl, MB, k2⟩
  go_wp2_with fail
  go_fit (awake_c w2)
  rintro e w3 ⟨rfl, k3⟩
  have hA1 := MA.lt _ rfl
  replace MA := MA.nix (k2.trans k3)
  replace MB := MB.nix k3
  have kk := (k1.trans k2).trans k3
  have hs1 := k1.size
  have hs3 := k3.size
  have hgb := MB.lt _ rfl
  have hs2 := k2.size
  clear k1 k2 k3
  generalize hga : W.heap.size = ga at *
  generalize w1.heap.size = gb at *
  have HAB : Hid (ga < gb ∧ gb < w3.heap.size) := ⟨hA1, hgb⟩
  rcases Nat.eq_zero_or_pos l.length with h0 | h0
  · have hn0 : ((l.length : Int) == 0) = true := by rw [h0]; rfl
    clear MA MB
    go_wp2_with fail
    go_fit (awake_c w3)
    rintro e w4 ⟨rfl, k4⟩
    go_wp2_with fail
    exact ⟨_, results_tmp rfl _ _ _, rfl, kk.trans k4⟩
  have hn0 : ((l.length : Int) == 0) = false := by simp only [beq_eq_false_iff_ne]; omega
  rcases Int.lt_or_le 80 (l.length : Int) with h80 | h80
  · clear MA MB
    go_wp2_with fail
    go_fit (awake_c w3)
    rintro e w4 ⟨rfl, k4⟩
    go_wp2_with fail
    exact ⟨_, results_tmp rfl _ _ _, rfl, kk.trans k4⟩
  go_wp2_with fail
  go_loopw [7] (fun u wr => ∃ i : Nat, i ≤ l.length ∧ u = .int .i64 i ∧ Hid (Apart l i) ∧ Keep Nix w3 wr) (fun u _ => l.length - (intOf u).toNat)
  case atStart => exact ⟨0, by omega, rfl, fun q _ _ _ h => absurd h (Nat.not_lt_zero q), Keep.refl _ _⟩
  case round =>
    obtain ⟨i, hi, rfl, HP, k4⟩ := hrel
    by_cases hlt : i < l.length
    · have hi0 : (0 : Int) ≤ (i : Int) := by omega
      have hi1 : (i : Int) < (l.length : Int) := by omega
      go_wp2_with fail
      go_loopw [8] (fun u wx => ∃ k : Nat, k ≤ i ∧ u = .int .i64 k ∧ Hid (∀ r (h : r < l.length), r < k → (l[i]).fKey ≠ (l[r]).fKey) ∧ Keep Nix w3 wx) (fun u _ => i - (intOf u).toNat)
      case atStart => exact ⟨0, by omega, rfl, fun r _ h => absurd h (Nat.not_lt_zero r), k4⟩
      case round =>
        clear k4
        obtain ⟨k, hk, rfl, HQ, k4⟩ := hrel
        by_cases hkt : k < i
        · have hk0 : (0 : Int) ≤ (k : Int) := by omega
          have hk1 : (k : Int) < (l.length : Int) := by omega
          have hk2 : (k : Int) < (i : Int) := by omega
          have hkl : k < l.length := by omega
          have hLr := (rList_lawful rGPair_lawful).nix HL.out (kk.trans k4)
          obtain ⟨b, o, aK, cK, _, _, rfl, -, -, rx, x0, -, -⟩ := at_pair hLr i hlt
          obtain ⟨b', o', bK, dK, _, _, e, -, -, ry, y0, -, -⟩ := at_pair hLr k hkl
          simp only [Option.some.injEq, Addr.mk.injEq, and_true] at e
          obtain ⟨rfl, rfl⟩ := e
          have HE : Hid (∀ r (h : r < l.length), r < k + 1 → r < k ∨ r = k) := fun r _ h => by omega
          obtain ⟨x, hx⟩ : ∃ x, l[i] = x := ⟨_, rfl⟩
          obtain ⟨y, hy⟩ : ∃ y, l[k] = y := ⟨_, rfl⟩
          rw [hx] at rx x0
          rw [hy] at ry y0
          have HX := Lib.hid hx
          have HY := Lib.hid hy
          clear hx hy hLr
          obtain ⟨_, _, _, _, e1, hKx, -⟩ := rGPair_open rx
          obtain ⟨_, _, _, _, e2, hKy, -⟩ := rGPair_open ry
          simp only [List.cons.injEq, Value.slice.injEq, and_true, true_and] at e1 e2
          obtain ⟨⟨rfl, rfl⟩, -⟩ := e1
          obtain ⟨⟨rfl, rfl⟩, -⟩ := e2
          clear rx ry
          go_upto_region 10 with fail
          have kd : Keep Nix wr wr.drew := (Keep.refl Nix wr).drew
          refine wp_region_noPanic ?_
          refine wp_region_held_drew (S := (fun w' => w'.cell? ⟨b, o + i * 3, none⟩ = some (.slice aK x.fKey.length cK) ∧ w'.cell? ⟨b, o + k * 3, none⟩ = some (.slice bK y.fKey.length dK))) (by kernel_rfl) (⟨x0, y0⟩) (fun hHeld => ?_)
          have hKx2 := hKx.1.keep kd (fun _ _ h => h)
          have hKy2 := hKy.1.keep kd (fun _ _ h => h)
          have k5 := k4.trans kd
          clear x0 y0 hKx hKy
          generalize wr.drew = wd at *
          refine wpAnyH_take (i := 0) (v := ?_) rfl (by kernel_rfl) (by kernel_rfl) (by kernel_rfl) (fun _ _ _ h => h) (Or.inl ⟨by kernel_rfl, ?_⟩) hHeld ?_
          rotate_left
          · intro w' hSw
            (try dsimp only at hSw)
            (try simp only [List.getElem_toArray]); (try simp only [List.getElem_cons_succ]); (try simp only [List.getElem_cons_zero])
            go_simp
            try with_reducible rfl
          (try simp only [Act.put]); (try simp only [List.getElem_toArray]); (try simp only [List.getElem_cons_succ]); (try simp only [List.getElem_cons_zero]); (try simp only [List.setIfInBounds_toArray]); (try simp only [List.set_cons_succ]); (try simp only [List.set_cons_zero])
          refine wpAnyH_take (i := 1) (v := ?_) rfl (by kernel_rfl) (by kernel_rfl) (by kernel_rfl) (fun _ _ _ h => h) (Or.inl ⟨by kernel_rfl, ?_⟩) hHeld ?_
          rotate_left
          · intro w' hSw
            (try dsimp only at hSw)
            (try simp only [List.getElem_toArray]); (try simp only [List.getElem_cons_succ]); (try simp only [List.getElem_cons_zero])
            go_simp
            try with_reducible rfl
          (try simp only [Act.put]); (try simp only [List.getElem_toArray]); (try simp only [List.getElem_cons_succ]); (try simp only [List.getElem_cons_zero]); (try simp only [List.setIfInBounds_toArray]); (try simp only [List.set_cons_succ]); (try simp only [List.set_cons_zero])
          refine wpAnyH_take (i := 2) (v := ?_) rfl (by kernel_rfl) (by kernel_rfl) (by kernel_rfl) (fun _ _ _ h => h) (Or.inl ⟨by kernel_rfl, ?_⟩) hHeld ?_
          rotate_left
          · intro w' hSw
            (try dsimp only at hSw)
            (try simp only [List.getElem_toArray]); (try simp only [List.getElem_cons_succ]); (try simp only [List.getElem_cons_zero])
            go_simp
            try with_reducible rfl
          (try simp only [Act.put]); (try simp only [List.getElem_toArray]); (try simp only [List.getElem_cons_succ]); (try simp only [List.getElem_cons_zero]); (try simp only [List.setIfInBounds_toArray]); (try simp only [List.set_cons_succ]); (try simp only [List.set_cons_zero])
          refine wpAnyH_take (i := 3) (v := ?_) rfl (by kernel_rfl) (by kernel_rfl) (by kernel_rfl) (fun _ _ _ h => h) (Or.inl ⟨by kernel_rfl, ?_⟩) hHeld ?_
          rotate_left
          · intro w' hSw
            (try dsimp only at hSw)
            (try simp only [List.getElem_toArray]); (try simp only [List.getElem_cons_succ]); (try simp only [List.getElem_cons_zero])
            go_simp
            try with_reducible rfl
          (try simp only [Act.put]); (try simp only [List.getElem_toArray]); (try simp only [List.getElem_cons_succ]); (try simp only [List.getElem_cons_zero]); (try simp only [List.setIfInBounds_toArray]); (try simp only [List.set_cons_succ]); (try simp only [List.set_cons_zero])
          refine wpAnyH_take (i := 4) (v := ?_) rfl (by kernel_rfl) (by kernel_rfl) (by kernel_rfl) (fun _ _ _ h => h) (Or.inl ⟨by kernel_rfl, ?_⟩) hHeld ?_
          rotate_left
          · intro w' hSw
            (try dsimp only at hSw)
            (try simp only [List.getElem_toArray]); (try simp only [List.getElem_cons_succ]); (try simp only [List.getElem_cons_zero])
            go_simp
            try with_reducible rfl
          (try simp only [Act.put]); (try simp only [List.getElem_toArray]); (try simp only [List.getElem_cons_succ]); (try simp only [List.getElem_cons_zero]); (try simp only [List.setIfInBounds_toArray]); (try simp only [List.set_cons_succ]); (try simp only [List.set_cons_zero])
          refine wpAnyH_take (i := 5) (v := ?_) rfl (by kernel_rfl) (by kernel_rfl) (by kernel_rfl) (fun _ _ _ h => h) (Or.inl ⟨by kernel_rfl, ?_⟩) hHeld ?_
          rotate_left
          · intro w' hSw
            (try dsimp only at hSw)
            (try simp only [List.getElem_toArray]); (try simp only [List.getElem_cons_succ]); (try simp only [List.getElem_cons_zero])
            go_simp
            try with_reducible rfl
          (try simp only [Act.put]); (try simp only [List.getElem_toArray]); (try simp only [List.getElem_cons_succ]); (try simp only [List.getElem_cons_zero]); (try simp only [List.setIfInBounds_toArray]); (try simp only [List.set_cons_succ]); (try simp only [List.set_cons_zero])
          refine wpAnyH_take (i := 6) (v := ?_) rfl (by kernel_rfl) (by kernel_rfl) (by kernel_rfl) (fun _ _ _ h => h) (Or.inl ⟨by kernel_rfl, ?_⟩) hHeld ?_
          rotate_left
          · intro w' hSw
            (try dsimp only at hSw)
            (try simp only [List.getElem_toArray]); (try simp only [List.getElem_cons_succ]); (try simp only [List.getElem_cons_zero])
            go_simp
            try with_reducible rfl
          (try simp only [Act.put]); (try simp only [List.getElem_toArray]); (try simp only [List.getElem_cons_succ]); (try simp only [List.getElem_cons_zero]); (try simp only [List.setIfInBounds_toArray]); (try simp only [List.set_cons_succ]); (try simp only [List.set_cons_zero])
          refine wpAnyH_take (i := 7) (v := ?_) rfl (by kernel_rfl) (by kernel_rfl) (by kernel_rfl) (fun _ _ _ h => h) (Or.inl ⟨by kernel_rfl, ?_⟩) hHeld ?_
          rotate_left
          · intro w' hSw
            (try dsimp only at hSw)
            (try simp only [List.getElem_toArray]); (try simp only [List.getElem_cons_succ]); (try simp only [List.getElem_cons_zero])
            go_simp
            try with_reducible rfl
          (try simp only [Act.put]); (try simp only [List.getElem_toArray]); (try simp only [List.getElem_cons_succ]); (try simp only [List.getElem_cons_zero]); (try simp only [List.setIfInBounds_toArray]); (try simp only [List.set_cons_succ]); (try simp only [List.set_cons_zero])
          refine wpAnyH_take (i := 8) (v := ?_) rfl (by kernel_rfl) (by kernel_rfl) (by kernel_rfl) (fun _ _ _ h => h) (Or.inl ⟨by kernel_rfl, ?_⟩) hHeld ?_
          rotate_left
          · intro w' hSw
            (try dsimp only at hSw)
            (try simp only [List.getElem_toArray]); (try simp only [List.getElem_cons_succ]); (try simp only [List.getElem_cons_zero])
            go_simp
            try with_reducible rfl
          (try simp only [Act.put]); (try simp only [List.getElem_toArray]); (try simp only [List.getElem_cons_succ]); (try simp only [List.getElem_cons_zero]); (try simp only [List.setIfInBounds_toArray]); (try simp only [List.set_cons_succ]); (try simp only [List.set_cons_zero])
          refine wpAnyH_take (i := 9) (v := ?_) rfl (by kernel_rfl) (by kernel_rfl) (by kernel_rfl) (fun _ _ _ h => h) (Or.inl ⟨by kernel_rfl, ?_⟩) hHeld ?_
          rotate_left
          · intro w' hSw
            (try dsimp only at hSw)
            (try simp only [List.getElem_toArray]); (try simp only [List.getElem_cons_succ]); (try simp only [List.getElem_cons_zero])
            go_simp
            try with_reducible rfl
          (try simp only [Act.put]); (try simp only [List.getElem_toArray]); (try simp only [List.getElem_cons_succ]); (try simp only [List.getElem_cons_zero]); (try simp only [List.setIfInBounds_toArray]); (try simp only [List.set_cons_succ]); (try simp only [List.set_cons_zero])
          refine wpAnyH_ready (rs := [10]) (by kernel_rfl) (by simp) ?_
          refine AllReadyH.cons rfl (fun K hK => ?_) AllReadyH.nil
          go_simp
          have hB := bytes_c aK bK _ cK _ dK x.fKey y.fKey wd rfl rfl hKx2 hKy2
          obtain ⟨v, hv⟩ : ∃ v, decide (x.fKey = y.fKey) = v := ⟨_, rfl⟩
          rw [hv] at hB
          have HV := Lib.hid hv
          clear hv
          go_fit hB
          clear hB
          rintro e w5 ⟨rfl, rfl⟩
          go_wp2_with fail
          refine hK.out _ _ (hHeld) (fun hHeld => ?_)
          clear hK K
          (try simp only [Act.put]); (try simp only [List.getElem_toArray]); (try simp only [List.getElem_cons_succ]); (try simp only [List.getElem_cons_zero]); (try simp only [List.setIfInBounds_toArray]); (try simp only [List.set_cons_succ]); (try simp only [List.set_cons_zero])
          refine wpAnyH_done (by kernel_rfl) ?_ _
          refine NoPanic.normal ?_
          clear hHeld hKx2 hKy2
          cases v with
          | true =>
            clear HQ HP
            go_wp2_with fail
            exact ⟨_, results_tmp rfl _ _ _, rfl, kk.trans k5⟩
          | false =>
            have HQ2 : Hid (∀ r (h : r < l.length), r < k + 1 → (l[i]).fKey ≠ (l[r]).fKey) := fun r h h2 => by
              rcases HE.out r h h2 with h3 | rfl
              · exact HQ.out r h h3
              · rw [HX.out, HY.out]; exact of_decide_eq_false HV.out
            go_wp2_with fail
            go_roundw
            case rel => exact ⟨k + 1, by omega, by go_num, HQ2, k5⟩
            case measure => simp [intOf]; omega
        · obtain rfl : k = i := by omega
          have HP2 : Hid (Apart l (k + 1)) := fun q h r h' h1 h2 => by
            by_cases e : q = k
            · subst e; exact HQ.out r h' h2
            · exact HP.out q h r h' (by omega) h2
          go_wp2_with fail
          go_roundw
          case rel => exact ⟨k + 1, by omega, by go_num, HP2, k4⟩
          case measure => simp [intOf]; omega
    · obtain rfl : i = l.length := by omega
      have HAP : Hid (Apart l l.length) := HP
      replace MA := MA.nix k4
      replace MB := MB.nix k4
      have hk4 := k4.size
      have k5 := kk.trans k4
      have HAB2 : Hid (ga < gb ∧ gb < wr.heap.size) := by have := HAB.out; exact ⟨this.1, by omega⟩
      clear HP kk k4 HAB hgb
      have hge : Hid (W.heap.size ≤ ga) := by show _ ≤ _; omega
      have HLM : l.length ≤ 80 := by omega
      obtain ⟨cq, t, ht, f1, f2, f3, f4⟩ := round_facts tn l.length h0 hfm
      clear hA1 hs1 hs2 hs3 hn0 hk4
      go_wp2_with fail
      go_loopw [9] (fun u wx => ∃ (i : Nat) (Oa Ob : Nat → Prop) (la lb : List GPair), i ≤ l.length ∧ u = .int .i64 i ∧ IsMap wx Oa ga la ∧ IsMap wx Ob gb lb ∧ Hid (∀ b, Oa b → ga ≤ b ∧ ¬ Ob b) ∧ Hid (∀ b, Ob b → ga ≤ b) ∧
        Hid (∀ x, x ∈ la ↔ (∃ q, ∃ h : q < l.length, q < i ∧ l[q] = x) ∧ mayF x = 0) ∧ Hid (∀ x, x ∈ lb ↔ (∃ q, ∃ h : q < l.length, (∃ j, j < i ∧ (j + t) % l.length = q) ∧ l[q] = x) ∧ mayF x = 0) ∧ Hid (la.length ≤ i ∧ lb.length ≤ i) ∧ Keep Nix W wx) (fun u _ => l.length - (intOf u).toNat)
      case atStart => exact ⟨0, (· = ga), (· = gb), [], [], by omega, rfl, MA, MB, fun b hb => ⟨by omega, by have := HAB2.out; omega⟩, fun b hb => by have := HAB2.out; omega, fun x => by simp, fun x => by simp, ⟨by simp, by simp⟩, k5⟩
      case round =>
        clear MA MB HAB2 k5
        obtain ⟨i, Oa, Ob, la, lb, hi, rfl, MA, MB, HD, HO, HA, HB, HN, kk⟩ := hrel
        by_cases hlt : i < l.length
        · have hi0 : (0 : Int) ≤ (i : Int) := by omega
          have hi1 : (i : Int) < (l.length : Int) := by omega
          go_upto_region 16 with fail
          have HKQ : ((i : Int) + (t : Int)) % (l.length : Int) = (((i + t) % l.length : Nat) : Int) := by simp
          have hkl : (i + t) % l.length < l.length := Nat.mod_lt _ h0
          rw [HKQ]
          clear HKQ
          obtain ⟨k, HKE⟩ : ∃ k, Hid ((i + t) % l.length = k) := ⟨_, rfl⟩
          rw [HKE.out] at hkl ⊢
          have hk0 : (0 : Int) ≤ (k : Int) := by omega
          have hk1 : (k : Int) < (l.length : Int) := by omega
          have hLr := (rList_lawful rGPair_lawful).nix HL.out kk
          obtain ⟨b, o, aK, cK, aV, cV, rfl, -, hpb, rx, x0, x1, x2⟩ := at_pair hLr i hlt
          obtain ⟨b', o', bK, dK, bV, dV, e, -, -, ry, y0, y1, y2⟩ := at_pair hLr k hkl
          simp only [Option.some.injEq, Addr.mk.injEq, and_true] at e
          obtain ⟨rfl, rfl⟩ := e
          have HA2 := Lib.hid (may_step (P' := fun q => q < i + 1) hlt HA.out HAP.out (by omega) (fun q => by omega))
          have HB2 := Lib.hid (may_step (P' := fun q => ∃ j, j < i + 1 ∧ (j + t) % l.length = q) hkl HB.out HAP.out (by
            rintro ⟨j, hj, e⟩
            have := turn_inj (by omega) hlt ht (e.trans HKE.out.symm)
            omega) (fun q => by
            constructor
            · rintro ⟨j, hj, e⟩
              by_cases hji : j = i
              · subst hji; exact .inr (by rw [← e, HKE.out])
              · exact .inl ⟨j, by omega, e⟩
            · rintro (⟨j, hj, e⟩ | rfl)
              · exact ⟨j, by omega, e⟩
              · exact ⟨i, by omega, HKE.out⟩))
          obtain ⟨x, hx⟩ : ∃ x, l[i] = x := ⟨_, rfl⟩
          obtain ⟨y, hy⟩ : ∃ y, l[k] = y := ⟨_, rfl⟩
          rw [hx] at rx x0 x1 x2 HA2
          rw [hy] at ry y0 y1 y2 HB2
          clear hx hy hLr HKE HA HB
          have kd : Keep Nix wr wr.drew := (Keep.refl Nix wr).drew
          refine wp_region_noPanic ?_
          refine wp_region_held_drew (S := (fun w' => w'.cell? ⟨b, o + i * 3, none⟩ = some (.slice aK x.fKey.length cK) ∧ w'.cell? ⟨b, o + i * 3 + 1, none⟩ = some (.slice aV x.fValue.length cV) ∧ w'.cell? ⟨b, o + i * 3 + 2, none⟩ = some (.int .i64 x.fVersion) ∧ w'.cell? ⟨b, o + k * 3, none⟩ = some (.slice bK y.fKey.length dK) ∧ w'.cell? ⟨b, o + k * 3 + 1, none⟩ = some (.slice bV y.fValue.length dV) ∧ w'.cell? ⟨b, o + k * 3 + 2, none⟩ = some (.int .i64 y.fVersion))) (by kernel_rfl) (⟨x0, x1, x2, y0, y1, y2⟩) (fun hHeld => ?_)
          replace kk := kk.trans kd
          replace rx := rGPair_lawful.nix rx kd
          replace ry := rGPair_lawful.nix ry kd
          replace MA := MA.nix kd
          replace MB := MB.nix kd
          clear x0 x1 x2 y0 y1 y2 kd
          generalize wr.drew = wd at *
          refine wpAnyH_take (i := 0) (v := ?_) rfl (by kernel_rfl) (by kernel_rfl) (by kernel_rfl) (fun _ _ _ h => h) (Or.inl ⟨by kernel_rfl, ?_⟩) hHeld ?_
          rotate_left
          · intro w' hSw
            (try dsimp only at hSw)
            (try simp only [List.getElem_toArray]); (try simp only [List.getElem_cons_succ]); (try simp only [List.getElem_cons_zero])
            go_simp
            try with_reducible rfl
          (try simp only [Act.put]); (try simp only [List.getElem_toArray]); (try simp only [List.getElem_cons_succ]); (try simp only [List.getElem_cons_zero]); (try simp only [List.setIfInBounds_toArray]); (try simp only [List.set_cons_succ]); (try simp only [List.set_cons_zero])
          refine wpAnyH_take (i := 1) (v := ?_) rfl (by kernel_rfl) (by kernel_rfl) (by kernel_rfl) (fun _ _ _ h => h) (Or.inl ⟨by kernel_rfl, ?_⟩) hHeld ?_
          rotate_left
          · intro w' hSw
            (try dsimp only at hSw)
            (try simp only [List.getElem_toArray]); (try simp only [List.getElem_cons_succ]); (try simp only [List.getElem_cons_zero])
            go_simp
            try with_reducible rfl
          (try simp only [Act.put]); (try simp only [List.getElem_toArray]); (try simp only [List.getElem_cons_succ]); (try simp only [List.getElem_cons_zero]); (try simp only [List.setIfInBounds_toArray]); (try simp only [List.set_cons_succ]); (try simp only [List.set_cons_zero])
          refine wpAnyH_take (i := 2) (v := ?_) rfl (by kernel_rfl) (by kernel_rfl) (by kernel_rfl) (fun _ _ _ h => h) (Or.inl ⟨by kernel_rfl, ?_⟩) hHeld ?_
          rotate_left
          · intro w' hSw
            (try dsimp only at hSw)
            (try simp only [List.getElem_toArray]); (try simp only [List.getElem_cons_succ]); (try simp only [List.getElem_cons_zero])
            go_simp
            try with_reducible rfl
          (try simp only [Act.put]); (try simp only [List.getElem_toArray]); (try simp only [List.getElem_cons_succ]); (try simp only [List.getElem_cons_zero]); (try simp only [List.setIfInBounds_toArray]); (try simp only [List.set_cons_succ]); (try simp only [List.set_cons_zero])
          refine wpAnyH_take (i := 3) (v := ?_) rfl (by kernel_rfl) (by kernel_rfl) (by kernel_rfl) (fun _ _ _ h => h) (Or.inl ⟨by kernel_rfl, ?_⟩) hHeld ?_
          rotate_left
          · intro w' hSw
            (try dsimp only at hSw)
            (try simp only [List.getElem_toArray]); (try simp only [List.getElem_cons_succ]); (try simp only [List.getElem_cons_zero])
            go_simp
            try with_reducible rfl
          (try simp only [Act.put]); (try simp only [List.getElem_toArray]); (try simp only [List.getElem_cons_succ]); (try simp only [List.getElem_cons_zero]); (try simp only [List.setIfInBounds_toArray]); (try simp only [List.set_cons_succ]); (try simp only [List.set_cons_zero])
          refine wpAnyH_take (i := 4) (v := ?_) rfl (by kernel_rfl) (by kernel_rfl) (by kernel_rfl) (fun _ _ _ h => h) (Or.inl ⟨by kernel_rfl, ?_⟩) hHeld ?_
          rotate_left
          · intro w' hSw
            (try dsimp only at hSw)
            (try simp only [List.getElem_toArray]); (try simp only [List.getElem_cons_succ]); (try simp only [List.getElem_cons_zero])
            go_simp
            try with_reducible rfl
          (try simp only [Act.put]); (try simp only [List.getElem_toArray]); (try simp only [List.getElem_cons_succ]); (try simp only [List.getElem_cons_zero]); (try simp only [List.setIfInBounds_toArray]); (try simp only [List.set_cons_succ]); (try simp only [List.set_cons_zero])
          refine wpAnyH_take (i := 6) (v := ?_) rfl (by kernel_rfl) (by kernel_rfl) (by kernel_rfl) (fun _ _ _ h => h) (Or.inl ⟨by kernel_rfl, ?_⟩) hHeld ?_
          rotate_left
          · intro w' hSw
            (try dsimp only at hSw)
            (try simp only [List.getElem_toArray]); (try simp only [List.getElem_cons_succ]); (try simp only [List.getElem_cons_zero])
            go_simp
            try with_reducible rfl
          (try simp only [Act.put]); (try simp only [List.getElem_toArray]); (try simp only [List.getElem_cons_succ]); (try simp only [List.getElem_cons_zero]); (try simp only [List.setIfInBounds_toArray]); (try simp only [List.set_cons_succ]); (try simp only [List.set_cons_zero])
          refine wpAnyH_take (i := 7) (v := ?_) rfl (by kernel_rfl) (by kernel_rfl) (by kernel_rfl) (fun _ _ _ h => h) (Or.inl ⟨by kernel_rfl, ?_⟩) hHeld ?_
          rotate_left
          · intro w' hSw
            (try dsimp only at hSw)
            (try simp only [List.getElem_toArray]); (try simp only [List.getElem_cons_succ]); (try simp only [List.getElem_cons_zero])
            go_simp
            try with_reducible rfl
          (try simp only [Act.put]); (try simp only [List.getElem_toArray]); (try simp only [List.getElem_cons_succ]); (try simp only [List.getElem_cons_zero]); (try simp only [List.setIfInBounds_toArray]); (try simp only [List.set_cons_succ]); (try simp only [List.set_cons_zero])
          refine wpAnyH_take (i := 8) (v := ?_) rfl (by kernel_rfl) (by kernel_rfl) (by kernel_rfl) (fun _ _ _ h => h) (Or.inl ⟨by kernel_rfl, ?_⟩) hHeld ?_
          rotate_left
          · intro w' hSw
            (try dsimp only at hSw)
            (try simp only [List.getElem_toArray]); (try simp only [List.getElem_cons_succ]); (try simp only [List.getElem_cons_zero])
            go_simp
            try with_reducible rfl
          (try simp only [Act.put]); (try simp only [List.getElem_toArray]); (try simp only [List.getElem_cons_succ]); (try simp only [List.getElem_cons_zero]); (try simp only [List.setIfInBounds_toArray]); (try simp only [List.set_cons_succ]); (try simp only [List.set_cons_zero])
          refine wpAnyH_take (i := 9) (v := ?_) rfl (by kernel_rfl) (by kernel_rfl) (by kernel_rfl) (fun _ _ _ h => h) (Or.inl ⟨by kernel_rfl, ?_⟩) hHeld ?_
          rotate_left
          · intro w' hSw
            (try dsimp only at hSw)
            (try simp only [List.getElem_toArray]); (try simp only [List.getElem_cons_succ]); (try simp only [List.getElem_cons_zero])
            go_simp
            try with_reducible rfl
          (try simp only [Act.put]); (try simp only [List.getElem_toArray]); (try simp only [List.getElem_cons_succ]); (try simp only [List.getElem_cons_zero]); (try simp only [List.setIfInBounds_toArray]); (try simp only [List.set_cons_succ]); (try simp only [List.set_cons_zero])
          have hsz := kk.size
          have hMBl := MB.lt
          have hblt : b < wd.heap.size := by omega
          have hnA : ¬ Oa b := fun h => by have := (HD.out b h).1; omega
          have hnB : ¬ Ob b := fun h => by have := HO.out b h; omega
          have hNA : la.length ≤ 100000 ∧ lb.length ≤ 100000 := by have := HN.out; omega
          refine wpAnyH_ready (rs := [5]) (by kernel_rfl) (by simp) ?_
          refine AllReadyH.cons rfl (fun K hK => ?_) AllReadyH.nil
          go_simp
          go_fit (put_m Oa ga la x _ wd MA hNA.1 rx)
          rintro e w5 ⟨rfl, Oa2, MA2, hOa, k5⟩
          go_wp2_with fail
          refine hK.out _ _ (⟨(k5.cell hblt hnA).trans hHeld.1, (k5.cell hblt hnA).trans hHeld.2.1, (k5.cell hblt hnA).trans hHeld.2.2.1, (k5.cell hblt hnA).trans hHeld.2.2.2.1, (k5.cell hblt hnA).trans hHeld.2.2.2.2.1, (k5.cell hblt hnA).trans hHeld.2.2.2.2.2⟩) (fun hHeld => ?_)
          clear hK K
          (try simp only [Act.put]); (try simp only [List.getElem_toArray]); (try simp only [List.getElem_cons_succ]); (try simp only [List.getElem_cons_zero]); (try simp only [List.setIfInBounds_toArray]); (try simp only [List.set_cons_succ]); (try simp only [List.set_cons_zero])
          have kk5 := kk.then k5 (fun i hi h => by have := (HD.out i h).1; omega)
          replace rx := rGPair_lawful.keep rx k5 (fun b hb h => by have := (HD.out b h).1; omega)
          replace ry := rGPair_lawful.keep ry k5 (fun b hb h => by have := (HD.out b h).1; omega)
          replace MB := MB.keep k5 (fun b hb h => (HD.out b h).2 hb)
          have hs5 := k5.size
          have HDa : Hid (∀ b, Oa2 b → ga ≤ b ∧ ¬ Ob b) := fun b hb => by
            rcases hOa b hb with h | h
            · exact HD.out b h
            · exact ⟨by omega, fun h2 => by have := hMBl b h2; omega⟩
          clear hOa k5 MA HD
          refine wpAnyH_ready (rs := [10]) (by kernel_rfl) (by simp) ?_
          refine AllReadyH.cons rfl (fun K hK => ?_) AllReadyH.nil
          go_simp
          go_fit (may_c x _ w5 rx)
          rintro e w6 ⟨rfl, k6⟩
          go_wp2_with fail
          have hb5 : b < w5.heap.size := by omega
          refine hK.out _ _ (⟨(k6.cell hb5 id).trans hHeld.1, (k6.cell hb5 id).trans hHeld.2.1, (k6.cell hb5 id).trans hHeld.2.2.1, (k6.cell hb5 id).trans hHeld.2.2.2.1, (k6.cell hb5 id).trans hHeld.2.2.2.2.1, (k6.cell hb5 id).trans hHeld.2.2.2.2.2⟩) (fun hHeld => ?_)
          clear hK K
          (try simp only [Act.put]); (try simp only [List.getElem_toArray]); (try simp only [List.getElem_cons_succ]); (try simp only [List.getElem_cons_zero]); (try simp only [List.setIfInBounds_toArray]); (try simp only [List.set_cons_succ]); (try simp only [List.set_cons_zero])
          have kk6 := kk5.trans k6
          replace ry := rGPair_lawful.nix ry k6
          replace MA2 := MA2.nix k6
          replace MB := MB.nix k6
          have hs6 := k6.size
          clear rx k6 kk5 kk
          have HNE : (mayF x != mayF x) = false := by simp
          refine wpAnyH_take (i := 11) (v := ?_) rfl (by kernel_rfl) (by kernel_rfl) (by kernel_rfl) (fun _ _ _ h => h) (Or.inl ⟨by kernel_rfl, ?_⟩) hHeld ?_
          rotate_left
          · intro w' hSw
            (try dsimp only at hSw)
            (try simp only [List.getElem_toArray]); (try simp only [List.getElem_cons_succ]); (try simp only [List.getElem_cons_zero])
            go_simp
            try with_reducible rfl
          (try simp only [Act.put]); (try simp only [List.getElem_toArray]); (try simp only [List.getElem_cons_succ]); (try simp only [List.getElem_cons_zero]); (try simp only [List.setIfInBounds_toArray]); (try simp only [List.set_cons_succ]); (try simp only [List.set_cons_zero])
          refine wpAnyH_take (i := 12) (v := ?_) rfl (by kernel_rfl) (by kernel_rfl) (by kernel_rfl) (fun _ _ _ h => h) (Or.inl ⟨by kernel_rfl, ?_⟩) hHeld ?_
          rotate_left
          · intro w' hSw
            (try dsimp only at hSw)
            (try simp only [List.getElem_toArray]); (try simp only [List.getElem_cons_succ]); (try simp only [List.getElem_cons_zero])
            go_simp
            try with_reducible rfl
          (try simp only [Act.put]); (try simp only [List.getElem_toArray]); (try simp only [List.getElem_cons_succ]); (try simp only [List.getElem_cons_zero]); (try simp only [List.setIfInBounds_toArray]); (try simp only [List.set_cons_succ]); (try simp only [List.set_cons_zero])
          refine wpAnyH_take (i := 13) (v := ?_) rfl (by kernel_rfl) (by kernel_rfl) (by kernel_rfl) (fun _ _ _ h => h) (Or.inl ⟨by kernel_rfl, ?_⟩) hHeld ?_
          rotate_left
          · intro w' hSw
            (try dsimp only at hSw)
            (try simp only [List.getElem_toArray]); (try simp only [List.getElem_cons_succ]); (try simp only [List.getElem_cons_zero])
            go_simp
            try with_reducible rfl
          (try simp only [Act.put]); (try simp only [List.getElem_toArray]); (try simp only [List.getElem_cons_succ]); (try simp only [List.getElem_cons_zero]); (try simp only [List.setIfInBounds_toArray]); (try simp only [List.set_cons_succ]); (try simp only [List.set_cons_zero])
          refine wpAnyH_take (i := 14) (v := ?_) rfl (by kernel_rfl) (by kernel_rfl) (by kernel_rfl) (fun _ _ _ h => h) (Or.inl ⟨by kernel_rfl, ?_⟩) hHeld ?_
          rotate_left
          · intro w' hSw
            (try dsimp only at hSw)
            (try simp only [List.getElem_toArray]); (try simp only [List.getElem_cons_succ]); (try simp only [List.getElem_cons_zero])
            go_simp
            try with_reducible rfl
          (try simp only [Act.put]); (try simp only [List.getElem_toArray]); (try simp only [List.getElem_cons_succ]); (try simp only [List.getElem_cons_zero]); (try simp only [List.setIfInBounds_toArray]); (try simp only [List.set_cons_succ]); (try simp only [List.set_cons_zero])
          refine wpAnyH_take (i := 15) (v := ?_) rfl (by kernel_rfl) (by kernel_rfl) (by kernel_rfl) (fun _ _ _ h => h) (Or.inl ⟨by kernel_rfl, ?_⟩) hHeld ?_
          rotate_left
          · intro w' hSw
            (try dsimp only at hSw)
            (try simp only [List.getElem_toArray]); (try simp only [List.getElem_cons_succ]); (try simp only [List.getElem_cons_zero])
            go_simp
            try with_reducible rfl
          (try simp only [Act.put]); (try simp only [List.getElem_toArray]); (try simp only [List.getElem_cons_succ]); (try simp only [List.getElem_cons_zero]); (try simp only [List.setIfInBounds_toArray]); (try simp only [List.set_cons_succ]); (try simp only [List.set_cons_zero])
          refine wpAnyH_take (i := 16) (v := ?_) rfl (by kernel_rfl) (by kernel_rfl) (by kernel_rfl) (fun _ _ _ h => h) (Or.inl ⟨by kernel_rfl, ?_⟩) hHeld ?_
          rotate_left
          · intro w' hSw
            (try dsimp only at hSw)
            (try simp only [List.getElem_toArray]); (try simp only [List.getElem_cons_succ]); (try simp only [List.getElem_cons_zero])
            go_simp
            try with_reducible rfl
          (try simp only [Act.put]); (try simp only [List.getElem_toArray]); (try simp only [List.getElem_cons_succ]); (try simp only [List.getElem_cons_zero]); (try simp only [List.setIfInBounds_toArray]); (try simp only [List.set_cons_succ]); (try simp only [List.set_cons_zero])
          refine wpAnyH_take (i := 17) (v := ?_) rfl (by kernel_rfl) (by kernel_rfl) (by kernel_rfl) (fun _ _ _ h => h) (Or.inl ⟨by kernel_rfl, ?_⟩) hHeld ?_
          rotate_left
          · intro w' hSw
            (try dsimp only at hSw)
            (try simp only [List.getElem_toArray]); (try simp only [List.getElem_cons_succ]); (try simp only [List.getElem_cons_zero])
            go_simp
            try with_reducible rfl
          (try simp only [Act.put]); (try simp only [List.getElem_toArray]); (try simp only [List.getElem_cons_succ]); (try simp only [List.getElem_cons_zero]); (try simp only [List.setIfInBounds_toArray]); (try simp only [List.set_cons_succ]); (try simp only [List.set_cons_zero])
          refine wpAnyH_take (i := 19) (v := ?_) rfl (by kernel_rfl) (by kernel_rfl) (by kernel_rfl) (fun _ _ _ h => h) (Or.inl ⟨by kernel_rfl, ?_⟩) hHeld ?_
          rotate_left
          · intro w' hSw
            (try dsimp only at hSw)
            (try simp only [List.getElem_toArray]); (try simp only [List.getElem_cons_succ]); (try simp only [List.getElem_cons_zero])
            go_simp
            try with_reducible rfl
          (try simp only [Act.put]); (try simp only [List.getElem_toArray]); (try simp only [List.getElem_cons_succ]); (try simp only [List.getElem_cons_zero]); (try simp only [List.setIfInBounds_toArray]); (try simp only [List.set_cons_succ]); (try simp only [List.set_cons_zero])
          refine wpAnyH_take (i := 20) (v := ?_) rfl (by kernel_rfl) (by kernel_rfl) (by kernel_rfl) (fun _ _ _ h => h) (Or.inl ⟨by kernel_rfl, ?_⟩) hHeld ?_
          rotate_left
          · intro w' hSw
            (try dsimp only at hSw)
            (try simp only [List.getElem_toArray]); (try simp only [List.getElem_cons_succ]); (try simp only [List.getElem_cons_zero])
            go_simp
            try with_reducible rfl
          (try simp only [Act.put]); (try simp only [List.getElem_toArray]); (try simp only [List.getElem_cons_succ]); (try simp only [List.getElem_cons_zero]); (try simp only [List.setIfInBounds_toArray]); (try simp only [List.set_cons_succ]); (try simp only [List.set_cons_zero])
          refine wpAnyH_take (i := 21) (v := ?_) rfl (by kernel_rfl) (by kernel_rfl) (by kernel_rfl) (fun _ _ _ h => h) (Or.inl ⟨by kernel_rfl, ?_⟩) hHeld ?_
          rotate_left
          · intro w' hSw
            (try dsimp only at hSw)
            (try simp only [List.getElem_toArray]); (try simp only [List.getElem_cons_succ]); (try simp only [List.getElem_cons_zero])
            go_simp
            try with_reducible rfl
          (try simp only [Act.put]); (try simp only [List.getElem_toArray]); (try simp only [List.getElem_cons_succ]); (try simp only [List.getElem_cons_zero]); (try simp only [List.setIfInBounds_toArray]); (try simp only [List.set_cons_succ]); (try simp only [List.set_cons_zero])
          refine wpAnyH_take (i := 22) (v := ?_) rfl (by kernel_rfl) (by kernel_rfl) (by kernel_rfl) (fun _ _ _ h => h) (Or.inl ⟨by kernel_rfl, ?_⟩) hHeld ?_
          rotate_left
          · intro w' hSw
            (try dsimp only at hSw)
            (try simp only [List.getElem_toArray]); (try simp only [List.getElem_cons_succ]); (try simp only [List.getElem_cons_zero])
            go_simp
            try with_reducible rfl
          (try simp only [Act.put]); (try simp only [List.getElem_toArray]); (try simp only [List.getElem_cons_succ]); (try simp only [List.getElem_cons_zero]); (try simp only [List.setIfInBounds_toArray]); (try simp only [List.set_cons_succ]); (try simp only [List.set_cons_zero])
          have hMAl := MA2.lt
          have HNB : lb.length ≤ 100000 := hNA.2
          refine wpAnyH_ready (rs := [18]) (by kernel_rfl) (by simp) ?_
          refine AllReadyH.cons rfl (fun K hK => ?_) AllReadyH.nil
          rw [if_pos (by kernel_rfl)]
          go_simp
          go_fit (put_m Ob gb lb y _ w6 MB HNB ry)
          rintro e w7 ⟨rfl, Ob2, MB2, hOb, k7⟩
          go_wp2_with fail
          have hnB6 : ¬ Ob b := hnB
          have hb6 : b < w6.heap.size := by omega
          refine hK.out _ _ (⟨(k7.cell hb6 hnB6).trans hHeld.1, (k7.cell hb6 hnB6).trans hHeld.2.1, (k7.cell hb6 hnB6).trans hHeld.2.2.1, (k7.cell hb6 hnB6).trans hHeld.2.2.2.1, (k7.cell hb6 hnB6).trans hHeld.2.2.2.2.1, (k7.cell hb6 hnB6).trans hHeld.2.2.2.2.2⟩) (fun hHeld => ?_)
          clear hK K
          (try simp only [Act.put]); (try simp only [List.getElem_toArray]); (try simp only [List.getElem_cons_succ]); (try simp only [List.getElem_cons_zero]); (try simp only [List.setIfInBounds_toArray]); (try simp only [List.set_cons_succ]); (try simp only [List.set_cons_zero])
          have kk7 := kk6.then k7 (fun i hi h => by have := HO.out i h; omega)
          replace ry := rGPair_lawful.keep ry k7 (fun b hb h => by have := HO.out b h; omega)
          replace MA2 := MA2.keep k7 (fun b hb h => (HDa.out b hb).2 h)
          have hs7 := k7.size
          have HDb : Hid (∀ b, Oa2 b → ga ≤ b ∧ ¬ Ob2 b) := fun b hb => ⟨(HDa.out b hb).1, fun h2 => by
            rcases hOb b h2 with h | h
            · exact (HDa.out b hb).2 h
            · have := hMAl b hb; omega⟩
          have HOb : Hid (∀ b, Ob2 b → ga ≤ b) := fun b hb => by
            rcases hOb b hb with h | h
            · exact HO.out b h
            · have := hge.out; omega
          have HNB : Hid ((mayPut la x).length ≤ i + 1 ∧ (mayPut lb y).length ≤ i + 1) := by
            have h1 := len_mayPut la x
            have h2 := len_mayPut lb y
            have := HN.out
            exact ⟨by omega, by omega⟩
          clear hOb k7 MB HDa HO kk6 HN hnB6 hnB
          refine wpAnyH_ready (rs := [23]) (by kernel_rfl) (by simp) ?_
          refine AllReadyH.cons rfl (fun K hK => ?_) AllReadyH.nil
          rw [if_pos (by kernel_rfl)]
          go_simp
          go_fit (may_c y _ w7 ry)
          rintro e w8 ⟨rfl, k8⟩
          go_wp2_with fail
          have hb7 : b < w7.heap.size := by omega
          refine hK.out _ _ (⟨(k8.cell hb7 id).trans hHeld.1, (k8.cell hb7 id).trans hHeld.2.1, (k8.cell hb7 id).trans hHeld.2.2.1, (k8.cell hb7 id).trans hHeld.2.2.2.1, (k8.cell hb7 id).trans hHeld.2.2.2.2.1, (k8.cell hb7 id).trans hHeld.2.2.2.2.2⟩) (fun hHeld => ?_)
          clear hK K
          (try simp only [Act.put]); (try simp only [List.getElem_toArray]); (try simp only [List.getElem_cons_succ]); (try simp only [List.getElem_cons_zero]); (try simp only [List.setIfInBounds_toArray]); (try simp only [List.set_cons_succ]); (try simp only [List.set_cons_zero])
          have kk8 := kk7.trans k8
          replace MA2 := MA2.nix k8
          replace MB2 := MB2.nix k8
          clear ry k8 kk7 hMAl hMBl
          have HNE2 : (mayF y != mayF y) = false := by simp
          refine wpAnyH_take (i := 24) (v := ?_) rfl (by kernel_rfl) (by kernel_rfl) (by kernel_rfl) (fun _ _ _ h => h) (Or.inl ⟨by kernel_rfl, ?_⟩) hHeld ?_
          rotate_left
          · intro w' hSw
            (try dsimp only at hSw)
            (try simp only [List.getElem_toArray]); (try simp only [List.getElem_cons_succ]); (try simp only [List.getElem_cons_zero])
            go_simp
            try with_reducible rfl
          (try simp only [Act.put]); (try simp only [List.getElem_toArray]); (try simp only [List.getElem_cons_succ]); (try simp only [List.getElem_cons_zero]); (try simp only [List.setIfInBounds_toArray]); (try simp only [List.set_cons_succ]); (try simp only [List.set_cons_zero])
          refine wpAnyH_take (i := 25) (v := ?_) rfl (by kernel_rfl) (by kernel_rfl) (by kernel_rfl) (fun _ _ _ h => h) (Or.inl ⟨by kernel_rfl, ?_⟩) hHeld ?_
          rotate_left
          · intro w' hSw
            (try dsimp only at hSw)
            (try simp only [List.getElem_toArray]); (try simp only [List.getElem_cons_succ]); (try simp only [List.getElem_cons_zero])
            go_simp
            try with_reducible rfl
          (try simp only [Act.put]); (try simp only [List.getElem_toArray]); (try simp only [List.getElem_cons_succ]); (try simp only [List.getElem_cons_zero]); (try simp only [List.setIfInBounds_toArray]); (try simp only [List.set_cons_succ]); (try simp only [List.set_cons_zero])
          refine wpAnyH_done (by kernel_rfl) ?_ _
          refine NoPanic.normal ?_
          clear hHeld HNE HNE2
          go_wp2_with fail
          go_roundw
          case rel => exact ⟨i + 1, Oa2, Ob2, _, _, by omega, by go_num, MA2, MB2, HDb, HOb, HA2, HB2, HNB, kk8⟩
          case measure => simp [intOf]; omega
        · obtain rfl : i = l.length := by omega
          have HEQ : Hid (la = lb) := rising_ext MA.rising MB.rising (fun x => by
            rw [HA.out, HB.out]
            constructor
            · rintro ⟨⟨q, h, h1, h2⟩, h3⟩
              obtain ⟨j, hj, e⟩ := turn_all h ht
              exact ⟨⟨q, h, ⟨j, hj, e⟩, h2⟩, h3⟩
            · rintro ⟨⟨q, h, h1, h2⟩, h3⟩
              exact ⟨⟨q, h, h, h2⟩, h3⟩)
          have hNA : la.length ≤ 80 ∧ lb.length ≤ 80 := by have := HN.out; omega
          clear HA HB HN HAP HL f1 f2 f3 f4 hlt
          obtain rfl := HEQ.out
          have hMB1 := MB.lt
          have hMA1 := MA.lt
          go_upto_region 19 with fail
          have k9 : Keep Nix wr ((wr.alloc (.cells #[.slice none 0 0] 22)).alloc (.cells #[.slice none 0 0] 22)) := ((Keep.refl Nix wr).alloc _).alloc _
          have rX : RowIs ((wr.alloc (.cells #[.slice none 0 0] 22)).alloc (.cells #[.slice none 0 0] 22)) wr.heap.size 22 [.slice none 0 0] := (RowIs.alloc wr _ _).keep ((Keep.refl Nix _).alloc _) id
          have rY : RowIs ((wr.alloc (.cells #[.slice none 0 0] 22)).alloc (.cells #[.slice none 0 0] 22)) (wr.heap.size + 1) 22 [.slice none 0 0] := by
            have h := RowIs.alloc (wr.alloc (.cells #[.slice none 0 0] 22)) #[.slice none 0 0] 22
            simpa using h
          have hs9 : (((wr.alloc (.cells #[.slice none 0 0] 22)).alloc (.cells #[.slice none 0 0] 22))).heap.size = wr.heap.size + 2 := by simp
          replace MA := MA.nix k9
          replace MB := MB.nix k9
          replace kk := kk.trans k9
          have hWr : W.heap.size ≤ wr.heap.size := by have := MA.og; have := hMA1 _ this; have := hge.out; omega
          have HS9 := Lib.hid hs9
          clear k9 hs9
          generalize ((wr.alloc (.cells #[.slice none 0 0] 22)).alloc (.cells #[.slice none 0 0] 22)) = w9 at *
          generalize wr.heap.size = cx at *
          go_wp2_with fail
          go_fit (scan_m Oa ga la ⟨[], []⟩ [.slice none 0 0, .slice none 0 0] false w9 MA (by omega) (span0 w9))
          rintro e wa ⟨g, rfl, HT, ka⟩
          rw [scanF_all] at HT
          replace MA := MA.nix ka
          replace MB := MB.nix ka
          replace kk := kk.trans ka
          replace rX := rX.keep ka id
          replace rY := rY.keep ka id
          have hsa := ka.size
          clear ka
          go_wp2_with fail
          have hcx : cx < wa.heap.size := by have := HS9.out; omega
          have hcx9 : cx + 2 ≤ w9.heap.size := by have := HS9.out; omega
          refine range_tells (xs := la) rfl (enters_of Try.func37 (by kernel_rfl) rfl) HT (Nat.le_refl _) (fun k W => AppI wa.heap.size cx wa la k W) (fun _ _ => False) (fun k A B h kk => appI_keep h kk rfl hcx) (fun _ _ _ h _ => h) (appI_start rX) ?round ?done (fun _ _ h => h.elim)
          case round =>
            clear MA MB kk HT rX rY
            rintro k hk cn W HI hsz hcn
            obtain ⟨ar, cr, css, rowR, ownR, elsR, kR⟩ := HI
            have hcn0 := hcn
            obtain ⟨x, hx⟩ : ∃ x, la[k] = x := ⟨_, rfl⟩
            rw [hx] at hcn
            have HX := Lib.hid hx
            have HCN := Lib.hid hcn0
            obtain ⟨aK, cK, aV, cV, rfl, -, -, -, -, -, -⟩ := hcn
            clear hcn0 hx
            refine region_in (by kernel_rfl) (fun _ _ h => h) ?_
            have kP : Keep Nix W (W.alloc (.cells #[.slice aK x.fKey.length cK, .slice aV x.fValue.length cV, .int .i64 x.fVersion] 29)) := (Keep.refl Nix W).alloc _
            have rowP := RowIs.alloc W #[.slice aK x.fKey.length cK, .slice aV x.fValue.length cV, .int .i64 x.fVersion] 29
            go_wp2_with fail
            refine ⟨kP.nix, fun W2 k2 hs2 => ?_⟩
            have hsP := kP.size
            have kB : Keep (Book wa.heap.size) W W2 := kP.nix.trans (k2.mono (fun b hb => .inr hb))
            have hs2' := kB.size
            replace rowP := rowP.keep k2 (by omega)
            clear hs2
            have HI2 := appI_keep ⟨ar, cr, css, rowR, ownR, elsR, kR⟩ kB rfl hcx
            have HC2 : OwnP W2 (wa.heap.size + 2) _ la[k] := OwnP.keepB HCN.out kB
            clear HCN rowR ownR elsR kR kP hsP css ar cr
            obtain ⟨ar, cr, css, rowR, ownR, elsR, kR⟩ := HI2
            have HROW := Lib.hid rowR
            have HOWN := Lib.hid ownR
            have HELS := Lib.hid elsR
            have HKR := Lib.hid kR
            have HC3 := Lib.hid HC2
            clear HC2 elsR
            have r0 := rowR.cell 0
            have rf := rowR.frozen 0
            (try simp only [List.getElem?_cons_zero] at r0)
            have p0 := rowP.cell 0
            (try simp only [List.getElem?_cons_zero] at p0)
            have p1 := rowP.cell 1
            (try simp only [List.getElem?_cons_succ] at p1); (try simp only [List.getElem?_cons_zero] at p1)
            have p2 := rowP.cell 2
            (try simp only [List.getElem?_cons_succ] at p2); (try simp only [List.getElem?_cons_zero] at p2)
            clear rowP rowR kR k2 kB
            refine wpIn_block (region_in (by kernel_rfl) (fun _ _ h => h) ?_)
            go_wp2_with (at_builtin; refine wpl_append1_at (c := 1) T_lPair ?hgd (.tmp 108) (.tmp 110) ?ho (wa.heap.size + 2) ?hs ownR ?hx ?c0 ?c1 ?c2 ?c3 ?c4 ?_)
            case hgd => rfl
            case ho => rfl
            case hs => rfl
            case hx => rfl
            case c0 => rfl
            case c1 => simp [Value.oneCell']
            case c2 => unfold maxLen; omega
            case c3 => omega
            case c4 => omega
            intro a' cap' w6 own6 k6 hfresh
            have r0' := (HROW.out.keep k6 (fun h => by have := (ownR.lt _ h).1; omega))
            have q0 := r0'.cell 0
            (try simp only [List.getElem?_cons_zero] at q0)
            have qf := r0'.frozen 0
            have HF := Lib.hid (appI_step hk HOWN.out HELS.out HKR.out HROW.out HC3.out own6 k6 hfresh rfl hcx)
            have hkF : Keep (Free wa.heap.size w9.heap.size wa.heap.size) W2 w6 := k6.mono (fun b hb => by have := (ownR.lt b hb).1; exact ⟨by omega, by omega, by omega⟩)
            clear p0 p1 p2 r0 rf HROW HOWN HELS HKR HC3 own6 k6 hfresh ownR r0'
            go_wp2_with fail
            exact ⟨hkF.setCell (p := ⟨cx, 0, none⟩) (fun _ => (show Free _ _ _ (cx) from ⟨by omega, by omega, by omega⟩)) _, HF.out⟩
          case done =>
            intro Wb HI hK
            have hDa : wa.heap.size < Wb.heap.size := (Array.getElem?_eq_some_iff.1 hK).1
            obtain ⟨ax, cX, cssX, rowX, ownX, elsX, kX⟩ := HI
            rw [List.take_length] at elsX
            replace MA := MA.keep kX (fun b hb e => by have := hMA1 b hb; omega)
            replace MB := MB.keep kX (fun b hb e => by have := hMB1 b hb; omega)
            replace kk := kk.then kX (fun i hi e => by omega)
            replace rY := rY.keep kX (by omega)
            have hsX := kX.size
            clear kX HT rX
            go_wp2_with fail
            go_fit (scan_m Ob gb la ⟨[], []⟩ [.slice none 0 0, .slice none 0 0] false Wb MB (by omega) (span0 Wb))
            rintro e wc ⟨g2, rfl, HT, kc⟩
            rw [scanF_all] at HT
            replace MA := MA.nix kc
            replace MB := MB.nix kc
            replace kk := kk.trans kc
            replace rowX := rowX.keep kc id
            replace rY := rY.keep kc id
            replace ownX := owned_keep ownX kc (fun _ _ h => h)
            have elsX2 := elsX.keep rGPair_lawful kc (fun _ _ h => h)
            replace hK := (kc.block wa.heap.size (Array.getElem?_eq_some_iff.1 hK).1 id).trans hK
            have hsc := kc.size
            clear kc elsX
            go_wp2_with fail
            have hcy : cx + 1 < wc.heap.size := by omega
            have hcy9 : cx + 2 ≤ Wb.heap.size := by omega
            refine range_tells (xs := la) rfl (enters_of Try.func37 (by kernel_rfl) rfl) HT (Nat.le_refl _) (fun k W => AppI wc.heap.size (cx + 1) wc la k W) (fun _ _ => False) (fun k A B h kk => appI_keep h kk rfl hcy) (fun _ _ _ h _ => h) (appI_start rY) ?round ?done (fun _ _ h => h.elim)
            case round =>
              clear MA MB kk HT rowX rY ownX elsX2 hK
              rintro k hk cn W HI hsz hcn
              obtain ⟨ar, cr, css, rowR, ownR, elsR, kR⟩ := HI
              have hcn0 := hcn
              obtain ⟨x, hx⟩ : ∃ x, la[k] = x := ⟨_, rfl⟩
              rw [hx] at hcn
              have HX := Lib.hid hx
              have HCN := Lib.hid hcn0
              obtain ⟨aK, cK, aV, cV, rfl, -, -, -, -, -, -⟩ := hcn
              clear hcn0 hx
              refine region_in (by kernel_rfl) (fun _ _ h => h) ?_
              have kP : Keep Nix W (W.alloc (.cells #[.slice aK x.fKey.length cK, .slice aV x.fValue.length cV, .int .i64 x.fVersion] 29)) := (Keep.refl Nix W).alloc _
              have rowP := RowIs.alloc W #[.slice aK x.fKey.length cK, .slice aV x.fValue.length cV, .int .i64 x.fVersion] 29
              go_wp2_with fail
              refine ⟨kP.nix, fun W2 k2 hs2 => ?_⟩
              have hsP := kP.size
              have kB : Keep (Book wc.heap.size) W W2 := kP.nix.trans (k2.mono (fun b hb => .inr hb))
              have hs2' := kB.size
              replace rowP := rowP.keep k2 (by omega)
              clear hs2
              have HI2 := appI_keep ⟨ar, cr, css, rowR, ownR, elsR, kR⟩ kB rfl hcy
              have HC2 : OwnP W2 (wc.heap.size + 2) _ la[k] := OwnP.keepB HCN.out kB
              clear HCN rowR ownR elsR kR kP hsP css ar cr
              obtain ⟨ar, cr, css, rowR, ownR, elsR, kR⟩ := HI2
              have HROW := Lib.hid rowR
              have HOWN := Lib.hid ownR
              have HELS := Lib.hid elsR
              have HKR := Lib.hid kR
              have HC3 := Lib.hid HC2
              clear HC2 elsR
              have r0 := rowR.cell 0
              have rf := rowR.frozen 0
              (try simp only [List.getElem?_cons_zero] at r0)
              have p0 := rowP.cell 0
              (try simp only [List.getElem?_cons_zero] at p0)
              have p1 := rowP.cell 1
              (try simp only [List.getElem?_cons_succ] at p1); (try simp only [List.getElem?_cons_zero] at p1)
              have p2 := rowP.cell 2
              (try simp only [List.getElem?_cons_succ] at p2); (try simp only [List.getElem?_cons_zero] at p2)
              clear rowP rowR kR k2 kB
              refine wpIn_block (region_in (by kernel_rfl) (fun _ _ h => h) ?_)
              go_wp2_with (at_builtin; refine wpl_append1_at (c := 1) T_lPair ?hgd (.tmp 116) (.tmp 118) ?ho (wc.heap.size + 2) ?hs ownR ?hx ?c0 ?c1 ?c2 ?c3 ?c4 ?_)
              case hgd => rfl
              case ho => rfl
              case hs => rfl
              case hx => rfl
              case c0 => rfl
              case c1 => simp [Value.oneCell']
              case c2 => unfold maxLen; omega
              case c3 => omega
              case c4 => omega
              intro a' cap' w6 own6 k6 hfresh
              have r0' := (HROW.out.keep k6 (fun h => by have := (ownR.lt _ h).1; omega))
              have q0 := r0'.cell 0
              (try simp only [List.getElem?_cons_zero] at q0)
              have qf := r0'.frozen 0
              have HF := Lib.hid (appI_step hk HOWN.out HELS.out HKR.out HROW.out HC3.out own6 k6 hfresh rfl hcy)
              have hkF : Keep (Free wc.heap.size Wb.heap.size wc.heap.size) W2 w6 := k6.mono (fun b hb => by have := (ownR.lt b hb).1; exact ⟨by omega, by omega, by omega⟩)
              clear p0 p1 p2 r0 rf HROW HOWN HELS HKR HC3 own6 k6 hfresh ownR r0'
              go_wp2_with fail
              exact ⟨hkF.setCell (p := ⟨(cx + 1), 0, none⟩) (fun _ => (show Free _ _ _ ((cx + 1)) from ⟨by omega, by omega, by omega⟩)) _, HF.out⟩
            case done =>
              intro Wd HI hK2
              obtain ⟨ay, cY, cssY, rowY, ownY, elsY, kY⟩ := HI
              rw [List.take_length] at elsY
              replace MA := MA.keep kY (fun b hb e => by have := hMA1 b hb; omega)
              replace MB := MB.keep kY (fun b hb e => by have := hMB1 b hb; omega)
              replace kk := kk.then kY (fun i hi e => by omega)
              replace rowX := rowX.keep kY (by omega)
              replace ownX := owned_keep ownX kY (fun b hb e => by have := (ownX.lt b hb).1; omega)
              replace elsX2 := elsX2.keep rGPair_lawful kY (fun b hb e => by have := hb.1.1; omega)
              replace hK := (kY.block wa.heap.size (Array.getElem?_eq_some_iff.1 hK).1 (by omega)).trans hK
              clear kY HT rY
              have hfl : la.length ≤ far := by unfold far; omega
              have LX : rList rGPair Wd (fun _ => True) [.slice ax la.length cX] la := ⟨ax, cX, cssX, rfl, elsX2.1, (Lies.of_owned ownX).mono (fun _ _ => trivial), (owned_bounds ownX).2.1, hfl, fun i d y hd hy => rGPair_lawful.mono (elsX2.2 i d y hd hy) (fun _ _ => trivial)⟩
              have LY : rList rGPair Wd (fun _ => True) [.slice ay la.length cY] la := ⟨ay, cY, cssY, rfl, elsY.1, (Lies.of_owned ownY).mono (fun _ _ => trivial), (owned_bounds ownY).2.1, hfl, fun i d y hd hy => rGPair_lawful.mono (elsY.2 i d y hd hy) (fun _ _ => trivial)⟩
              clear ownX ownY elsX2 elsY hMA1 hMB1
              go_wp2_with fail
              go_fit (len_m Oa ga la Wd MA (by omega))
              rintro e we ⟨rfl, k1⟩
              go_wp2_with fail
              go_fit (len_m Ob gb la we (MB.nix k1) (by omega))
              rintro e wf ⟨rfl, k2⟩
              have k3 := k1.trans k2
              have LX3 := (rList_lawful rGPair_lawful).nix LX k3
              have LY3 := (rList_lawful rGPair_lawful).nix LY k3
              have x0 := (rowX.keep k3 id).cell 0
              have y0 := (rowY.keep k3 id).cell 0
              (try simp only [List.getElem?_cons_zero] at x0 y0)
              have HS := sm_Pair wf la ax ay la.length cX la.length cY LX3 LY3
              clear LX LY LX3 LY3 rowX rowY MA MB k1 k2
              go_wp2_with fail
              go_fit HS
              rintro e wg ⟨rfl, k4⟩
              clear HS x0 y0
              have k5 := k3.trans k4
              have hKa := (k5.block wa.heap.size (Array.getElem?_eq_some_iff.1 hK).1 id).trans hK
              have hKb := (k5.block wc.heap.size (Array.getElem?_eq_some_iff.1 hK2).1 id).trans hK2
              have kk6 := kk.trans k5
              have hg1 := grownBy_putObj' wg wc.heap.size (.deferred none)
              have hKa2 : (wg.putObj wc.heap.size (.deferred none)).heap[wa.heap.size]? = some (.deferred (some [])) := ((Keep.put wg wc.heap.size (.deferred none)).block _ (Array.getElem?_eq_some_iff.1 hKa).1 (by omega)).trans hKa
              have hW1 : W.heap.size ≤ wa.heap.size := by omega
              go_wp2_with fail
              refine ⟨by simp, .inl ⟨_, _, rfl, run_takeDeferred hKb, by simp, .inl ⟨_, _, rfl, run_takeDeferred hKa2, ?_⟩⟩⟩
              refine ⟨_, results_tmp rfl _ _ _, rfl, ?_⟩
              exact (kk6.grown hg1 (fun i e hi => by cases e; omega)).grown (grownBy_putObj' _ _ _) (fun i e hi => by cases e; omega)
namespace pagesOrder
theorem walk {m0 m1 : Nat} (W : World) (v0 v1 : Value) (h0 : Arg Try.prog W m0 22 v0) (h1 : Arg Try.prog W m1 3 v1) :
    Calls Try.prog 3 #[v0, v1] W fun e w' => e = .returned (.bool true) ∧ Keep Nix W w' := by
  obtain ⟨tn, rfl, -⟩ := h1.int Try.underlying3
  obtain ⟨a, n, cap, rfl, h3⟩ := h0.slice Try.underlying22
  obtain ⟨l, hl, -⟩ := h3.toList (R := rGPair) (sz := 3) (by' := 56) (fun x : GPair => x.size) Try.underlying22 (by kernel_rfl) (by kernel_rfl) (by decide) (by decide) (fun h => redGPair h)
  obtain ⟨rfl, -, -⟩ := rList_len hl
  exact order_walk W a cap l tn hl
end pagesOrder
end Go.Proofs.Ythkocgpbpgfocaa
