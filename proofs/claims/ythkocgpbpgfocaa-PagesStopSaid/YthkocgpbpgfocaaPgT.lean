/- PAGES: slices.Reverse at pairs. Printed by mac.py. -/
import Derived.Test.YthkocgpbpgfocaaPgS
import Derived.BigRegion
namespace Go.Proofs.Ythkocgpbpgfocaa
open Go.RowKit

theorem flat_len3 : ∀ {l : List (List Value)}, (∀ c ∈ l, c.length = 3) → l.flatten.length = l.length * 3
  | [], _ => rfl
  | a :: l, h => by rw [List.flatten_cons, List.length_append, h a (by simp), flat_len3 (fun c hc => h c (by simp [hc])), List.length_cons]; omega
theorem flat_cell {css : List (List Value)} (h : ∀ c ∈ css, c.length = 3) {i : Nat} (hi : i < css.length) {u0 u1 u2 : Value} (e : css[i] = [u0, u1, u2]) : css.flatten[i * 3]? = some u0 ∧ css.flatten[i * 3 + 1]? = some u1 ∧ css.flatten[i * 3 + 2]? = some u2 := by
  have e1 : css.flatten = css.flatten.take (i * 3) ++ ([u0, u1, u2] ++ css.flatten.drop (i * 3 + 3)) := by
    have h2 := flat_set h hi css[i]
    rw [List.set_getElem_self, e] at h2
    rw [← List.append_assoc]
    exact h2
  have e2 : (css.flatten.take (i * 3)).length = i * 3 := by rw [List.length_take, flat_len3 h]; omega
  rw [e1]
  refine ⟨?_, ?_, ?_⟩
  · rw [List.getElem?_append_right (by omega), e2, Nat.sub_self]; rfl
  · rw [List.getElem?_append_right (by omega), e2, Nat.add_sub_cancel_left]; rfl
  · rw [List.getElem?_append_right (by omega), e2, Nat.add_sub_cancel_left]; rfl
/-- What stands where, when i exchanges have been made from the two ends inward. -/
def RevAt (css cur : List (List Value)) (i : Nat) : Prop := cur.length = css.length ∧ ∀ q, cur[q]? = if q < css.length ∧ (q < i ∨ css.length ≤ q + i) then css[css.length - 1 - q]? else css[q]?
theorem RevAt.start (css : List (List Value)) : RevAt css css 0 := ⟨rfl, fun q => by rw [if_neg (by omega)]⟩
theorem RevAt.last {css cur : List (List Value)} {i : Nat} (h : RevAt css cur i) (hi : css.length ≤ i + i + 1) : cur = css.reverse := by
  apply List.ext_getElem?
  intro q
  rw [h.2 q]
  by_cases hq : q < css.length
  · rw [List.getElem?_reverse hq]
    by_cases h1 : q < i ∨ css.length ≤ q + i
    · rw [if_pos ⟨hq, h1⟩]
    · rw [if_neg (fun h => h1 h.2), show css.length - 1 - q = q by omega]
  · rw [if_neg (fun h => hq h.1), List.getElem?_eq_none (by omega), List.getElem?_eq_none (by rw [List.length_reverse]; omega)]
theorem RevAt.step {css cur : List (List Value)} {i : Nat} (h : RevAt css cur i) (hi : i + i + 1 < css.length) (h1 : i < cur.length) (h2 : css.length - 1 - i < cur.length) : RevAt css ((cur.set i cur[css.length - 1 - i]).set (css.length - 1 - i) cur[i]) (i + 1) := by
  refine ⟨by rw [List.length_set, List.length_set, h.1], fun q => ?_⟩
  have e1 : some cur[css.length - 1 - i] = css[css.length - 1 - i]? := by rw [← List.getElem?_eq_getElem, h.2, if_neg (by omega)]
  have e2 : some cur[i] = css[i]? := by rw [← List.getElem?_eq_getElem, h.2, if_neg (by omega)]
  rw [List.getElem?_set]
  by_cases hq : css.length - 1 - i = q
  · subst hq
    rw [if_pos rfl, if_pos (by rw [List.length_set]; exact h2), if_pos (by omega), e2]
    congr 1; omega
  · rw [if_neg hq, List.getElem?_set]
    by_cases hq2 : i = q
    · subst hq2
      rw [if_pos rfl, if_pos h1, if_pos (by omega), e1]
    · rw [if_neg hq2, h.2 q]
      by_cases hq3 : q < css.length ∧ (q < i ∨ css.length ≤ q + i)
      · rw [if_pos hq3, if_pos (by omega)]
      · rw [if_neg hq3, if_neg (by omega)]
theorem RevAt.len3 {css cur : List (List Value)} {i : Nat} (h : RevAt css cur i) (h3 : ∀ c ∈ css, c.length = 3) : ∀ c ∈ cur, c.length = 3 := by
  intro c hc
  obtain ⟨q, hq, rfl⟩ := List.mem_iff_getElem.1 hc
  have e := h.2 q
  rw [List.getElem?_eq_getElem hq] at e
  split at e
  · obtain ⟨_, e2⟩ := List.getElem?_eq_some_iff.1 e.symm
    rw [← e2]; exact h3 _ (List.getElem_mem _)
  · obtain ⟨_, e2⟩ := List.getElem?_eq_some_iff.1 e.symm
    rw [← e2]; exact h3 _ (List.getElem_mem _)
def PairC (d : List Value) : Prop := ∃ (aK aV : Option Addr) (nK cK nV cV : Nat) (z : Int), d = [.slice aK nK cK, .slice aV nV cV, .int .i64 z]
theorem RevAt.mem {css cur : List (List Value)} {i : Nat} (h : RevAt css cur i) {c : List Value} (hc : c ∈ cur) : c ∈ css := by
  obtain ⟨q, hq, rfl⟩ := List.mem_iff_getElem.1 hc
  have e := h.2 q
  rw [List.getElem?_eq_getElem hq] at e
  split at e
  · exact List.mem_of_getElem? e.symm
  · exact List.mem_of_getElem? e.symm
theorem row_set3 {w : World} {g e : Nat} {cur : List (List Value)} {rest : List Value} (row : RowIs w g e (cur.flatten ++ rest)) (h3 : ∀ c ∈ cur, c.length = 3) {i : Nat} (hi : i < cur.length) (v0 v1 v2 : Value) : RowIs (((w.setCell ⟨g, i * 3, none⟩ v0).setCell ⟨g, i * 3 + 1, none⟩ v1).setCell ⟨g, i * 3 + 2, none⟩ v2) g e ((cur.set i [v0, v1, v2]).flatten ++ rest) := by
  have hl := flat_len3 h3
  have h := ((row.set (i * 3) v0).set (i * 3 + 1) v1).set (i * 3 + 2) v2
  rw [set3_list _ _ _ (by rw [List.length_append]; omega), List.take_append_of_le_length (by omega), List.drop_append_of_le_length (by omega), ← List.append_assoc, ← flat_set h3 hi] at h
  exact h
theorem keep_set3 {w w' : World} {g : Nat} (k : Keep (· = g) w w') (i : Nat) (v0 v1 v2 : Value) : Keep (· = g) w (((w'.setCell ⟨g, i * 3, none⟩ v0).setCell ⟨g, i * 3 + 1, none⟩ v1).setCell ⟨g, i * 3 + 2, none⟩ v2) :=
  ((k.setCell (p := ⟨g, i * 3, none⟩) (fun _ => rfl) _).setCell (p := ⟨g, i * 3 + 1, none⟩) (fun _ => rfl) _).setCell (p := ⟨g, i * 3 + 2, none⟩) (fun _ => rfl) _
set_option maxRecDepth 100000 in
set_option maxHeartbeats 4000000 in
theorem rev_row (g n c : Nat) (css : List (List Value)) (rest : List Value) (w : World) (row : RowIs w g 29 (css.flatten ++ rest)) (hp : ∀ d ∈ css, PairC d) (hn : css.length = n) (hn2 : n ≤ 1000000) (h0 : 0 < n) :
    Calls Try.prog 36 #[.slice (some ⟨g, 0, none⟩) n c] w fun e w' => e = .returned (.tuple #[]) ∧ RowIs w' g 29 (css.reverse.flatten ++ rest) ∧ Keep (· = g) w w' := by
  have h3 : ∀ d ∈ css, d.length = 3 := fun d hd => by obtain ⟨_, _, _, _, _, _, _, rfl⟩ := hp d hd; rfl
  have HH3 := Lib.hid h3
  have HP := Lib.hid hp
  have HN := Lib.hid hn
  clear h3 hn hp
  go_enter Try.func36, Try.ntmps36
  go_wp2_with fail
  go_loopw [2, 3] (fun a b wr => ∃ (i : Nat) (cur : List (List Value)), a = .int .i64 i ∧ b = .int .i64 ((n : Int) - 1 - i) ∧ i + i ≤ n + 1 ∧ Hid (RevAt css cur i) ∧ RowIs wr g 29 (cur.flatten ++ rest) ∧ Keep (· = g) w wr) (fun a _ _ => n - (intOf a).toNat)
  case atStart => exact ⟨0, css, rfl, by simp, by omega, RevAt.start css, row, Keep.refl _ _⟩
  case round =>
    clear row
    obtain ⟨i, cur, rfl, rfl, hi, HR, row, kk⟩ := hrel
    by_cases hlt : i + i + 1 < n
    · have ht : (i : Int) < (n : Int) - 1 - i := by omega
      obtain ⟨j, hj⟩ : ∃ j : Nat, n - 1 - i = j := ⟨_, rfl⟩
      have hji : (n : Int) - 1 - i = (j : Int) := by omega
      have hcl : cur.length = n := HR.out.1.trans HN.out
      have hiC : i < cur.length := by omega
      have hjC : j < cur.length := by omega
      have hc3 := HR.out.len3 HH3.out
      obtain ⟨aK, aV, nK, cK, nV, cV, z, eu⟩ := HP.out _ (HR.out.mem (List.getElem_mem hiC))
      obtain ⟨bK, bV, mK, dK, mV, dV, y, ev⟩ := HP.out _ (HR.out.mem (List.getElem_mem hjC))
      have cu := flat_cell hc3 hiC eu
      have cv := flat_cell hc3 hjC ev
      have hfl := flat_len3 hc3
      rw [hji]
      rw [hji] at ht
      have hj0 : (0 : Int) ≤ (j : Int) := by omega
      have hj1 : (j : Int) < (n : Int) := by omega
      have hi0 : (0 : Int) ≤ (i : Int) := by omega
      have hi1 : (i : Int) < (n : Int) := by omega
      have HJI := Lib.hid hji
      clear hji
      go_wp2_with fail
      go_upto_region 3 with fail
      have kd : Keep Nix wr wr.drew := (Keep.refl Nix wr).drew
      replace row := row.keep kd id
      replace kk := kk.trans kd.nix
      refine wp_region_held_drew (S := (fun _ => True)) (by kernel_rfl) (trivial) (fun hHeld => ?_)
      generalize wr.drew = wd at *
      have cells : ∀ q u, cur.flatten[q]? = some u → wd.cell? ⟨g, q, none⟩ = some u := fun q u h => (row.cell q).trans (by rw [List.getElem?_append_left (List.getElem?_eq_some_iff.1 h).1]; exact h)
      have x0 := cells _ _ cu.1
      have x1 := cells _ _ cu.2.1
      have x2 := cells _ _ cu.2.2
      have y0 := cells _ _ cv.1
      have y1 := cells _ _ cv.2.1
      have y2 := cells _ _ cv.2.2
      have f0 := row.frozen (i * 3)
      have f1 := row.frozen (i * 3 + 1)
      have f2 := row.frozen (i * 3 + 2)
      have g0 := row.frozen (j * 3)
      have g1 := row.frozen (j * 3 + 1)
      have g2 := row.frozen (j * 3 + 2)
      clear cells cu cv
      refine wpAnyH_take (i := 0) (v := ?_) rfl (by kernel_rfl) (by kernel_rfl) (by kernel_rfl) (fun _ _ _ h => h) (Or.inl ⟨by kernel_rfl, ?_⟩) hHeld ?_
      rotate_left
      · intro w' hSw
        (try dsimp only at hSw)
        (try simp only [List.getElem_toArray]); (try simp only [List.getElem_cons_succ]); (try simp only [List.getElem_cons_zero])
        go_simp
        try with_reducible rfl
      (try simp only [Act.put]); (try simp only [List.getElem_toArray]); (try simp only [List.getElem_cons_succ]); (try simp only [List.getElem_cons_zero]); (try simp only [List.setIfInBounds_toArray]); (try simp only [List.set_cons_succ]); (try simp only [List.set_cons_zero])
      refine wpAnyH_take (i := 1) (v := ?_) rfl (by kernel_rfl) (by kernel_rfl) (by kernel_rfl) (fun _ _ _ h => h) (Or.inl ⟨by kernel_rfl, ?_⟩) hHeld ?_
      rotate_left
      · intro w' hSw
        (try dsimp only at hSw)
        (try simp only [List.getElem_toArray]); (try simp only [List.getElem_cons_succ]); (try simp only [List.getElem_cons_zero])
        go_simp
        try with_reducible rfl
      (try simp only [Act.put]); (try simp only [List.getElem_toArray]); (try simp only [List.getElem_cons_succ]); (try simp only [List.getElem_cons_zero]); (try simp only [List.setIfInBounds_toArray]); (try simp only [List.set_cons_succ]); (try simp only [List.set_cons_zero])
      refine wpAnyH_take (i := 2) (v := ?_) rfl (by kernel_rfl) (by kernel_rfl) (by kernel_rfl) (fun _ _ _ h => h) (Or.inl ⟨by kernel_rfl, ?_⟩) hHeld ?_
      rotate_left
      · intro w' hSw
        (try dsimp only at hSw)
        (try simp only [List.getElem_toArray]); (try simp only [List.getElem_cons_succ]); (try simp only [List.getElem_cons_zero])
        go_simp
        try with_reducible rfl
      (try simp only [Act.put]); (try simp only [List.getElem_toArray]); (try simp only [List.getElem_cons_succ]); (try simp only [List.getElem_cons_zero]); (try simp only [List.setIfInBounds_toArray]); (try simp only [List.set_cons_succ]); (try simp only [List.set_cons_zero])
      refine wpAnyH_take (i := 3) (v := ?_) rfl (by kernel_rfl) (by kernel_rfl) (by kernel_rfl) (fun _ _ _ h => h) (Or.inl ⟨by kernel_rfl, ?_⟩) hHeld ?_
      rotate_left
      · intro w' hSw
        (try dsimp only at hSw)
        (try simp only [List.getElem_toArray]); (try simp only [List.getElem_cons_succ]); (try simp only [List.getElem_cons_zero])
        go_simp
        try with_reducible rfl
      (try simp only [Act.put]); (try simp only [List.getElem_toArray]); (try simp only [List.getElem_cons_succ]); (try simp only [List.getElem_cons_zero]); (try simp only [List.setIfInBounds_toArray]); (try simp only [List.set_cons_succ]); (try simp only [List.set_cons_zero])
      refine wpAnyH_take (i := 4) (v := ?_) rfl (by kernel_rfl) (by kernel_rfl) (by kernel_rfl) (fun _ _ _ h => h) (Or.inl ⟨by kernel_rfl, ?_⟩) hHeld ?_
      rotate_left
      · intro w' hSw
        (try dsimp only at hSw)
        (try simp only [List.getElem_toArray]); (try simp only [List.getElem_cons_succ]); (try simp only [List.getElem_cons_zero])
        go_simp
        try with_reducible rfl
      (try simp only [Act.put]); (try simp only [List.getElem_toArray]); (try simp only [List.getElem_cons_succ]); (try simp only [List.getElem_cons_zero]); (try simp only [List.setIfInBounds_toArray]); (try simp only [List.set_cons_succ]); (try simp only [List.set_cons_zero])
      refine wpAnyH_take (i := 5) (v := ?_) rfl (by kernel_rfl) (by kernel_rfl) (by kernel_rfl) (fun _ _ _ h => h) (Or.inl ⟨by kernel_rfl, ?_⟩) hHeld ?_
      rotate_left
      · intro w' hSw
        (try dsimp only at hSw)
        (try simp only [List.getElem_toArray]); (try simp only [List.getElem_cons_succ]); (try simp only [List.getElem_cons_zero])
        go_simp
        try with_reducible rfl
      (try simp only [Act.put]); (try simp only [List.getElem_toArray]); (try simp only [List.getElem_cons_succ]); (try simp only [List.getElem_cons_zero]); (try simp only [List.setIfInBounds_toArray]); (try simp only [List.set_cons_succ]); (try simp only [List.set_cons_zero])
      refine wpAnyH_take (i := 6) (v := ?_) rfl (by kernel_rfl) (by kernel_rfl) (by kernel_rfl) (fun _ _ _ h => h) (Or.inl ⟨by kernel_rfl, ?_⟩) hHeld ?_
      rotate_left
      · intro w' hSw
        (try dsimp only at hSw)
        (try simp only [List.getElem_toArray]); (try simp only [List.getElem_cons_succ]); (try simp only [List.getElem_cons_zero])
        go_simp
        try with_reducible rfl
      (try simp only [Act.put]); (try simp only [List.getElem_toArray]); (try simp only [List.getElem_cons_succ]); (try simp only [List.getElem_cons_zero]); (try simp only [List.setIfInBounds_toArray]); (try simp only [List.set_cons_succ]); (try simp only [List.set_cons_zero])
      refine wpAnyH_take (i := 8) (v := ?_) rfl (by kernel_rfl) (by kernel_rfl) (by kernel_rfl) (fun _ _ _ h => h) (Or.inl ⟨by kernel_rfl, ?_⟩) hHeld ?_
      rotate_left
      · intro w' hSw
        (try dsimp only at hSw)
        (try simp only [List.getElem_toArray]); (try simp only [List.getElem_cons_succ]); (try simp only [List.getElem_cons_zero])
        go_simp
        try with_reducible rfl
      (try simp only [Act.put]); (try simp only [List.getElem_toArray]); (try simp only [List.getElem_cons_succ]); (try simp only [List.getElem_cons_zero]); (try simp only [List.setIfInBounds_toArray]); (try simp only [List.set_cons_succ]); (try simp only [List.set_cons_zero])
      refine wpAnyH_take (i := 9) (v := ?_) rfl (by kernel_rfl) (by kernel_rfl) (by kernel_rfl) (fun _ _ _ h => h) (Or.inl ⟨by kernel_rfl, ?_⟩) hHeld ?_
      rotate_left
      · intro w' hSw
        (try dsimp only at hSw)
        (try simp only [List.getElem_toArray]); (try simp only [List.getElem_cons_succ]); (try simp only [List.getElem_cons_zero])
        go_simp
        try with_reducible rfl
      (try simp only [Act.put]); (try simp only [List.getElem_toArray]); (try simp only [List.getElem_cons_succ]); (try simp only [List.getElem_cons_zero]); (try simp only [List.setIfInBounds_toArray]); (try simp only [List.set_cons_succ]); (try simp only [List.set_cons_zero])
      refine wpAnyH_take (i := 10) (v := ?_) rfl (by kernel_rfl) (by kernel_rfl) (by kernel_rfl) (fun _ _ _ h => h) (Or.inl ⟨by kernel_rfl, ?_⟩) hHeld ?_
      rotate_left
      · intro w' hSw
        (try dsimp only at hSw)
        (try simp only [List.getElem_toArray]); (try simp only [List.getElem_cons_succ]); (try simp only [List.getElem_cons_zero])
        go_simp
        try with_reducible rfl
      (try simp only [Act.put]); (try simp only [List.getElem_toArray]); (try simp only [List.getElem_cons_succ]); (try simp only [List.getElem_cons_zero]); (try simp only [List.setIfInBounds_toArray]); (try simp only [List.set_cons_succ]); (try simp only [List.set_cons_zero])
      refine wpAnyH_ready (rs := [7, 11]) (by kernel_rfl) (by simp) ?_
      refine AllReadyH.cons rfl (fun K hK => ?_) (AllReadyH.cons rfl (fun K hK => ?_) AllReadyH.nil)
      · go_simp
        refine hK.out _ _ (trivial) (fun hHeld => ?_)
        clear hK K
        (try simp only [Act.put]); (try simp only [List.getElem_toArray]); (try simp only [List.getElem_cons_succ]); (try simp only [List.getElem_cons_zero]); (try simp only [List.setIfInBounds_toArray]); (try simp only [List.set_cons_succ]); (try simp only [List.set_cons_zero])
        refine wpAnyH_ready (rs := [11]) (by kernel_rfl) (by simp) ?_
        refine AllReadyH.cons rfl (fun K hK => ?_) AllReadyH.nil
        go_simp
        refine hK.out _ _ (trivial) (fun hHeld => ?_)
        clear hK K
        (try simp only [Act.put]); (try simp only [List.getElem_toArray]); (try simp only [List.getElem_cons_succ]); (try simp only [List.getElem_cons_zero]); (try simp only [List.setIfInBounds_toArray]); (try simp only [List.set_cons_succ]); (try simp only [List.set_cons_zero])
        refine wpAnyH_take (i := 12) (v := ?_) rfl (by kernel_rfl) (by kernel_rfl) (by kernel_rfl) (fun _ _ _ h => h) (Or.inl ⟨by kernel_rfl, ?_⟩) hHeld ?_
        rotate_left
        · intro w' hSw
          (try dsimp only at hSw)
          (try simp only [List.getElem_toArray]); (try simp only [List.getElem_cons_succ]); (try simp only [List.getElem_cons_zero])
          go_simp
          try with_reducible rfl
        (try simp only [Act.put]); (try simp only [List.getElem_toArray]); (try simp only [List.getElem_cons_succ]); (try simp only [List.getElem_cons_zero]); (try simp only [List.setIfInBounds_toArray]); (try simp only [List.set_cons_succ]); (try simp only [List.set_cons_zero])
        refine wpAnyH_ready (rs := [13]) (by kernel_rfl) (by simp) ?_
        refine AllReadyH.cons rfl (fun K hK => ?_) AllReadyH.nil
        go_simp
        refine hK.out _ _ (trivial) (fun hHeld => ?_)
        clear hK K
        (try simp only [Act.put]); (try simp only [List.getElem_toArray]); (try simp only [List.getElem_cons_succ]); (try simp only [List.getElem_cons_zero]); (try simp only [List.setIfInBounds_toArray]); (try simp only [List.set_cons_succ]); (try simp only [List.set_cons_zero])
        refine wpAnyH_take (i := 14) (v := ?_) rfl (by kernel_rfl) (by kernel_rfl) (by kernel_rfl) (fun _ _ _ h => h) (Or.inl ⟨by kernel_rfl, ?_⟩) hHeld ?_
        rotate_left
        · intro w' hSw
          (try dsimp only at hSw)
          (try simp only [List.getElem_toArray]); (try simp only [List.getElem_cons_succ]); (try simp only [List.getElem_cons_zero])
          go_simp
          try with_reducible rfl
        (try simp only [Act.put]); (try simp only [List.getElem_toArray]); (try simp only [List.getElem_cons_succ]); (try simp only [List.getElem_cons_zero]); (try simp only [List.setIfInBounds_toArray]); (try simp only [List.set_cons_succ]); (try simp only [List.set_cons_zero])
        refine wpAnyH_ready (rs := [15]) (by kernel_rfl) (by simp) ?_
        refine AllReadyH.cons rfl (fun K hK => ?_) AllReadyH.nil
        go_simp
        refine hK.out _ _ (trivial) (fun hHeld => ?_)
        clear hK K
        (try simp only [Act.put]); (try simp only [List.getElem_toArray]); (try simp only [List.getElem_cons_succ]); (try simp only [List.getElem_cons_zero]); (try simp only [List.setIfInBounds_toArray]); (try simp only [List.set_cons_succ]); (try simp only [List.set_cons_zero])
        refine wpAnyH_done (by kernel_rfl) ?_ _
        clear hHeld f0 f1 f2 g0 g1 g2 x0 x1 x2 y0 y1 y2
        have hc3' : ∀ c ∈ cur.set i [.slice bK mK dK, .slice bV mV dV, .int .i64 y], c.length = 3 := fun c hc => by
          rcases List.mem_or_eq_of_mem_set hc with h | h
          · exact hc3 c h
          · rw [h]; rfl
        have row9 := row_set3 (row_set3 row hc3 hiC (.slice bK mK dK) (.slice bV mV dV) (.int .i64 y)) hc3' (i := j) (by rw [List.length_set]; exact hjC) (.slice aK nK cK) (.slice aV nV cV) (.int .i64 z)
        have kk9 := keep_set3 (keep_set3 kk i (.slice bK mK dK) (.slice bV mV dV) (.int .i64 y)) j (.slice aK nK cK) (.slice aV nV cV) (.int .i64 z)
        have HR9 : Hid (RevAt css ((cur.set i [.slice bK mK dK, .slice bV mV dV, .int .i64 y]).set j [.slice aK nK cK, .slice aV nV cV, .int .i64 z]) (i + 1)) := by
          have hj' : css.length - 1 - i = j := by rw [HN.out]; exact hj
          have h := HR.out.step (by rw [HN.out]; exact hlt) hiC (by rw [hj']; exact hjC)
          show RevAt _ _ _
          simp only [hj', eu, ev] at h
          exact h
        clear row kk
        generalize ((((((wd.setCell ⟨g, i * 3, none⟩ (.slice bK mK dK)).setCell ⟨g, i * 3 + 1, none⟩ (.slice bV mV dV)).setCell ⟨g, i * 3 + 2, none⟩ (.int .i64 y)).setCell ⟨g, j * 3, none⟩ (.slice aK nK cK)).setCell ⟨g, j * 3 + 1, none⟩ (.slice aV nV cV)).setCell ⟨g, j * 3 + 2, none⟩ (.int .i64 z)) = w9 at *
        have hji2 : (j : Int) - 1 = (n : Int) - 1 - ((i + 1 : Nat) : Int) := by have := HJI.out; omega
        have hjw : IntKind.i64.wrap ((j : Int) - 1) = (j : Int) - 1 := by rw [IntKind.wrap_i64]; omega
        clear HR
        go_wp2_with fail
        go_roundw
        case rel => exact ⟨i + 1, _, by go_num, by rw [Value.int.injEq]; exact ⟨rfl, by have := HJI.out; omega⟩, by omega, HR9, row9, kk9⟩
        case measure => simp [intOf]; omega
      · go_simp
        refine hK.out _ _ (trivial) (fun hHeld => ?_)
        clear hK K
        (try simp only [Act.put]); (try simp only [List.getElem_toArray]); (try simp only [List.getElem_cons_succ]); (try simp only [List.getElem_cons_zero]); (try simp only [List.setIfInBounds_toArray]); (try simp only [List.set_cons_succ]); (try simp only [List.set_cons_zero])
        refine wpAnyH_ready (rs := [7]) (by kernel_rfl) (by simp) ?_
        refine AllReadyH.cons rfl (fun K hK => ?_) AllReadyH.nil
        go_simp
        refine hK.out _ _ (trivial) (fun hHeld => ?_)
        clear hK K
        (try simp only [Act.put]); (try simp only [List.getElem_toArray]); (try simp only [List.getElem_cons_succ]); (try simp only [List.getElem_cons_zero]); (try simp only [List.setIfInBounds_toArray]); (try simp only [List.set_cons_succ]); (try simp only [List.set_cons_zero])
        refine wpAnyH_take (i := 12) (v := ?_) rfl (by kernel_rfl) (by kernel_rfl) (by kernel_rfl) (fun _ _ _ h => h) (Or.inl ⟨by kernel_rfl, ?_⟩) hHeld ?_
        rotate_left
        · intro w' hSw
          (try dsimp only at hSw)
          (try simp only [List.getElem_toArray]); (try simp only [List.getElem_cons_succ]); (try simp only [List.getElem_cons_zero])
          go_simp
          try with_reducible rfl
        (try simp only [Act.put]); (try simp only [List.getElem_toArray]); (try simp only [List.getElem_cons_succ]); (try simp only [List.getElem_cons_zero]); (try simp only [List.setIfInBounds_toArray]); (try simp only [List.set_cons_succ]); (try simp only [List.set_cons_zero])
        refine wpAnyH_ready (rs := [13]) (by kernel_rfl) (by simp) ?_
        refine AllReadyH.cons rfl (fun K hK => ?_) AllReadyH.nil
        go_simp
        refine hK.out _ _ (trivial) (fun hHeld => ?_)
        clear hK K
        (try simp only [Act.put]); (try simp only [List.getElem_toArray]); (try simp only [List.getElem_cons_succ]); (try simp only [List.getElem_cons_zero]); (try simp only [List.setIfInBounds_toArray]); (try simp only [List.set_cons_succ]); (try simp only [List.set_cons_zero])
        refine wpAnyH_take (i := 14) (v := ?_) rfl (by kernel_rfl) (by kernel_rfl) (by kernel_rfl) (fun _ _ _ h => h) (Or.inl ⟨by kernel_rfl, ?_⟩) hHeld ?_
        rotate_left
        · intro w' hSw
          (try dsimp only at hSw)
          (try simp only [List.getElem_toArray]); (try simp only [List.getElem_cons_succ]); (try simp only [List.getElem_cons_zero])
          go_simp
          try with_reducible rfl
        (try simp only [Act.put]); (try simp only [List.getElem_toArray]); (try simp only [List.getElem_cons_succ]); (try simp only [List.getElem_cons_zero]); (try simp only [List.setIfInBounds_toArray]); (try simp only [List.set_cons_succ]); (try simp only [List.set_cons_zero])
        refine wpAnyH_ready (rs := [15]) (by kernel_rfl) (by simp) ?_
        refine AllReadyH.cons rfl (fun K hK => ?_) AllReadyH.nil
        go_simp
        refine hK.out _ _ (trivial) (fun hHeld => ?_)
        clear hK K
        (try simp only [Act.put]); (try simp only [List.getElem_toArray]); (try simp only [List.getElem_cons_succ]); (try simp only [List.getElem_cons_zero]); (try simp only [List.setIfInBounds_toArray]); (try simp only [List.set_cons_succ]); (try simp only [List.set_cons_zero])
        refine wpAnyH_done (by kernel_rfl) ?_ _
        clear hHeld f0 f1 f2 g0 g1 g2 x0 x1 x2 y0 y1 y2
        have hc3' : ∀ c ∈ cur.set i [.slice bK mK dK, .slice bV mV dV, .int .i64 y], c.length = 3 := fun c hc => by
          rcases List.mem_or_eq_of_mem_set hc with h | h
          · exact hc3 c h
          · rw [h]; rfl
        have row9 := row_set3 (row_set3 row hc3 hiC (.slice bK mK dK) (.slice bV mV dV) (.int .i64 y)) hc3' (i := j) (by rw [List.length_set]; exact hjC) (.slice aK nK cK) (.slice aV nV cV) (.int .i64 z)
        have kk9 := keep_set3 (keep_set3 kk i (.slice bK mK dK) (.slice bV mV dV) (.int .i64 y)) j (.slice aK nK cK) (.slice aV nV cV) (.int .i64 z)
        have HR9 : Hid (RevAt css ((cur.set i [.slice bK mK dK, .slice bV mV dV, .int .i64 y]).set j [.slice aK nK cK, .slice aV nV cV, .int .i64 z]) (i + 1)) := by
          have hj' : css.length - 1 - i = j := by rw [HN.out]; exact hj
          have h := HR.out.step (by rw [HN.out]; exact hlt) hiC (by rw [hj']; exact hjC)
          show RevAt _ _ _
          simp only [hj', eu, ev] at h
          exact h
        clear row kk
        generalize ((((((wd.setCell ⟨g, i * 3, none⟩ (.slice bK mK dK)).setCell ⟨g, i * 3 + 1, none⟩ (.slice bV mV dV)).setCell ⟨g, i * 3 + 2, none⟩ (.int .i64 y)).setCell ⟨g, j * 3, none⟩ (.slice aK nK cK)).setCell ⟨g, j * 3 + 1, none⟩ (.slice aV nV cV)).setCell ⟨g, j * 3 + 2, none⟩ (.int .i64 z)) = w9 at *
        have hji2 : (j : Int) - 1 = (n : Int) - 1 - ((i + 1 : Nat) : Int) := by have := HJI.out; omega
        have hjw : IntKind.i64.wrap ((j : Int) - 1) = (j : Int) - 1 := by rw [IntKind.wrap_i64]; omega
        clear HR
        go_wp2_with fail
        go_roundw
        case rel => exact ⟨i + 1, _, by go_num, by rw [Value.int.injEq]; exact ⟨rfl, by have := HJI.out; omega⟩, by omega, HR9, row9, kk9⟩
        case measure => simp [intOf]; omega
    · have ht : ¬ (i : Int) < (n : Int) - 1 - i := by omega
      have e := HR.out.last (by rw [HN.out]; omega)
      have ht2 : (n : Int) - 1 - i ≤ (i : Int) := by omega
      subst e
      go_wp2_with fail
      go_end0
      exact ⟨rfl, row, kk⟩
theorem rev_none (a : Option Addr) (c : Nat) (w : World) : Calls Try.prog 36 #[.slice a 0 c] w fun e w' => e = .returned (.tuple #[]) ∧ w = w' := by
  go_enter Try.func36, Try.ntmps36
  go_wp2
  refine wp_loop_rounds 1 ?_
  rw [rounds_succ]
  go_wp2
  go_end0
  exact ⟨rfl, rfl⟩
theorem pairC_of {w : World} {p : Nat → Prop} {css : List (List Value)} {l : List GPair} (h : Els rGPair w p css l) : ∀ d ∈ css, PairC d := by
  intro d hd
  obtain ⟨i, hi, rfl⟩ := List.mem_iff_getElem.1 hd
  obtain ⟨_, _, _, _, e, -⟩ := rGPair_open (h.2 i _ _ (List.getElem?_eq_getElem hi) (List.getElem?_eq_getElem (by rw [← h.1]; exact hi)))
  exact ⟨_, _, _, _, _, _, _, e⟩
theorem Els.rev {w : World} {p : Nat → Prop} {css : List (List Value)} {l : List GPair} (h : Els rGPair w p css l) : Els rGPair w p css.reverse l.reverse := by
  refine ⟨by rw [List.length_reverse, List.length_reverse, h.1], fun i c x hc hx => ?_⟩
  have hi := (List.getElem?_eq_some_iff.1 hc).1
  rw [List.length_reverse] at hi
  rw [List.getElem?_reverse hi] at hc
  rw [List.getElem?_reverse (by rw [← h.1]; exact hi), ← h.1] at hx
  exact h.2 _ c x hc hx
theorem rev_c {p : Nat → Prop} (base c : Nat) (a : Option Addr) (css : List (List Value)) (l : List GPair) (w : World) (own : w.ownsRow base 29 3 (.slice a l.length c) l.length css.flatten) (els : Els rGPair w p css l) (hn : l.length ≤ 1000000) :
    Calls Try.prog 36 #[.slice a l.length c] w fun e w' => e = .returned (.tuple #[]) ∧ w'.ownsRow base 29 3 (.slice a l.length c) l.length css.reverse.flatten ∧ Keep (OwnB (.slice a l.length c)) w w' := by
  rcases Nat.eq_zero_or_pos l.length with h | h
  · have hc : css = [] := List.eq_nil_of_length_eq_zero (by rw [els.1, h])
    subst hc
    rw [h] at own ⊢
    refine (rev_none a c w).mono ?_
    rintro e w' ⟨rfl, rfl⟩
    exact ⟨rfl, own, Keep.refl _ _⟩
  · obtain ⟨g, rest, rfl, hg, row, hl, hx, hnc, hcm⟩ := own_row own h
    refine (rev_row g l.length c css rest w row (pairC_of els) els.1 hn h).mono ?_
    rintro e w' ⟨rfl, row', k⟩
    have e1 : css.reverse.flatten.length = css.flatten.length := by
      have h3 : ∀ d ∈ css, d.length = 3 := els.lens3
      rw [flat_len3 (fun d hd => h3 d (List.mem_reverse.1 hd)), flat_len3 h3, List.length_reverse]
    exact ⟨rfl, row_own row' hg (by rw [List.length_append, e1, ← List.length_append]; exact hl) (by rw [e1]; exact hx) hnc hcm, k.mono (fun b hb => by rw [hb]; rfl)⟩
end Go.Proofs.Ythkocgpbpgfocaa
