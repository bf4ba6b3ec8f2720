/- PAGES: the laws' own list: Put. Printed by mac.py. -/
import Derived.Test.YthkocgpbpgfocaaPgJ
namespace Go.Proofs.Ythkocgpbpgfocaa
open Go.RowKit

theorem lies_take3 {w : World} {p : Nat → Prop} {a : Option Addr} {css : List (List Value)} (h : Lies w p a css.flatten) (h3 : ∀ c ∈ css, c.length = 3) (k : Nat) : Lies w p a (css.take k).flatten := by
  intro hx
  rw [← flat_take3 h3] at hx ⊢
  have hne : css.flatten ≠ [] := fun e => hx (by rw [e, List.take_nil])
  obtain ⟨b, o, h1, h2, h4, h5⟩ := h hne
  refine ⟨b, o, h1, h2, h4, fun j u hu => ?_⟩
  have hj := (List.getElem?_eq_some_iff.1 hu).1
  rw [List.length_take] at hj
  rw [List.getElem?_take_of_lt (by omega)] at hu
  exact h5 j u hu
theorem lies_drop3 {w : World} {p : Nat → Prop} {b o : Nat} {css : List (List Value)} (h : Lies w p (some ⟨b, o, none⟩) css.flatten) (h3 : ∀ c ∈ css, c.length = 3) (k : Nat) : Lies w p (some ⟨b, o + k * 3, none⟩) (css.drop k).flatten := by
  intro hx
  rw [← flat_drop3 h3] at hx ⊢
  have hne : css.flatten ≠ [] := fun e => hx (by rw [e, List.drop_nil])
  obtain ⟨b', o', h1, h2, h4, h5⟩ := h hne
  simp only [Option.some.injEq, Addr.mk.injEq, and_true] at h1
  obtain ⟨rfl, rfl⟩ := h1
  refine ⟨b, o + k * 3, rfl, h2, h4, fun j u hu => ?_⟩
  rw [List.getElem?_drop] at hu
  rw [Nat.add_assoc]
  exact h5 _ u hu
theorem putS_at {l : List GPair} {x : GPair} {k : Nat} (hr : l.Pairwise ltP) (h1 : ∀ q (h : q < l.length), q < k → ltB l[q].fKey x.fKey = true) (h2 : ∀ h : k < l.length, ltB l[k].fKey x.fKey = false) :
    putS l x = l.take k ++ x :: (if h : k < l.length then (if l[k].fKey = x.fKey then l.drop (k + 1) else l.drop k) else []) := by
  have e : l = l.take k ++ l.drop k := (List.take_append_drop k l).symm
  have hA : ∀ y ∈ l.take k, ltB y.fKey x.fKey = true := fun y hy => by
    obtain ⟨q, hq, rfl⟩ := List.mem_iff_getElem.1 hy
    rw [List.length_take] at hq
    rw [List.getElem_take]
    exact h1 q (by omega) (by omega)
  have hB : ∀ y ∈ l.drop k, ltB y.fKey x.fKey = false := fun y hy => by
    obtain ⟨q, hq, rfl⟩ := List.mem_iff_getElem.1 hy
    rw [List.length_drop] at hq
    rw [List.getElem_drop]
    have h3 := h2 (by omega)
    by_cases e : q = 0
    · subst e; exact h3
    · have h4 := List.pairwise_iff_getElem.1 hr k (k + q) (by omega) (by omega) (by omega)
      unfold ltP at h4
      exact ltB_ge_trans h3 (ltB_asymm h4)
  conv => lhs; rw [e]
  rw [putS_split hA hB]
  congr 2
  split
  · rename_i hk
    rw [← List.getElem_cons_drop hk] at hB ⊢
    have hlt : ∀ y ∈ l.drop (k + 1), ltB l[k].fKey y.fKey = true := fun y hy => by
      obtain ⟨q, hq, rfl⟩ := List.mem_iff_getElem.1 hy
      rw [List.length_drop] at hq
      rw [List.getElem_drop]
      have h4 := List.pairwise_iff_getElem.1 hr k (k + 1 + q) (by omega) (by omega) (by omega)
      exact h4
    by_cases he : l[k].fKey = x.fKey
    · rw [if_pos he, List.filter_cons, he, ltB_irrefl, if_neg (by decide)]
      exact List.filter_eq_self.2 (fun y hy => by have := hlt y hy; rw [he] at this; exact this)
    · have hgt : ltB x.fKey l[k].fKey = true := by
        rcases ltB_or he with h | h
        · rw [h2 hk] at h; cases h
        · exact h
      rw [if_neg he, List.filter_cons, if_pos hgt]
      congr 1
      exact List.filter_eq_self.2 (fun y hy => ltB_trans hgt (hlt y hy))
  · rename_i hk
    rw [List.drop_eq_nil_of_le (by omega)]
    rfl
theorem Keep.nixS {S : Nat → Prop} {a b : World} (h : Keep Nix a b) : Keep S a b := h.nix
theorem Els.cons {w : World} {p : Nat → Prop} {c : List Value} {x : GPair} {css : List (List Value)} {l : List GPair} (hc : rGPair w p c x) (h : Els rGPair w p css l) : Els rGPair w p (c :: css) (x :: l) := by
  refine ⟨by rw [List.length_cons, List.length_cons, h.1], fun i d y hd hy => ?_⟩
  cases i with
  | zero =>
    rw [List.getElem?_cons_zero] at hd hy
    cases hd; cases hy
    exact hc
  | succ i =>
    rw [List.getElem?_cons_succ] at hd hy
    exact h.2 i d y hd hy
set_option maxRecDepth 100000 in
set_option maxHeartbeats 4000000 in
theorem putS_c {p q : Nat → Prop} (l : List GPair) (x : GPair) (a : Option Addr) (c : Nat) (csx : List Value) (w : World) (hl : rList rGPair w p [.slice a l.length c] l) (hx : rGPair w q csx x) (hr : l.Pairwise ltP) (hn : l.length ≤ 100000) :
    Calls Try.prog 18 #[.slice a l.length c, .agg csx.toArray] w (ListS w (fun b => p b ∨ q b) (putS l x)) := by
  have hx2 := rGPair_lt hx
  obtain ⟨aK, cK, aV, cV, rfl, hxk, -⟩ := rGPair_open hx
  have HXX := Lib.hid hx2
  have HXK := Lib.hid hxk.1
  have HLL := Lib.hid hl
  obtain ⟨a', c', css, e, hcl, hli, hcap, hfar, hel⟩ := hl
  simp only [List.cons.injEq, Value.slice.injEq, and_true, true_and] at e
  obtain ⟨rfl, rfl⟩ := e
  have hels : Els rGPair w (fun b => p b ∧ b < w.heap.size) css l := ⟨hcl, fun i d y hd hy => rGPair_lt (hel i d y hd hy)⟩
  have HEL := Lib.hid hels
  have HLI := Lib.hid hli.lt
  have H3 := Lib.hid hels.lens3
  have HON := Lib.hid (ones3 hels)
  have HFL : Hid (css.flatten.length = l.length * 3) := by
    show _ = _
    have := congrArg List.length (flat_take3 hels.lens3 css.length)
    rw [List.take_length] at this
    rw [← hcl]
    have h4 : ∀ (l : List (List Value)), (∀ c ∈ l, c.length = 3) → l.flatten.length = l.length * 3 := fun l => by
      induction l with
      | nil => intro _; rfl
      | cons a l ih => intro h; rw [List.flatten_cons, List.length_append, h a (by simp), ih (fun c hc => h c (by simp [hc])), List.length_cons]; omega
    exact h4 css hels.lens3
  have HR := Lib.hid hr
  have k0 : Keep Nix w (w.alloc (.cells #[.slice aK x.fKey.length cK, .slice aV x.fValue.length cV, .int .i64 x.fVersion] 29)) := (Keep.refl Nix w).alloc _
  have rowX0 := RowIs.alloc w #[.slice aK x.fKey.length cK, .slice aV x.fValue.length cV, .int .i64 x.fVersion] 29
  clear hx hx2 hxk hel hels hli hr hcl hfar
  go_enter Try.func18, Try.ntmps18
  go_wp2_with fail
  generalize hw0 : (w.alloc (.cells #[.slice aK x.fKey.length cK, .slice aV x.fValue.length cV, .int .i64 x.fVersion] 29)) = w0 at *
  go_loopw [5] (fun i wr => ∃ k : Nat, k ≤ l.length ∧ i = .int .i64 k ∧ Hid (∀ q (h : q < l.length), q < k → ltB l[q].fKey x.fKey = true) ∧ Keep Nix w0 wr) (fun i _ => l.length - (intOf i).toNat)
  case atStart => exact ⟨0, by omega, rfl, fun q _ h => absurd h (Nat.not_lt_zero q), Keep.refl _ _⟩
  case round =>
    obtain ⟨k, hk, rfl, HLO, k1⟩ := hrel
    have kk := k0.trans k1
    replace rowX0 := rowX0.keep k1 id
    by_cases hlt : k < l.length
    · have hi0 : (0 : Int) ≤ (k : Int) := by omega
      have hi1 : (k : Int) < (l.length : Int) := by omega
      obtain ⟨b, o, aY, cY, _, _, rfl, hbw, -, ry, y0, -, -⟩ := at_pair HLL.out k hlt
      replace y0 := (kk.cell (p := ⟨b, o + k * 3, none⟩) hbw id).trans y0
      have hY : Lies wr p aY ((l[k]).fKey.map bv) := by
        obtain ⟨_, _, _, _, e, h, -⟩ := rGPair_open (rGPair_lawful.nix ry kk)
        simp only [List.cons.injEq, Value.slice.injEq, and_true, true_and] at e
        obtain ⟨⟨rfl, rfl⟩, -⟩ := e
        exact h.1
      obtain ⟨v, hv⟩ : ∃ v, ltB (l[k]).fKey x.fKey = v := ⟨_, rfl⟩
      have HV := Lib.hid hv
      have hdec : Hid (∀ v', decide ((l[k]).fKey = x.fKey) = v' → (if (l[k]).fKey = x.fKey then l.drop (k + 1) else l.drop k) = (if v' then l.drop (k + 1) else l.drop k)) := fun v' h => by
        cases v' with
        | true => rw [if_pos (of_decide_eq_true h)]; rfl
        | false => rw [if_neg (of_decide_eq_false h)]; rfl
      have HLK : Hid (∀ hh : k < l.length, ltB (l[k]).fKey x.fKey = v) := fun _ => hv
      have hy3 : ∀ z : GPair, l[k] = z → z = l[k] := fun z h => h.symm
      obtain ⟨y, hy⟩ : ∃ y, l[k] = y := ⟨_, rfl⟩
      rw [hy] at y0 hY hv
      have HY := Lib.hid hy
      have cv1 := fun w' (h : Lies w' p aY (y.fKey.map bv)) => conv_bytes (P := Try.prog) Try.underlying27 Try.underlying5 Try.underlying9 (cap := cY) rfl h
      have cv2 := fun w' (h : Lies w' q aK (x.fKey.map bv)) => conv_bytes (P := Try.prog) Try.underlying27 Try.underlying5 Try.underlying9 (cap := cK) rfl h
      have b1 : Op.bytesLess (strB y.fKey).toList (strB x.fKey).toList = v := by rw [strB_toList, strB_toList]; exact hv
      have px := rowX0.cell 0
      (try simp only [List.getElem?_cons_zero] at px)
      clear ry hy hv hy3
      go_upto_region 2 with fail
      have kd : Keep Nix wr wr.drew := (Keep.refl Nix wr).drew
      have hYd := hY.keep kd (fun _ _ h => h)
      have hXd := (HXK.out.keep kk (fun _ _ h => h)).keep kd (fun _ _ h => h)
      refine wp_region_held_drew (S := (fun w' => w'.cell? ⟨b, o + k * 3, none⟩ = some (.slice aY y.fKey.length cY) ∧ w'.cell? ⟨w.heap.size, 0, none⟩ = some (.slice aK x.fKey.length cK) ∧ (convert 27 9 (.slice aY y.fKey.length cY)).run Try.prog w' = .ok (.string (strB y.fKey)) w' ∧ (convert 27 9 (.slice aK x.fKey.length cK)).run Try.prog w' = .ok (.string (strB x.fKey)) w')) (by kernel_rfl) (⟨y0, px, cv1 _ hYd, cv2 _ hXd⟩) (fun hHeld => ?_)
      clear y0 px cv1 cv2
      replace kk := kk.trans kd
      replace rowX0 := rowX0.keep kd id
      replace k1 := k1.trans kd
      generalize wr.drew = wd at *
      refine wpAnyH_take (i := 0) (v := ?_) rfl (by kernel_rfl) (by kernel_rfl) (by kernel_rfl) (fun _ _ _ h => h) (Or.inl ⟨by kernel_rfl, ?_⟩) hHeld ?_
      rotate_left
      · intro w' hSw
        (try dsimp only at hSw)
        (try simp only [List.getElem_toArray]); (try simp only [List.getElem_cons_succ]); (try simp only [List.getElem_cons_zero])
        go_simp
        try with_reducible rfl
      (try simp only [Act.put]); (try simp only [List.getElem_toArray]); (try simp only [List.getElem_cons_succ]); (try simp only [List.getElem_cons_zero]); (try simp only [List.setIfInBounds_toArray]); (try simp only [List.set_cons_succ]); (try simp only [List.set_cons_zero])
      refine wpAnyH_take (i := 1) (v := ?_) rfl (by kernel_rfl) (by kernel_rfl) (by kernel_rfl) (fun _ _ _ h => h) (Or.inl ⟨by kernel_rfl, ?_⟩) hHeld ?_
      rotate_left
      · intro w' hSw
        (try dsimp only at hSw)
        (try simp only [List.getElem_toArray]); (try simp only [List.getElem_cons_succ]); (try simp only [List.getElem_cons_zero])
        go_simp
        try with_reducible rfl
      (try simp only [Act.put]); (try simp only [List.getElem_toArray]); (try simp only [List.getElem_cons_succ]); (try simp only [List.getElem_cons_zero]); (try simp only [List.setIfInBounds_toArray]); (try simp only [List.set_cons_succ]); (try simp only [List.set_cons_zero])
      refine wpAnyH_take (i := 2) (v := ?_) rfl (by kernel_rfl) (by kernel_rfl) (by kernel_rfl) (fun _ _ _ h => h) (Or.inl ⟨by kernel_rfl, ?_⟩) hHeld ?_
      rotate_left
      · intro w' hSw
        (try dsimp only at hSw)
        (try simp only [List.getElem_toArray]); (try simp only [List.getElem_cons_succ]); (try simp only [List.getElem_cons_zero])
        go_simp
        try with_reducible rfl
      (try simp only [Act.put]); (try simp only [List.getElem_toArray]); (try simp only [List.getElem_cons_succ]); (try simp only [List.getElem_cons_zero]); (try simp only [List.setIfInBounds_toArray]); (try simp only [List.set_cons_succ]); (try simp only [List.set_cons_zero])
      refine wpAnyH_take (i := 3) (v := ?_) rfl (by kernel_rfl) (by kernel_rfl) (by kernel_rfl) (fun _ _ _ h => h) (Or.inl ⟨by kernel_rfl, ?_⟩) hHeld ?_
      rotate_left
      · intro w' hSw
        (try dsimp only at hSw)
        (try simp only [List.getElem_toArray]); (try simp only [List.getElem_cons_succ]); (try simp only [List.getElem_cons_zero])
        go_simp
        try with_reducible rfl
      (try simp only [Act.put]); (try simp only [List.getElem_toArray]); (try simp only [List.getElem_cons_succ]); (try simp only [List.getElem_cons_zero]); (try simp only [List.setIfInBounds_toArray]); (try simp only [List.set_cons_succ]); (try simp only [List.set_cons_zero])
      refine wpAnyH_take (i := 4) (v := ?_) rfl (by kernel_rfl) (by kernel_rfl) (by kernel_rfl) (fun _ _ _ h => h) (Or.inl ⟨by kernel_rfl, ?_⟩) hHeld ?_
      rotate_left
      · intro w' hSw
        (try dsimp only at hSw)
        (try simp only [List.getElem_toArray]); (try simp only [List.getElem_cons_succ]); (try simp only [List.getElem_cons_zero])
        go_simp
        try with_reducible rfl
      (try simp only [Act.put]); (try simp only [List.getElem_toArray]); (try simp only [List.getElem_cons_succ]); (try simp only [List.getElem_cons_zero]); (try simp only [List.setIfInBounds_toArray]); (try simp only [List.set_cons_succ]); (try simp only [List.set_cons_zero])
      refine wpAnyH_take (i := 5) (v := ?_) rfl (by kernel_rfl) (by kernel_rfl) (by kernel_rfl) (fun _ _ _ h => h) (Or.inl ⟨by kernel_rfl, ?_⟩) hHeld ?_
      rotate_left
      · intro w' hSw
        (try dsimp only at hSw)
        (try simp only [List.getElem_toArray]); (try simp only [List.getElem_cons_succ]); (try simp only [List.getElem_cons_zero])
        go_simp
        try with_reducible rfl
      (try simp only [Act.put]); (try simp only [List.getElem_toArray]); (try simp only [List.getElem_cons_succ]); (try simp only [List.getElem_cons_zero]); (try simp only [List.setIfInBounds_toArray]); (try simp only [List.set_cons_succ]); (try simp only [List.set_cons_zero])
      refine wpAnyH_take (i := 6) (v := ?_) rfl (by kernel_rfl) (by kernel_rfl) (by kernel_rfl) (fun _ _ _ h => h) (Or.inl ⟨by kernel_rfl, ?_⟩) hHeld ?_
      rotate_left
      · intro w' hSw
        (try dsimp only at hSw)
        (try simp only [List.getElem_toArray]); (try simp only [List.getElem_cons_succ]); (try simp only [List.getElem_cons_zero])
        go_simp
        try with_reducible rfl
      (try simp only [Act.put]); (try simp only [List.getElem_toArray]); (try simp only [List.getElem_cons_succ]); (try simp only [List.getElem_cons_zero]); (try simp only [List.setIfInBounds_toArray]); (try simp only [List.set_cons_succ]); (try simp only [List.set_cons_zero])
      refine wpAnyH_take (i := 7) (v := ?_) rfl (by kernel_rfl) (by kernel_rfl) (by kernel_rfl) (fun _ _ _ h => h) (Or.inl ⟨by kernel_rfl, ?_⟩) hHeld ?_
      rotate_left
      · intro w' hSw
        (try dsimp only at hSw)
        (try simp only [List.getElem_toArray]); (try simp only [List.getElem_cons_succ]); (try simp only [List.getElem_cons_zero])
        go_simp
        try with_reducible rfl
      (try simp only [Act.put]); (try simp only [List.getElem_toArray]); (try simp only [List.getElem_cons_succ]); (try simp only [List.getElem_cons_zero]); (try simp only [List.setIfInBounds_toArray]); (try simp only [List.set_cons_succ]); (try simp only [List.set_cons_zero])
      refine wpAnyH_take (i := 8) (v := ?_) rfl (by kernel_rfl) (by kernel_rfl) (by kernel_rfl) (fun _ _ _ h => h) (Or.inl ⟨by kernel_rfl, ?_⟩) hHeld ?_
      rotate_left
      · intro w' hSw
        (try dsimp only at hSw)
        (try simp only [List.getElem_toArray]); (try simp only [List.getElem_cons_succ]); (try simp only [List.getElem_cons_zero])
        go_simp
        try with_reducible rfl
      (try simp only [Act.put]); (try simp only [List.getElem_toArray]); (try simp only [List.getElem_cons_succ]); (try simp only [List.getElem_cons_zero]); (try simp only [List.setIfInBounds_toArray]); (try simp only [List.set_cons_succ]); (try simp only [List.set_cons_zero])
      refine wpAnyH_take (i := 9) (v := ?_) rfl (by kernel_rfl) (by kernel_rfl) (by kernel_rfl) (fun _ _ _ h => h) (Or.inl ⟨by kernel_rfl, ?_⟩) hHeld ?_
      rotate_left
      · intro w' hSw
        (try dsimp only at hSw)
        (try simp only [List.getElem_toArray]); (try simp only [List.getElem_cons_succ]); (try simp only [List.getElem_cons_zero])
        go_simp
        try with_reducible rfl
      (try simp only [Act.put]); (try simp only [List.getElem_toArray]); (try simp only [List.getElem_cons_succ]); (try simp only [List.getElem_cons_zero]); (try simp only [List.setIfInBounds_toArray]); (try simp only [List.set_cons_succ]); (try simp only [List.set_cons_zero])
      refine wpAnyH_take (i := 10) (v := ?_) rfl (by kernel_rfl) (by kernel_rfl) (by kernel_rfl) (fun _ _ _ h => h) (Or.inl ⟨by kernel_rfl, ?_⟩) hHeld ?_
      rotate_left
      · intro w' hSw
        (try dsimp only at hSw)
        (try simp only [List.getElem_toArray]); (try simp only [List.getElem_cons_succ]); (try simp only [List.getElem_cons_zero])
        go_simp
        try with_reducible rfl
      (try simp only [Act.put]); (try simp only [List.getElem_toArray]); (try simp only [List.getElem_cons_succ]); (try simp only [List.getElem_cons_zero]); (try simp only [List.setIfInBounds_toArray]); (try simp only [List.set_cons_succ]); (try simp only [List.set_cons_zero])
      refine wpAnyH_take (i := 11) (v := ?_) rfl (by kernel_rfl) (by kernel_rfl) (by kernel_rfl) (fun _ _ _ h => h) (Or.inl ⟨by kernel_rfl, ?_⟩) hHeld ?_
      rotate_left
      · intro w' hSw
        (try dsimp only at hSw)
        (try simp only [List.getElem_toArray]); (try simp only [List.getElem_cons_succ]); (try simp only [List.getElem_cons_zero])
        go_simp
        try with_reducible rfl
      (try simp only [Act.put]); (try simp only [List.getElem_toArray]); (try simp only [List.getElem_cons_succ]); (try simp only [List.getElem_cons_zero]); (try simp only [List.setIfInBounds_toArray]); (try simp only [List.set_cons_succ]); (try simp only [List.set_cons_zero])
      refine wpAnyH_take (i := 12) (v := ?_) rfl (by kernel_rfl) (by kernel_rfl) (by kernel_rfl) (fun _ _ _ h => h) (Or.inl ⟨by kernel_rfl, ?_⟩) hHeld ?_
      rotate_left
      · intro w' hSw
        (try dsimp only at hSw)
        (try simp only [List.getElem_toArray]); (try simp only [List.getElem_cons_succ]); (try simp only [List.getElem_cons_zero])
        go_simp
        try with_reducible rfl
      (try simp only [Act.put]); (try simp only [List.getElem_toArray]); (try simp only [List.getElem_cons_succ]); (try simp only [List.getElem_cons_zero]); (try simp only [List.setIfInBounds_toArray]); (try simp only [List.set_cons_succ]); (try simp only [List.set_cons_zero])
      refine wpAnyH_take (i := 13) (v := ?_) rfl (by kernel_rfl) (by kernel_rfl) (by kernel_rfl) (fun _ _ _ h => h) (Or.inl ⟨by kernel_rfl, ?_⟩) hHeld ?_
      rotate_left
      · intro w' hSw
        (try dsimp only at hSw)
        (try simp only [List.getElem_toArray]); (try simp only [List.getElem_cons_succ]); (try simp only [List.getElem_cons_zero])
        go_simp
        try with_reducible rfl
      (try simp only [Act.put]); (try simp only [List.getElem_toArray]); (try simp only [List.getElem_cons_succ]); (try simp only [List.getElem_cons_zero]); (try simp only [List.setIfInBounds_toArray]); (try simp only [List.set_cons_succ]); (try simp only [List.set_cons_zero])
      refine wpAnyH_take (i := 14) (v := ?_) rfl (by kernel_rfl) (by kernel_rfl) (by kernel_rfl) (fun _ _ _ h => h) (Or.inl ⟨by kernel_rfl, ?_⟩) hHeld ?_
      rotate_left
      · intro w' hSw
        (try dsimp only at hSw)
        (try simp only [List.getElem_toArray]); (try simp only [List.getElem_cons_succ]); (try simp only [List.getElem_cons_zero])
        go_simp
        try with_reducible rfl
      (try simp only [Act.put]); (try simp only [List.getElem_toArray]); (try simp only [List.getElem_cons_succ]); (try simp only [List.getElem_cons_zero]); (try simp only [List.setIfInBounds_toArray]); (try simp only [List.set_cons_succ]); (try simp only [List.set_cons_zero])
      refine wpAnyH_take (i := 15) (v := ?_) rfl (by kernel_rfl) (by kernel_rfl) (by kernel_rfl) (fun _ _ _ h => h) (Or.inl ⟨by kernel_rfl, ?_⟩) hHeld ?_
      rotate_left
      · intro w' hSw
        (try dsimp only at hSw)
        (try simp only [List.getElem_toArray]); (try simp only [List.getElem_cons_succ]); (try simp only [List.getElem_cons_zero])
        go_simp
        try with_reducible rfl
      (try simp only [Act.put]); (try simp only [List.getElem_toArray]); (try simp only [List.getElem_cons_succ]); (try simp only [List.getElem_cons_zero]); (try simp only [List.setIfInBounds_toArray]); (try simp only [List.set_cons_succ]); (try simp only [List.set_cons_zero])
      refine wpAnyH_done (by kernel_rfl) ?_ _
      clear hHeld
      cases v with
      | true =>
        have HLO2 : Hid (∀ q (h : q < l.length), q < k + 1 → ltB l[q].fKey x.fKey = true) := fun q h h2 => by
          by_cases e : q = k
          · subst e; exact HLK.out h
          · exact HLO.out q h (by omega)
        clear hdec hYd hXd
        go_wp2_with fail
        go_roundw
        case rel => exact ⟨k + 1, by omega, by go_num, HLO2, k1⟩
        case measure => simp [intOf]; omega
      | false =>
        have hPS := putS_at (x := x) HR.out HLO.out HLK.out
        rw [dif_pos hlt] at hPS
        have HPS := Lib.hid hPS
        clear hPS hYd hXd
        have hckn : ¬ c = k := by omega
        have hnk0 : (0 : Int) < ((l.length - k : Nat) : Int) := by omega
        have hnk1 : 0 < l.length - k := by omega
        have hkc : k ≤ c := by omega
        have hki2 : (k : Int) ≤ (l.length : Int) := by omega
        go_upto_region 5 with fail
        obtain ⟨b2, o2, aY2, cY2, _, _, e, hbw2, -, ry, y0, -, -⟩ := at_pair HLL.out k hlt
        simp only [Option.some.injEq, Addr.mk.injEq, and_true] at e
        obtain ⟨rfl, rfl⟩ := e
        rw [HY.out] at ry y0
        replace y0 := (kk.cell (p := ⟨b, o + k * 3, none⟩) hbw id).trans y0
        have hYw : Lies wd p aY2 (y.fKey.map bv) := by
          obtain ⟨_, _, _, _, e, h, -⟩ := rGPair_open (rGPair_lawful.nix ry kk)
          simp only [List.cons.injEq, Value.slice.injEq, and_true, true_and] at e
          obtain ⟨⟨rfl, rfl⟩, -⟩ := e
          exact h.1
        have px := rowX0.cell 0
        (try simp only [List.getElem?_cons_zero] at px)
        have kd5 : Keep Nix wd wd.drew := (Keep.refl Nix wd).drew
        have hB := bytes_c aY2 aK _ cY2 _ cK y.fKey x.fKey wd.drew rfl rfl (hYw.keep kd5 (fun _ _ h => h)) ((HXK.out.keep kk (fun _ _ h => h)).keep kd5 (fun _ _ h => h))
        obtain ⟨v2, hv2⟩ : ∃ v, decide (y.fKey = x.fKey) = v := ⟨_, rfl⟩
        rw [hv2] at hB
        have HD := Lib.hid (hdec.out v2 (by rw [HY.out]; exact hv2))
        clear hdec hv2 ry
        refine wp_region_held_drew (S := (fun w' => w'.cell? ⟨b, o + k * 3, none⟩ = some (.slice aY2 y.fKey.length cY2) ∧ w'.cell? ⟨w.heap.size, 0, none⟩ = some (.slice aK x.fKey.length cK))) (by kernel_rfl) (⟨y0, px⟩) (fun hHeld => ?_)
        clear y0 px hYw
        replace kk := kk.trans kd5
        replace rowX0 := rowX0.keep kd5 id
        generalize wd.drew = we at *
        refine wpAnyH_take (i := 0) (v := ?_) rfl (by kernel_rfl) (by kernel_rfl) (by kernel_rfl) (fun _ _ _ h => h) (Or.inl ⟨by kernel_rfl, ?_⟩) hHeld ?_
        rotate_left
        · intro w' hSw
          (try dsimp only at hSw)
          (try simp only [List.getElem_toArray]); (try simp only [List.getElem_cons_succ]); (try simp only [List.getElem_cons_zero])
          go_simp
          try with_reducible rfl
        (try simp only [Act.put]); (try simp only [List.getElem_toArray]); (try simp only [List.getElem_cons_succ]); (try simp only [List.getElem_cons_zero]); (try simp only [List.setIfInBounds_toArray]); (try simp only [List.set_cons_succ]); (try simp only [List.set_cons_zero])
        refine wpAnyH_take (i := 1) (v := ?_) rfl (by kernel_rfl) (by kernel_rfl) (by kernel_rfl) (fun _ _ _ h => h) (Or.inl ⟨by kernel_rfl, ?_⟩) hHeld ?_
        rotate_left
        · intro w' hSw
          (try dsimp only at hSw)
          (try simp only [List.getElem_toArray]); (try simp only [List.getElem_cons_succ]); (try simp only [List.getElem_cons_zero])
          go_simp
          try with_reducible rfl
        (try simp only [Act.put]); (try simp only [List.getElem_toArray]); (try simp only [List.getElem_cons_succ]); (try simp only [List.getElem_cons_zero]); (try simp only [List.setIfInBounds_toArray]); (try simp only [List.set_cons_succ]); (try simp only [List.set_cons_zero])
        refine wpAnyH_take (i := 2) (v := ?_) rfl (by kernel_rfl) (by kernel_rfl) (by kernel_rfl) (fun _ _ _ h => h) (Or.inl ⟨by kernel_rfl, ?_⟩) hHeld ?_
        rotate_left
        · intro w' hSw
          (try dsimp only at hSw)
          (try simp only [List.getElem_toArray]); (try simp only [List.getElem_cons_succ]); (try simp only [List.getElem_cons_zero])
          go_simp
          try with_reducible rfl
        (try simp only [Act.put]); (try simp only [List.getElem_toArray]); (try simp only [List.getElem_cons_succ]); (try simp only [List.getElem_cons_zero]); (try simp only [List.setIfInBounds_toArray]); (try simp only [List.set_cons_succ]); (try simp only [List.set_cons_zero])
        refine wpAnyH_take (i := 3) (v := ?_) rfl (by kernel_rfl) (by kernel_rfl) (by kernel_rfl) (fun _ _ _ h => h) (Or.inl ⟨by kernel_rfl, ?_⟩) hHeld ?_
        rotate_left
        · intro w' hSw
          (try dsimp only at hSw)
          (try simp only [List.getElem_toArray]); (try simp only [List.getElem_cons_succ]); (try simp only [List.getElem_cons_zero])
          go_simp
          try with_reducible rfl
        (try simp only [Act.put]); (try simp only [List.getElem_toArray]); (try simp only [List.getElem_cons_succ]); (try simp only [List.getElem_cons_zero]); (try simp only [List.setIfInBounds_toArray]); (try simp only [List.set_cons_succ]); (try simp only [List.set_cons_zero])
        refine wpAnyH_take (i := 4) (v := ?_) rfl (by kernel_rfl) (by kernel_rfl) (by kernel_rfl) (fun _ _ _ h => h) (Or.inl ⟨by kernel_rfl, ?_⟩) hHeld ?_
        rotate_left
        · intro w' hSw
          (try dsimp only at hSw)
          (try simp only [List.getElem_toArray]); (try simp only [List.getElem_cons_succ]); (try simp only [List.getElem_cons_zero])
          go_simp
          try with_reducible rfl
        (try simp only [Act.put]); (try simp only [List.getElem_toArray]); (try simp only [List.getElem_cons_succ]); (try simp only [List.getElem_cons_zero]); (try simp only [List.setIfInBounds_toArray]); (try simp only [List.set_cons_succ]); (try simp only [List.set_cons_zero])
        refine wpAnyH_take (i := 5) (v := ?_) rfl (by kernel_rfl) (by kernel_rfl) (by kernel_rfl) (fun _ _ _ h => h) (Or.inl ⟨by kernel_rfl, ?_⟩) hHeld ?_
        rotate_left
        · intro w' hSw
          (try dsimp only at hSw)
          (try simp only [List.getElem_toArray]); (try simp only [List.getElem_cons_succ]); (try simp only [List.getElem_cons_zero])
          go_simp
          try with_reducible rfl
        (try simp only [Act.put]); (try simp only [List.getElem_toArray]); (try simp only [List.getElem_cons_succ]); (try simp only [List.getElem_cons_zero]); (try simp only [List.setIfInBounds_toArray]); (try simp only [List.set_cons_succ]); (try simp only [List.set_cons_zero])
        refine wpAnyH_take (i := 6) (v := ?_) rfl (by kernel_rfl) (by kernel_rfl) (by kernel_rfl) (fun _ _ _ h => h) (Or.inl ⟨by kernel_rfl, ?_⟩) hHeld ?_
        rotate_left
        · intro w' hSw
          (try dsimp only at hSw)
          (try simp only [List.getElem_toArray]); (try simp only [List.getElem_cons_succ]); (try simp only [List.getElem_cons_zero])
          go_simp
          try with_reducible rfl
        (try simp only [Act.put]); (try simp only [List.getElem_toArray]); (try simp only [List.getElem_cons_succ]); (try simp only [List.getElem_cons_zero]); (try simp only [List.setIfInBounds_toArray]); (try simp only [List.set_cons_succ]); (try simp only [List.set_cons_zero])
        refine wpAnyH_take (i := 7) (v := ?_) rfl (by kernel_rfl) (by kernel_rfl) (by kernel_rfl) (fun _ _ _ h => h) (Or.inl ⟨by kernel_rfl, ?_⟩) hHeld ?_
        rotate_left
        · intro w' hSw
          (try dsimp only at hSw)
          (try simp only [List.getElem_toArray]); (try simp only [List.getElem_cons_succ]); (try simp only [List.getElem_cons_zero])
          go_simp
          try with_reducible rfl
        (try simp only [Act.put]); (try simp only [List.getElem_toArray]); (try simp only [List.getElem_cons_succ]); (try simp only [List.getElem_cons_zero]); (try simp only [List.setIfInBounds_toArray]); (try simp only [List.set_cons_succ]); (try simp only [List.set_cons_zero])
        refine wpAnyH_take (i := 8) (v := ?_) rfl (by kernel_rfl) (by kernel_rfl) (by kernel_rfl) (fun _ _ _ h => h) (Or.inl ⟨by kernel_rfl, ?_⟩) hHeld ?_
        rotate_left
        · intro w' hSw
          (try dsimp only at hSw)
          (try simp only [List.getElem_toArray]); (try simp only [List.getElem_cons_succ]); (try simp only [List.getElem_cons_zero])
          go_simp
          try with_reducible rfl
        (try simp only [Act.put]); (try simp only [List.getElem_toArray]); (try simp only [List.getElem_cons_succ]); (try simp only [List.getElem_cons_zero]); (try simp only [List.setIfInBounds_toArray]); (try simp only [List.set_cons_succ]); (try simp only [List.set_cons_zero])
        refine wpAnyH_take (i := 9) (v := ?_) rfl (by kernel_rfl) (by kernel_rfl) (by kernel_rfl) (fun _ _ _ h => h) (Or.inl ⟨by kernel_rfl, ?_⟩) hHeld ?_
        rotate_left
        · intro w' hSw
          (try dsimp only at hSw)
          (try simp only [List.getElem_toArray]); (try simp only [List.getElem_cons_succ]); (try simp only [List.getElem_cons_zero])
          go_simp
          try with_reducible rfl
        (try simp only [Act.put]); (try simp only [List.getElem_toArray]); (try simp only [List.getElem_cons_succ]); (try simp only [List.getElem_cons_zero]); (try simp only [List.setIfInBounds_toArray]); (try simp only [List.set_cons_succ]); (try simp only [List.set_cons_zero])
        refine wpAnyH_ready (rs := [10]) (by kernel_rfl) (by simp) ?_
        refine AllReadyH.cons rfl (fun K hK => ?_) AllReadyH.nil
        go_simp
        go_fit hB
        clear hB
        rintro e w5 ⟨rfl, rfl⟩
        go_wp2_with fail
        refine hK.out _ _ (hHeld) (fun hHeld => ?_)
        clear hK K
        (try simp only [Act.put]); (try simp only [List.getElem_toArray]); (try simp only [List.getElem_cons_succ]); (try simp only [List.getElem_cons_zero]); (try simp only [List.setIfInBounds_toArray]); (try simp only [List.set_cons_succ]); (try simp only [List.set_cons_zero])
        refine wpAnyH_take (i := 11) (v := ?_) rfl (by kernel_rfl) (by kernel_rfl) (by kernel_rfl) (fun _ _ _ h => h) (Or.inl ⟨by kernel_rfl, ?_⟩) hHeld ?_
        rotate_left
        · intro w' hSw
          (try dsimp only at hSw)
          (try simp only [List.getElem_toArray]); (try simp only [List.getElem_cons_succ]); (try simp only [List.getElem_cons_zero])
          go_simp
          try with_reducible rfl
        (try simp only [Act.put]); (try simp only [List.getElem_toArray]); (try simp only [List.getElem_cons_succ]); (try simp only [List.getElem_cons_zero]); (try simp only [List.setIfInBounds_toArray]); (try simp only [List.set_cons_succ]); (try simp only [List.set_cons_zero])
        refine wpAnyH_done (by kernel_rfl) ?_ _
        clear hHeld
        cases v2 with
        | true =>
          have HT : Hid (putS l x = l.take k ++ x :: l.drop (k + 1)) := by
            show _ = _
            rw [HPS.out, HD.out]
            rfl
          have hn1 : (1 : Int) ≤ ((l.length - k : Nat) : Int) := by omega
          have hn2 : 1 ≤ l.length - k := by omega
          rcases Nat.eq_or_lt_of_le (show 1 ≤ c - k by have := hcap; omega) with h1 | h1
          · have hck1 : c - k = 1 := h1.symm
            have HLR : Hid (Lies w (fun b => b < w.heap.size) (some ⟨b, o + k * 3, none⟩) (css.drop (k + 1)).flatten) := by
              have hz : (css.drop (k + 1)).flatten = [] := by
                rw [← flat_drop3 H3.out]
                exact List.drop_eq_nil_of_le (by rw [HFL.out]; omega)
              show Lies _ _ _ _
              rw [hz]
              exact Lies.nil _ _ _
            clear HD HPS h1
            go_upto_region 7 with fail
            have kz : Keep Nix we (we).drew := (Keep.refl Nix _).drew
            have kE := kk.trans kz
            have p0 := (rowX0.keep kz id).cell 0
            (try simp only [List.getElem?_cons_zero] at p0)
            have p1 := (rowX0.keep kz id).cell 1
            (try simp only [List.getElem?_cons_succ] at p1); (try simp only [List.getElem?_cons_zero] at p1)
            have p2 := (rowX0.keep kz id).cell 2
            (try simp only [List.getElem?_cons_succ] at p2); (try simp only [List.getElem?_cons_zero] at p2)
            refine wp_region_held_drew (S := (fun w' => w'.cell? ⟨w.heap.size, 0, none⟩ = some (.slice aK x.fKey.length cK) ∧ w'.cell? ⟨w.heap.size, 1, none⟩ = some (.slice aV x.fValue.length cV) ∧ w'.cell? ⟨w.heap.size, 2, none⟩ = some (.int .i64 x.fVersion))) (by kernel_rfl) (⟨p0, p1, p2⟩) (fun hHeld => ?_)
            have LA := (lies_take3 HLI.out H3.out k).keep kE (fun _ _ h => h)
            have LR := (HLR.out).keep kE (fun _ _ h => h)
            have hE : Hid (w.heap.size + 1 ≤ (we).drew.heap.size) := by show _ ≤ _; have := rowX0.lt; have := kz.size; omega
            have hwE := rowX0.keep kz id
            clear p0 p1 p2 kz rowX0
            generalize (we).drew = wE at *
            refine wpAnyH_take (i := 0) (v := ?_) rfl (by kernel_rfl) (by kernel_rfl) (by kernel_rfl) (fun _ _ _ h => h) (Or.inl ⟨by kernel_rfl, ?_⟩) hHeld ?_
            rotate_left
            · intro w' hSw
              (try dsimp only at hSw)
              (try simp only [List.getElem_toArray]); (try simp only [List.getElem_cons_succ]); (try simp only [List.getElem_cons_zero])
              go_simp
              try with_reducible rfl
            (try simp only [Act.put]); (try simp only [List.getElem_toArray]); (try simp only [List.getElem_cons_succ]); (try simp only [List.getElem_cons_zero]); (try simp only [List.setIfInBounds_toArray]); (try simp only [List.set_cons_succ]); (try simp only [List.set_cons_zero])
            refine wpAnyH_take (i := 1) (v := ?_) rfl (by kernel_rfl) (by kernel_rfl) (by kernel_rfl) (fun _ _ _ h => h) (Or.inl ⟨by kernel_rfl, ?_⟩) hHeld ?_
            rotate_left
            · intro w' hSw
              (try dsimp only at hSw)
              (try simp only [List.getElem_toArray]); (try simp only [List.getElem_cons_succ]); (try simp only [List.getElem_cons_zero])
              go_simp
              try with_reducible rfl
            (try simp only [Act.put]); (try simp only [List.getElem_toArray]); (try simp only [List.getElem_cons_succ]); (try simp only [List.getElem_cons_zero]); (try simp only [List.setIfInBounds_toArray]); (try simp only [List.set_cons_succ]); (try simp only [List.set_cons_zero])
            refine wpAnyH_take (i := 2) (v := ?_) rfl (by kernel_rfl) (by kernel_rfl) (by kernel_rfl) (fun _ _ _ h => h) (Or.inl ⟨by kernel_rfl, ?_⟩) hHeld ?_
            rotate_left
            · intro w' hSw
              (try dsimp only at hSw)
              (try simp only [List.getElem_toArray]); (try simp only [List.getElem_cons_succ]); (try simp only [List.getElem_cons_zero])
              go_simp
              try with_reducible rfl
            (try simp only [Act.put]); (try simp only [List.getElem_toArray]); (try simp only [List.getElem_cons_succ]); (try simp only [List.getElem_cons_zero]); (try simp only [List.setIfInBounds_toArray]); (try simp only [List.set_cons_succ]); (try simp only [List.set_cons_zero])
            refine wpAnyH_take (i := 4) (v := ?_) rfl (by kernel_rfl) (by kernel_rfl) (by kernel_rfl) (fun _ _ _ h => h) (Or.inl ⟨by kernel_rfl, ?_⟩) hHeld ?_
            rotate_left
            · intro w' hSw
              (try dsimp only at hSw)
              (try simp only [List.getElem_toArray]); (try simp only [List.getElem_cons_succ]); (try simp only [List.getElem_cons_zero])
              go_simp
              try with_reducible rfl
            (try simp only [Act.put]); (try simp only [List.getElem_toArray]); (try simp only [List.getElem_cons_succ]); (try simp only [List.getElem_cons_zero]); (try simp only [List.setIfInBounds_toArray]); (try simp only [List.set_cons_succ]); (try simp only [List.set_cons_zero])
            refine wpAnyH_take (i := 7) (v := ?_) rfl (by kernel_rfl) (by kernel_rfl) (by kernel_rfl) (fun _ _ _ h => h) (Or.inl ⟨by kernel_rfl, ?_⟩) hHeld ?_
            rotate_left
            · intro w' hSw
              (try dsimp only at hSw)
              (try simp only [List.getElem_toArray]); (try simp only [List.getElem_cons_succ]); (try simp only [List.getElem_cons_zero])
              go_simp
              try with_reducible rfl
            (try simp only [Act.put]); (try simp only [List.getElem_toArray]); (try simp only [List.getElem_cons_succ]); (try simp only [List.getElem_cons_zero]); (try simp only [List.setIfInBounds_toArray]); (try simp only [List.set_cons_succ]); (try simp only [List.set_cons_zero])
            refine wpAnyH_ready (rs := [3, 5]) (by kernel_rfl) (by simp) ?_
            refine AllReadyH.cons rfl (fun K hK => ?_) (AllReadyH.cons rfl (fun K hK => ?_) AllReadyH.nil)
            · obtain ⟨a1, c1, W2, hr1, own1, k1⟩ := appN_run T_lPair 22 (w.heap.size + 1) (World.ownsRow_nil wE (w.heap.size + 1) 29 3) (css.take k).flatten (m := k) (c := c) (by rw [← flat_take3 H3.out, List.length_take, HFL.out]; omega) LA (fun u hu => HON.out u (by rw [← flat_take3 H3.out] at hu; exact List.mem_of_mem_take hu)) (by unfold maxLen; omega) (by omega) hE.out
              rw [Nat.zero_add] at hr1 own1
              rw [List.nil_append] at own1
              refine step_app (by kernel_rfl) _ _ rfl rfl rfl hr1 ?_
              replace k1 : Keep Nix wE W2 := k1.mono (fun b h => by cases h)
              have hx1 := hwE.lt
              refine hK.out _ _ (⟨(k1.cell (p := ⟨w.heap.size, 0, none⟩) hx1 id).trans hHeld.1, (k1.cell (p := ⟨w.heap.size, 1, none⟩) hx1 id).trans hHeld.2.1, (k1.cell (p := ⟨w.heap.size, 2, none⟩) hx1 id).trans hHeld.2.2⟩) (fun hHeld => ?_)
              clear hK K
              (try simp only [Act.put]); (try simp only [List.getElem_toArray]); (try simp only [List.getElem_cons_succ]); (try simp only [List.getElem_cons_zero]); (try simp only [List.setIfInBounds_toArray]); (try simp only [List.set_cons_succ]); (try simp only [List.set_cons_zero])
              refine wpAnyH_ready (rs := [5]) (by kernel_rfl) (by simp) ?_
              refine AllReadyH.cons rfl (fun K hK => ?_) AllReadyH.nil
              go_simp
              have kx : Keep Nix W2 (W2.alloc (.cells #[.slice aK x.fKey.length cK, .slice aV x.fValue.length cV, .int .i64 x.fVersion] 29)) := (Keep.refl Nix W2).alloc _
              have hx2 := Nat.lt_of_lt_of_le hx1 k1.size
              refine hK.out _ _ (⟨(kx.cell (p := ⟨w.heap.size, 0, none⟩) hx2 id).trans hHeld.1, (kx.cell (p := ⟨w.heap.size, 1, none⟩) hx2 id).trans hHeld.2.1, (kx.cell (p := ⟨w.heap.size, 2, none⟩) hx2 id).trans hHeld.2.2⟩) (fun hHeld => ?_)
              clear hK K
              (try simp only [Act.put]); (try simp only [List.getElem_toArray]); (try simp only [List.getElem_cons_succ]); (try simp only [List.getElem_cons_zero]); (try simp only [List.setIfInBounds_toArray]); (try simp only [List.set_cons_succ]); (try simp only [List.set_cons_zero])
              have rowX := RowIs.alloc W2 #[.slice aK x.fKey.length cK, .slice aV x.fValue.length cV, .int .i64 x.fVersion] 29
              replace own1 := owned_keep own1 kx (fun _ _ h => h)
              have kW := k1.trans kx
              clear kx k1 hr1
              generalize W2.heap.size = gX at *
              generalize W2.alloc (.cells #[.slice aK x.fKey.length cK, .slice aV x.fValue.length cV, .int .i64 x.fVersion] 29) = W2 at *
              obtain ⟨a3, c3, w3, hr3, own3, k3⟩ := appN_run T_lPair 22 (w.heap.size + 1) own1 [.slice aK x.fKey.length cK, .slice aV x.fValue.length cV, .int .i64 x.fVersion] rfl (rowX.lies (fun _ => True) trivial (off := 0) (fun j u hu => by rw [Nat.zero_add]; exact hu)) (fun u hu => List.all_eq_true.1 (show ([.slice aK x.fKey.length cK, .slice aV x.fValue.length cV, .int .i64 x.fVersion] : List Value).all Value.oneCell' = true from rfl) u hu) (c := 1) (m := 1) (by unfold maxLen; omega) (by omega) (by have := hE.out; have := kW.size; omega)
              refine wpAnyH_ready (rs := [6]) (by kernel_rfl) (by simp) ?_
              refine AllReadyH.cons rfl (fun K hK => ?_) AllReadyH.nil
              refine step_app (by kernel_rfl) _ _ rfl rfl rfl hr3 ?_
              have hge2 : ∀ b, OwnB (.slice a1 k c1) b → w.heap.size + 1 ≤ b := fun b hb => (own1.lt b hb).1
              have hne2 : ¬ OwnB (.slice a1 k c1) w.heap.size := fun h => by have := hge2 _ h; omega
              have hwx2 : w.heap.size < W2.heap.size := by have := hE.out; have := kW.size; omega
              refine hK.out _ _ (⟨(k3.cell (p := ⟨w.heap.size, 0, none⟩) hwx2 hne2).trans hHeld.1, (k3.cell (p := ⟨w.heap.size, 1, none⟩) hwx2 hne2).trans hHeld.2.1, (k3.cell (p := ⟨w.heap.size, 2, none⟩) hwx2 hne2).trans hHeld.2.2⟩) (fun hHeld => ?_)
              clear hK K
              (try simp only [Act.put]); (try simp only [List.getElem_toArray]); (try simp only [List.getElem_cons_succ]); (try simp only [List.getElem_cons_zero]); (try simp only [List.setIfInBounds_toArray]); (try simp only [List.set_cons_succ]); (try simp only [List.set_cons_zero])
              have hwx3 : w.heap.size < w3.heap.size := by have := k3.size; omega
              have LR3 := (LR.keep kW (fun _ _ h => h)).keep k3 (fun b hb h => by have := hge2 b h; have hb' : b < w.heap.size := hb; omega)
              obtain ⟨a4, c4, w4, hr4, own4, k4⟩ := appN_run T_lPair 22 (w.heap.size + 1) own3 (css.drop (k + 1)).flatten (m := (l.length - k - 1)) (c := (c - k - 1)) (by rw [← flat_drop3 H3.out, List.length_drop, HFL.out]; omega) LR3 (fun u hu => HON.out u (by rw [← flat_drop3 H3.out] at hu; exact List.mem_of_mem_drop hu)) (by unfold maxLen; omega) (by omega) (by omega)
              refine wpAnyH_ready (rs := [8]) (by kernel_rfl) (by simp) ?_
              refine AllReadyH.cons rfl (fun K hK => ?_) AllReadyH.nil
              refine step_app (by kernel_rfl) _ _ rfl rfl rfl hr4 ?_
              have hge3 : ∀ b, OwnB (.slice a3 (k + 1) c3) b → w.heap.size + 1 ≤ b := fun b hb => (own3.lt b hb).1
              have hne3 : ¬ OwnB (.slice a3 (k + 1) c3) w.heap.size := fun h => by have := hge3 _ h; omega
              refine hK.out _ _ (⟨(k4.cell (p := ⟨w.heap.size, 0, none⟩) hwx3 hne3).trans hHeld.1, (k4.cell (p := ⟨w.heap.size, 1, none⟩) hwx3 hne3).trans hHeld.2.1, (k4.cell (p := ⟨w.heap.size, 2, none⟩) hwx3 hne3).trans hHeld.2.2⟩) (fun hHeld => ?_)
              clear hK K
              (try simp only [Act.put]); (try simp only [List.getElem_toArray]); (try simp only [List.getElem_cons_succ]); (try simp only [List.getElem_cons_zero]); (try simp only [List.setIfInBounds_toArray]); (try simp only [List.set_cons_succ]); (try simp only [List.set_cons_zero])
              refine wpAnyH_take (i := 9) (v := ?_) rfl (by kernel_rfl) (by kernel_rfl) (by kernel_rfl) (fun _ _ _ h => h) (Or.inl ⟨by kernel_rfl, ?_⟩) hHeld ?_
              rotate_left
              · intro w' hSw
                (try dsimp only at hSw)
                (try simp only [List.getElem_toArray]); (try simp only [List.getElem_cons_succ]); (try simp only [List.getElem_cons_zero])
                go_simp
                try with_reducible rfl
              (try simp only [Act.put]); (try simp only [List.getElem_toArray]); (try simp only [List.getElem_cons_succ]); (try simp only [List.getElem_cons_zero]); (try simp only [List.setIfInBounds_toArray]); (try simp only [List.set_cons_succ]); (try simp only [List.set_cons_zero])
              refine wpAnyH_done (by kernel_rfl) ?_ _
              clear hHeld
              have kAll := (kE.trans kW).then ((k3.mono (T := fun b => w.heap.size + 1 ≤ b) (fun b hb => hge2 b hb)).trans (k4.mono (T := fun b => w.heap.size + 1 ≤ b) (fun b hb => hge3 b hb))) (fun i hi h => by omega)
              have els4 : Els rGPair w4 (fun b => (p b ∨ q b) ∧ b < w.heap.size) (css.take k ++ [.slice aK x.fKey.length cK, .slice aV x.fValue.length cV, .int .i64 x.fVersion] :: css.drop (k + 1)) (l.take k ++ x :: l.drop (k + 1)) := by
                have k24 : Keep (fun b => w.heap.size ≤ b) w w4 := kAll.nixS
                have e1 := ((HEL.out.takeN k).keep rGPair_lawful k24 (fun b hb h => by have := hb.2; omega)).mono (q := fun b => (p b ∨ q b) ∧ b < w.heap.size) rGPair_lawful (fun b hb => ⟨.inl hb.1, hb.2⟩)
                have e2 := ((HEL.out.dropN (k + 1)).keep rGPair_lawful k24 (fun b hb h => by have := hb.2; omega)).mono (q := fun b => (p b ∨ q b) ∧ b < w.heap.size) rGPair_lawful (fun b hb => ⟨.inl hb.1, hb.2⟩)
                have e3 := rGPair_lawful.mono (q := fun b => (p b ∨ q b) ∧ b < w.heap.size) (rGPair_lawful.keep HXX.out k24 (fun b hb h => by have := hb.2; omega)) (fun b hb => ⟨.inr hb.1, hb.2⟩)
                exact e1.app (Els.cons e3 e2)
              have HOWN := Lib.hid own4
              have HE4 := Lib.hid els4
              have HKA := Lib.hid kAll
              clear own1 own3 own4 els4 kAll k3 k4 kE kW hge2 hge3 hne2 hne3 hwx2 hwx3 LR LR3 LA rowX hE
              go_wp2_with fail
              go_ret
              rw [HT.out]
              have hlen : (l.take k ++ x :: l.drop (k + 1)).length = k + 1 + ((l.length - k - 1)) := by rw [List.length_append, List.length_cons, List.length_take, List.length_drop]; omega
              refine ⟨a4, c4, _, by rw [hlen]; rfl, ?_, HE4.out, HKA.out⟩
              rw [hlen, List.flatten_append, List.flatten_cons, ← List.append_assoc]
              exact own_from HOWN.out (by omega)
            · go_simp
              have kx : Keep Nix wE (wE.alloc (.cells #[.slice aK x.fKey.length cK, .slice aV x.fValue.length cV, .int .i64 x.fVersion] 29)) := (Keep.refl Nix wE).alloc _
              have hx1 := hwE.lt
              refine hK.out _ _ (⟨(kx.cell (p := ⟨w.heap.size, 0, none⟩) hx1 id).trans hHeld.1, (kx.cell (p := ⟨w.heap.size, 1, none⟩) hx1 id).trans hHeld.2.1, (kx.cell (p := ⟨w.heap.size, 2, none⟩) hx1 id).trans hHeld.2.2⟩) (fun hHeld => ?_)
              clear hK K
              (try simp only [Act.put]); (try simp only [List.getElem_toArray]); (try simp only [List.getElem_cons_succ]); (try simp only [List.getElem_cons_zero]); (try simp only [List.setIfInBounds_toArray]); (try simp only [List.set_cons_succ]); (try simp only [List.set_cons_zero])
              have rowX := RowIs.alloc wE #[.slice aK x.fKey.length cK, .slice aV x.fValue.length cV, .int .i64 x.fVersion] 29
              have hx2 := Nat.lt_of_lt_of_le hx1 kx.size
              generalize wE.heap.size = gX at rowX ⊢
              generalize wE.alloc (.cells #[.slice aK x.fKey.length cK, .slice aV x.fValue.length cV, .int .i64 x.fVersion] 29) = wY at *
              obtain ⟨a1, c1, W2, hr1, own1, k1⟩ := appN_run T_lPair 22 (w.heap.size + 1) (World.ownsRow_nil wY (w.heap.size + 1) 29 3) (css.take k).flatten (m := k) (c := c) (by rw [← flat_take3 H3.out, List.length_take, HFL.out]; omega) (LA.keep kx (fun _ _ h => h)) (fun u hu => HON.out u (by rw [← flat_take3 H3.out] at hu; exact List.mem_of_mem_take hu)) (by unfold maxLen; omega) (by omega) (by have := hE.out; have := kx.size; omega)
              rw [Nat.zero_add] at hr1 own1
              rw [List.nil_append] at own1
              refine wpAnyH_ready (rs := [3]) (by kernel_rfl) (by simp) ?_
              refine AllReadyH.cons rfl (fun K hK => ?_) AllReadyH.nil
              refine step_app (by kernel_rfl) _ _ rfl rfl rfl hr1 ?_
              replace k1 : Keep Nix wY W2 := k1.mono (fun b h => by cases h)
              refine hK.out _ _ (⟨(k1.cell (p := ⟨w.heap.size, 0, none⟩) hx2 id).trans hHeld.1, (k1.cell (p := ⟨w.heap.size, 1, none⟩) hx2 id).trans hHeld.2.1, (k1.cell (p := ⟨w.heap.size, 2, none⟩) hx2 id).trans hHeld.2.2⟩) (fun hHeld => ?_)
              clear hK K
              (try simp only [Act.put]); (try simp only [List.getElem_toArray]); (try simp only [List.getElem_cons_succ]); (try simp only [List.getElem_cons_zero]); (try simp only [List.setIfInBounds_toArray]); (try simp only [List.set_cons_succ]); (try simp only [List.set_cons_zero])
              replace rowX := rowX.keep k1 id
              have kW := kx.trans k1
              clear kx k1 hr1
              obtain ⟨a3, c3, w3, hr3, own3, k3⟩ := appN_run T_lPair 22 (w.heap.size + 1) own1 [.slice aK x.fKey.length cK, .slice aV x.fValue.length cV, .int .i64 x.fVersion] rfl (rowX.lies (fun _ => True) trivial (off := 0) (fun j u hu => by rw [Nat.zero_add]; exact hu)) (fun u hu => List.all_eq_true.1 (show ([.slice aK x.fKey.length cK, .slice aV x.fValue.length cV, .int .i64 x.fVersion] : List Value).all Value.oneCell' = true from rfl) u hu) (c := 1) (m := 1) (by unfold maxLen; omega) (by omega) (by have := hE.out; have := kW.size; omega)
              refine wpAnyH_ready (rs := [6]) (by kernel_rfl) (by simp) ?_
              refine AllReadyH.cons rfl (fun K hK => ?_) AllReadyH.nil
              refine step_app (by kernel_rfl) _ _ rfl rfl rfl hr3 ?_
              have hge2 : ∀ b, OwnB (.slice a1 k c1) b → w.heap.size + 1 ≤ b := fun b hb => (own1.lt b hb).1
              have hne2 : ¬ OwnB (.slice a1 k c1) w.heap.size := fun h => by have := hge2 _ h; omega
              have hwx2 : w.heap.size < W2.heap.size := by have := hE.out; have := kW.size; omega
              refine hK.out _ _ (⟨(k3.cell (p := ⟨w.heap.size, 0, none⟩) hwx2 hne2).trans hHeld.1, (k3.cell (p := ⟨w.heap.size, 1, none⟩) hwx2 hne2).trans hHeld.2.1, (k3.cell (p := ⟨w.heap.size, 2, none⟩) hwx2 hne2).trans hHeld.2.2⟩) (fun hHeld => ?_)
              clear hK K
              (try simp only [Act.put]); (try simp only [List.getElem_toArray]); (try simp only [List.getElem_cons_succ]); (try simp only [List.getElem_cons_zero]); (try simp only [List.setIfInBounds_toArray]); (try simp only [List.set_cons_succ]); (try simp only [List.set_cons_zero])
              have hwx3 : w.heap.size < w3.heap.size := by have := k3.size; omega
              have LR3 := (LR.keep kW (fun _ _ h => h)).keep k3 (fun b hb h => by have := hge2 b h; have hb' : b < w.heap.size := hb; omega)
              obtain ⟨a4, c4, w4, hr4, own4, k4⟩ := appN_run T_lPair 22 (w.heap.size + 1) own3 (css.drop (k + 1)).flatten (m := (l.length - k - 1)) (c := (c - k - 1)) (by rw [← flat_drop3 H3.out, List.length_drop, HFL.out]; omega) LR3 (fun u hu => HON.out u (by rw [← flat_drop3 H3.out] at hu; exact List.mem_of_mem_drop hu)) (by unfold maxLen; omega) (by omega) (by omega)
              refine wpAnyH_ready (rs := [8]) (by kernel_rfl) (by simp) ?_
              refine AllReadyH.cons rfl (fun K hK => ?_) AllReadyH.nil
              refine step_app (by kernel_rfl) _ _ rfl rfl rfl hr4 ?_
              have hge3 : ∀ b, OwnB (.slice a3 (k + 1) c3) b → w.heap.size + 1 ≤ b := fun b hb => (own3.lt b hb).1
              have hne3 : ¬ OwnB (.slice a3 (k + 1) c3) w.heap.size := fun h => by have := hge3 _ h; omega
              refine hK.out _ _ (⟨(k4.cell (p := ⟨w.heap.size, 0, none⟩) hwx3 hne3).trans hHeld.1, (k4.cell (p := ⟨w.heap.size, 1, none⟩) hwx3 hne3).trans hHeld.2.1, (k4.cell (p := ⟨w.heap.size, 2, none⟩) hwx3 hne3).trans hHeld.2.2⟩) (fun hHeld => ?_)
              clear hK K
              (try simp only [Act.put]); (try simp only [List.getElem_toArray]); (try simp only [List.getElem_cons_succ]); (try simp only [List.getElem_cons_zero]); (try simp only [List.setIfInBounds_toArray]); (try simp only [List.set_cons_succ]); (try simp only [List.set_cons_zero])
              refine wpAnyH_take (i := 9) (v := ?_) rfl (by kernel_rfl) (by kernel_rfl) (by kernel_rfl) (fun _ _ _ h => h) (Or.inl ⟨by kernel_rfl, ?_⟩) hHeld ?_
              rotate_left
              · intro w' hSw
                (try dsimp only at hSw)
                (try simp only [List.getElem_toArray]); (try simp only [List.getElem_cons_succ]); (try simp only [List.getElem_cons_zero])
                go_simp
                try with_reducible rfl
              (try simp only [Act.put]); (try simp only [List.getElem_toArray]); (try simp only [List.getElem_cons_succ]); (try simp only [List.getElem_cons_zero]); (try simp only [List.setIfInBounds_toArray]); (try simp only [List.set_cons_succ]); (try simp only [List.set_cons_zero])
              refine wpAnyH_done (by kernel_rfl) ?_ _
              clear hHeld
              have kAll := (kE.trans kW).then ((k3.mono (T := fun b => w.heap.size + 1 ≤ b) (fun b hb => hge2 b hb)).trans (k4.mono (T := fun b => w.heap.size + 1 ≤ b) (fun b hb => hge3 b hb))) (fun i hi h => by omega)
              have els4 : Els rGPair w4 (fun b => (p b ∨ q b) ∧ b < w.heap.size) (css.take k ++ [.slice aK x.fKey.length cK, .slice aV x.fValue.length cV, .int .i64 x.fVersion] :: css.drop (k + 1)) (l.take k ++ x :: l.drop (k + 1)) := by
                have k24 : Keep (fun b => w.heap.size ≤ b) w w4 := kAll.nixS
                have e1 := ((HEL.out.takeN k).keep rGPair_lawful k24 (fun b hb h => by have := hb.2; omega)).mono (q := fun b => (p b ∨ q b) ∧ b < w.heap.size) rGPair_lawful (fun b hb => ⟨.inl hb.1, hb.2⟩)
                have e2 := ((HEL.out.dropN (k + 1)).keep rGPair_lawful k24 (fun b hb h => by have := hb.2; omega)).mono (q := fun b => (p b ∨ q b) ∧ b < w.heap.size) rGPair_lawful (fun b hb => ⟨.inl hb.1, hb.2⟩)
                have e3 := rGPair_lawful.mono (q := fun b => (p b ∨ q b) ∧ b < w.heap.size) (rGPair_lawful.keep HXX.out k24 (fun b hb h => by have := hb.2; omega)) (fun b hb => ⟨.inr hb.1, hb.2⟩)
                exact e1.app (Els.cons e3 e2)
              have HOWN := Lib.hid own4
              have HE4 := Lib.hid els4
              have HKA := Lib.hid kAll
              clear own1 own3 own4 els4 kAll k3 k4 kE kW hge2 hge3 hne2 hne3 hwx2 hwx3 LR LR3 LA rowX hE
              go_wp2_with fail
              go_ret
              rw [HT.out]
              have hlen : (l.take k ++ x :: l.drop (k + 1)).length = k + 1 + ((l.length - k - 1)) := by rw [List.length_append, List.length_cons, List.length_take, List.length_drop]; omega
              refine ⟨a4, c4, _, by rw [hlen]; rfl, ?_, HE4.out, HKA.out⟩
              rw [hlen, List.flatten_append, List.flatten_cons, ← List.append_assoc]
              exact own_from HOWN.out (by omega)
          · have hck1 : ¬ c - k = 1 := by omega
            have HLR : Hid (Lies w (fun b => b < w.heap.size) (some ⟨b, o + k * 3 + 3, none⟩) (css.drop (k + 1)).flatten) := by
              have h := lies_drop3 HLI.out H3.out (k + 1)
              show Lies _ _ _ _
              rw [show o + (k + 1) * 3 = o + k * 3 + 3 by omega] at h
              exact h
            clear HD HPS h1
            go_upto_region 7 with fail
            have kz : Keep Nix we (we).drew := (Keep.refl Nix _).drew
            have kE := kk.trans kz
            have p0 := (rowX0.keep kz id).cell 0
            (try simp only [List.getElem?_cons_zero] at p0)
            have p1 := (rowX0.keep kz id).cell 1
            (try simp only [List.getElem?_cons_succ] at p1); (try simp only [List.getElem?_cons_zero] at p1)
            have p2 := (rowX0.keep kz id).cell 2
            (try simp only [List.getElem?_cons_succ] at p2); (try simp only [List.getElem?_cons_zero] at p2)
            refine wp_region_held_drew (S := (fun w' => w'.cell? ⟨w.heap.size, 0, none⟩ = some (.slice aK x.fKey.length cK) ∧ w'.cell? ⟨w.heap.size, 1, none⟩ = some (.slice aV x.fValue.length cV) ∧ w'.cell? ⟨w.heap.size, 2, none⟩ = some (.int .i64 x.fVersion))) (by kernel_rfl) (⟨p0, p1, p2⟩) (fun hHeld => ?_)
            have LA := (lies_take3 HLI.out H3.out k).keep kE (fun _ _ h => h)
            have LR := (HLR.out).keep kE (fun _ _ h => h)
            have hE : Hid (w.heap.size + 1 ≤ (we).drew.heap.size) := by show _ ≤ _; have := rowX0.lt; have := kz.size; omega
            have hwE := rowX0.keep kz id
            clear p0 p1 p2 kz rowX0
            generalize (we).drew = wE at *
            refine wpAnyH_take (i := 0) (v := ?_) rfl (by kernel_rfl) (by kernel_rfl) (by kernel_rfl) (fun _ _ _ h => h) (Or.inl ⟨by kernel_rfl, ?_⟩) hHeld ?_
            rotate_left
            · intro w' hSw
              (try dsimp only at hSw)
              (try simp only [List.getElem_toArray]); (try simp only [List.getElem_cons_succ]); (try simp only [List.getElem_cons_zero])
              go_simp
              try with_reducible rfl
            (try simp only [Act.put]); (try simp only [List.getElem_toArray]); (try simp only [List.getElem_cons_succ]); (try simp only [List.getElem_cons_zero]); (try simp only [List.setIfInBounds_toArray]); (try simp only [List.set_cons_succ]); (try simp only [List.set_cons_zero])
            refine wpAnyH_take (i := 1) (v := ?_) rfl (by kernel_rfl) (by kernel_rfl) (by kernel_rfl) (fun _ _ _ h => h) (Or.inl ⟨by kernel_rfl, ?_⟩) hHeld ?_
            rotate_left
            · intro w' hSw
              (try dsimp only at hSw)
              (try simp only [List.getElem_toArray]); (try simp only [List.getElem_cons_succ]); (try simp only [List.getElem_cons_zero])
              go_simp
              try with_reducible rfl
            (try simp only [Act.put]); (try simp only [List.getElem_toArray]); (try simp only [List.getElem_cons_succ]); (try simp only [List.getElem_cons_zero]); (try simp only [List.setIfInBounds_toArray]); (try simp only [List.set_cons_succ]); (try simp only [List.set_cons_zero])
            refine wpAnyH_take (i := 2) (v := ?_) rfl (by kernel_rfl) (by kernel_rfl) (by kernel_rfl) (fun _ _ _ h => h) (Or.inl ⟨by kernel_rfl, ?_⟩) hHeld ?_
            rotate_left
            · intro w' hSw
              (try dsimp only at hSw)
              (try simp only [List.getElem_toArray]); (try simp only [List.getElem_cons_succ]); (try simp only [List.getElem_cons_zero])
              go_simp
              try with_reducible rfl
            (try simp only [Act.put]); (try simp only [List.getElem_toArray]); (try simp only [List.getElem_cons_succ]); (try simp only [List.getElem_cons_zero]); (try simp only [List.setIfInBounds_toArray]); (try simp only [List.set_cons_succ]); (try simp only [List.set_cons_zero])
            refine wpAnyH_take (i := 4) (v := ?_) rfl (by kernel_rfl) (by kernel_rfl) (by kernel_rfl) (fun _ _ _ h => h) (Or.inl ⟨by kernel_rfl, ?_⟩) hHeld ?_
            rotate_left
            · intro w' hSw
              (try dsimp only at hSw)
              (try simp only [List.getElem_toArray]); (try simp only [List.getElem_cons_succ]); (try simp only [List.getElem_cons_zero])
              go_simp
              try with_reducible rfl
            (try simp only [Act.put]); (try simp only [List.getElem_toArray]); (try simp only [List.getElem_cons_succ]); (try simp only [List.getElem_cons_zero]); (try simp only [List.setIfInBounds_toArray]); (try simp only [List.set_cons_succ]); (try simp only [List.set_cons_zero])
            refine wpAnyH_take (i := 7) (v := ?_) rfl (by kernel_rfl) (by kernel_rfl) (by kernel_rfl) (fun _ _ _ h => h) (Or.inl ⟨by kernel_rfl, ?_⟩) hHeld ?_
            rotate_left
            · intro w' hSw
              (try dsimp only at hSw)
              (try simp only [List.getElem_toArray]); (try simp only [List.getElem_cons_succ]); (try simp only [List.getElem_cons_zero])
              go_simp
              try with_reducible rfl
            (try simp only [Act.put]); (try simp only [List.getElem_toArray]); (try simp only [List.getElem_cons_succ]); (try simp only [List.getElem_cons_zero]); (try simp only [List.setIfInBounds_toArray]); (try simp only [List.set_cons_succ]); (try simp only [List.set_cons_zero])
            refine wpAnyH_ready (rs := [3, 5]) (by kernel_rfl) (by simp) ?_
            refine AllReadyH.cons rfl (fun K hK => ?_) (AllReadyH.cons rfl (fun K hK => ?_) AllReadyH.nil)
            · obtain ⟨a1, c1, W2, hr1, own1, k1⟩ := appN_run T_lPair 22 (w.heap.size + 1) (World.ownsRow_nil wE (w.heap.size + 1) 29 3) (css.take k).flatten (m := k) (c := c) (by rw [← flat_take3 H3.out, List.length_take, HFL.out]; omega) LA (fun u hu => HON.out u (by rw [← flat_take3 H3.out] at hu; exact List.mem_of_mem_take hu)) (by unfold maxLen; omega) (by omega) hE.out
              rw [Nat.zero_add] at hr1 own1
              rw [List.nil_append] at own1
              refine step_app (by kernel_rfl) _ _ rfl rfl rfl hr1 ?_
              replace k1 : Keep Nix wE W2 := k1.mono (fun b h => by cases h)
              have hx1 := hwE.lt
              refine hK.out _ _ (⟨(k1.cell (p := ⟨w.heap.size, 0, none⟩) hx1 id).trans hHeld.1, (k1.cell (p := ⟨w.heap.size, 1, none⟩) hx1 id).trans hHeld.2.1, (k1.cell (p := ⟨w.heap.size, 2, none⟩) hx1 id).trans hHeld.2.2⟩) (fun hHeld => ?_)
              clear hK K
              (try simp only [Act.put]); (try simp only [List.getElem_toArray]); (try simp only [List.getElem_cons_succ]); (try simp only [List.getElem_cons_zero]); (try simp only [List.setIfInBounds_toArray]); (try simp only [List.set_cons_succ]); (try simp only [List.set_cons_zero])
              refine wpAnyH_ready (rs := [5]) (by kernel_rfl) (by simp) ?_
              refine AllReadyH.cons rfl (fun K hK => ?_) AllReadyH.nil
              go_simp
              have kx : Keep Nix W2 (W2.alloc (.cells #[.slice aK x.fKey.length cK, .slice aV x.fValue.length cV, .int .i64 x.fVersion] 29)) := (Keep.refl Nix W2).alloc _
              have hx2 := Nat.lt_of_lt_of_le hx1 k1.size
              refine hK.out _ _ (⟨(kx.cell (p := ⟨w.heap.size, 0, none⟩) hx2 id).trans hHeld.1, (kx.cell (p := ⟨w.heap.size, 1, none⟩) hx2 id).trans hHeld.2.1, (kx.cell (p := ⟨w.heap.size, 2, none⟩) hx2 id).trans hHeld.2.2⟩) (fun hHeld => ?_)
              clear hK K
              (try simp only [Act.put]); (try simp only [List.getElem_toArray]); (try simp only [List.getElem_cons_succ]); (try simp only [List.getElem_cons_zero]); (try simp only [List.setIfInBounds_toArray]); (try simp only [List.set_cons_succ]); (try simp only [List.set_cons_zero])
              have rowX := RowIs.alloc W2 #[.slice aK x.fKey.length cK, .slice aV x.fValue.length cV, .int .i64 x.fVersion] 29
              replace own1 := owned_keep own1 kx (fun _ _ h => h)
              have kW := k1.trans kx
              clear kx k1 hr1
              generalize W2.heap.size = gX at *
              generalize W2.alloc (.cells #[.slice aK x.fKey.length cK, .slice aV x.fValue.length cV, .int .i64 x.fVersion] 29) = W2 at *
              obtain ⟨a3, c3, w3, hr3, own3, k3⟩ := appN_run T_lPair 22 (w.heap.size + 1) own1 [.slice aK x.fKey.length cK, .slice aV x.fValue.length cV, .int .i64 x.fVersion] rfl (rowX.lies (fun _ => True) trivial (off := 0) (fun j u hu => by rw [Nat.zero_add]; exact hu)) (fun u hu => List.all_eq_true.1 (show ([.slice aK x.fKey.length cK, .slice aV x.fValue.length cV, .int .i64 x.fVersion] : List Value).all Value.oneCell' = true from rfl) u hu) (c := 1) (m := 1) (by unfold maxLen; omega) (by omega) (by have := hE.out; have := kW.size; omega)
              refine wpAnyH_ready (rs := [6]) (by kernel_rfl) (by simp) ?_
              refine AllReadyH.cons rfl (fun K hK => ?_) AllReadyH.nil
              refine step_app (by kernel_rfl) _ _ rfl rfl rfl hr3 ?_
              have hge2 : ∀ b, OwnB (.slice a1 k c1) b → w.heap.size + 1 ≤ b := fun b hb => (own1.lt b hb).1
              have hne2 : ¬ OwnB (.slice a1 k c1) w.heap.size := fun h => by have := hge2 _ h; omega
              have hwx2 : w.heap.size < W2.heap.size := by have := hE.out; have := kW.size; omega
              refine hK.out _ _ (⟨(k3.cell (p := ⟨w.heap.size, 0, none⟩) hwx2 hne2).trans hHeld.1, (k3.cell (p := ⟨w.heap.size, 1, none⟩) hwx2 hne2).trans hHeld.2.1, (k3.cell (p := ⟨w.heap.size, 2, none⟩) hwx2 hne2).trans hHeld.2.2⟩) (fun hHeld => ?_)
              clear hK K
              (try simp only [Act.put]); (try simp only [List.getElem_toArray]); (try simp only [List.getElem_cons_succ]); (try simp only [List.getElem_cons_zero]); (try simp only [List.setIfInBounds_toArray]); (try simp only [List.set_cons_succ]); (try simp only [List.set_cons_zero])
              have hwx3 : w.heap.size < w3.heap.size := by have := k3.size; omega
              have LR3 := (LR.keep kW (fun _ _ h => h)).keep k3 (fun b hb h => by have := hge2 b h; have hb' : b < w.heap.size := hb; omega)
              obtain ⟨a4, c4, w4, hr4, own4, k4⟩ := appN_run T_lPair 22 (w.heap.size + 1) own3 (css.drop (k + 1)).flatten (m := (l.length - k - 1)) (c := (c - k - 1)) (by rw [← flat_drop3 H3.out, List.length_drop, HFL.out]; omega) LR3 (fun u hu => HON.out u (by rw [← flat_drop3 H3.out] at hu; exact List.mem_of_mem_drop hu)) (by unfold maxLen; omega) (by omega) (by omega)
              refine wpAnyH_ready (rs := [8]) (by kernel_rfl) (by simp) ?_
              refine AllReadyH.cons rfl (fun K hK => ?_) AllReadyH.nil
              refine step_app (by kernel_rfl) _ _ rfl rfl rfl hr4 ?_
              have hge3 : ∀ b, OwnB (.slice a3 (k + 1) c3) b → w.heap.size + 1 ≤ b := fun b hb => (own3.lt b hb).1
              have hne3 : ¬ OwnB (.slice a3 (k + 1) c3) w.heap.size := fun h => by have := hge3 _ h; omega
              refine hK.out _ _ (⟨(k4.cell (p := ⟨w.heap.size, 0, none⟩) hwx3 hne3).trans hHeld.1, (k4.cell (p := ⟨w.heap.size, 1, none⟩) hwx3 hne3).trans hHeld.2.1, (k4.cell (p := ⟨w.heap.size, 2, none⟩) hwx3 hne3).trans hHeld.2.2⟩) (fun hHeld => ?_)
              clear hK K
              (try simp only [Act.put]); (try simp only [List.getElem_toArray]); (try simp only [List.getElem_cons_succ]); (try simp only [List.getElem_cons_zero]); (try simp only [List.setIfInBounds_toArray]); (try simp only [List.set_cons_succ]); (try simp only [List.set_cons_zero])
              refine wpAnyH_take (i := 9) (v := ?_) rfl (by kernel_rfl) (by kernel_rfl) (by kernel_rfl) (fun _ _ _ h => h) (Or.inl ⟨by kernel_rfl, ?_⟩) hHeld ?_
              rotate_left
              · intro w' hSw
                (try dsimp only at hSw)
                (try simp only [List.getElem_toArray]); (try simp only [List.getElem_cons_succ]); (try simp only [List.getElem_cons_zero])
                go_simp
                try with_reducible rfl
              (try simp only [Act.put]); (try simp only [List.getElem_toArray]); (try simp only [List.getElem_cons_succ]); (try simp only [List.getElem_cons_zero]); (try simp only [List.setIfInBounds_toArray]); (try simp only [List.set_cons_succ]); (try simp only [List.set_cons_zero])
              refine wpAnyH_done (by kernel_rfl) ?_ _
              clear hHeld
              have kAll := (kE.trans kW).then ((k3.mono (T := fun b => w.heap.size + 1 ≤ b) (fun b hb => hge2 b hb)).trans (k4.mono (T := fun b => w.heap.size + 1 ≤ b) (fun b hb => hge3 b hb))) (fun i hi h => by omega)
              have els4 : Els rGPair w4 (fun b => (p b ∨ q b) ∧ b < w.heap.size) (css.take k ++ [.slice aK x.fKey.length cK, .slice aV x.fValue.length cV, .int .i64 x.fVersion] :: css.drop (k + 1)) (l.take k ++ x :: l.drop (k + 1)) := by
                have k24 : Keep (fun b => w.heap.size ≤ b) w w4 := kAll.nixS
                have e1 := ((HEL.out.takeN k).keep rGPair_lawful k24 (fun b hb h => by have := hb.2; omega)).mono (q := fun b => (p b ∨ q b) ∧ b < w.heap.size) rGPair_lawful (fun b hb => ⟨.inl hb.1, hb.2⟩)
                have e2 := ((HEL.out.dropN (k + 1)).keep rGPair_lawful k24 (fun b hb h => by have := hb.2; omega)).mono (q := fun b => (p b ∨ q b) ∧ b < w.heap.size) rGPair_lawful (fun b hb => ⟨.inl hb.1, hb.2⟩)
                have e3 := rGPair_lawful.mono (q := fun b => (p b ∨ q b) ∧ b < w.heap.size) (rGPair_lawful.keep HXX.out k24 (fun b hb h => by have := hb.2; omega)) (fun b hb => ⟨.inr hb.1, hb.2⟩)
                exact e1.app (Els.cons e3 e2)
              have HOWN := Lib.hid own4
              have HE4 := Lib.hid els4
              have HKA := Lib.hid kAll
              clear own1 own3 own4 els4 kAll k3 k4 kE kW hge2 hge3 hne2 hne3 hwx2 hwx3 LR LR3 LA rowX hE
              go_wp2_with fail
              go_ret
              rw [HT.out]
              have hlen : (l.take k ++ x :: l.drop (k + 1)).length = k + 1 + ((l.length - k - 1)) := by rw [List.length_append, List.length_cons, List.length_take, List.length_drop]; omega
              refine ⟨a4, c4, _, by rw [hlen]; rfl, ?_, HE4.out, HKA.out⟩
              rw [hlen, List.flatten_append, List.flatten_cons, ← List.append_assoc]
              exact own_from HOWN.out (by omega)
            · go_simp
              have kx : Keep Nix wE (wE.alloc (.cells #[.slice aK x.fKey.length cK, .slice aV x.fValue.length cV, .int .i64 x.fVersion] 29)) := (Keep.refl Nix wE).alloc _
              have hx1 := hwE.lt
              refine hK.out _ _ (⟨(kx.cell (p := ⟨w.heap.size, 0, none⟩) hx1 id).trans hHeld.1, (kx.cell (p := ⟨w.heap.size, 1, none⟩) hx1 id).trans hHeld.2.1, (kx.cell (p := ⟨w.heap.size, 2, none⟩) hx1 id).trans hHeld.2.2⟩) (fun hHeld => ?_)
              clear hK K
              (try simp only [Act.put]); (try simp only [List.getElem_toArray]); (try simp only [List.getElem_cons_succ]); (try simp only [List.getElem_cons_zero]); (try simp only [List.setIfInBounds_toArray]); (try simp only [List.set_cons_succ]); (try simp only [List.set_cons_zero])
              have rowX := RowIs.alloc wE #[.slice aK x.fKey.length cK, .slice aV x.fValue.length cV, .int .i64 x.fVersion] 29
              have hx2 := Nat.lt_of_lt_of_le hx1 kx.size
              generalize wE.heap.size = gX at rowX ⊢
              generalize wE.alloc (.cells #[.slice aK x.fKey.length cK, .slice aV x.fValue.length cV, .int .i64 x.fVersion] 29) = wY at *
              obtain ⟨a1, c1, W2, hr1, own1, k1⟩ := appN_run T_lPair 22 (w.heap.size + 1) (World.ownsRow_nil wY (w.heap.size + 1) 29 3) (css.take k).flatten (m := k) (c := c) (by rw [← flat_take3 H3.out, List.length_take, HFL.out]; omega) (LA.keep kx (fun _ _ h => h)) (fun u hu => HON.out u (by rw [← flat_take3 H3.out] at hu; exact List.mem_of_mem_take hu)) (by unfold maxLen; omega) (by omega) (by have := hE.out; have := kx.size; omega)
              rw [Nat.zero_add] at hr1 own1
              rw [List.nil_append] at own1
              refine wpAnyH_ready (rs := [3]) (by kernel_rfl) (by simp) ?_
              refine AllReadyH.cons rfl (fun K hK => ?_) AllReadyH.nil
              refine step_app (by kernel_rfl) _ _ rfl rfl rfl hr1 ?_
              replace k1 : Keep Nix wY W2 := k1.mono (fun b h => by cases h)
              refine hK.out _ _ (⟨(k1.cell (p := ⟨w.heap.size, 0, none⟩) hx2 id).trans hHeld.1, (k1.cell (p := ⟨w.heap.size, 1, none⟩) hx2 id).trans hHeld.2.1, (k1.cell (p := ⟨w.heap.size, 2, none⟩) hx2 id).trans hHeld.2.2⟩) (fun hHeld => ?_)
              clear hK K
              (try simp only [Act.put]); (try simp only [List.getElem_toArray]); (try simp only [List.getElem_cons_succ]); (try simp only [List.getElem_cons_zero]); (try simp only [List.setIfInBounds_toArray]); (try simp only [List.set_cons_succ]); (try simp only [List.set_cons_zero])
              replace rowX := rowX.keep k1 id
              have kW := kx.trans k1
              clear kx k1 hr1
              obtain ⟨a3, c3, w3, hr3, own3, k3⟩ := appN_run T_lPair 22 (w.heap.size + 1) own1 [.slice aK x.fKey.length cK, .slice aV x.fValue.length cV, .int .i64 x.fVersion] rfl (rowX.lies (fun _ => True) trivial (off := 0) (fun j u hu => by rw [Nat.zero_add]; exact hu)) (fun u hu => List.all_eq_true.1 (show ([.slice aK x.fKey.length cK, .slice aV x.fValue.length cV, .int .i64 x.fVersion] : List Value).all Value.oneCell' = true from rfl) u hu) (c := 1) (m := 1) (by unfold maxLen; omega) (by omega) (by have := hE.out; have := kW.size; omega)
              refine wpAnyH_ready (rs := [6]) (by kernel_rfl) (by simp) ?_
              refine AllReadyH.cons rfl (fun K hK => ?_) AllReadyH.nil
              refine step_app (by kernel_rfl) _ _ rfl rfl rfl hr3 ?_
              have hge2 : ∀ b, OwnB (.slice a1 k c1) b → w.heap.size + 1 ≤ b := fun b hb => (own1.lt b hb).1
              have hne2 : ¬ OwnB (.slice a1 k c1) w.heap.size := fun h => by have := hge2 _ h; omega
              have hwx2 : w.heap.size < W2.heap.size := by have := hE.out; have := kW.size; omega
              refine hK.out _ _ (⟨(k3.cell (p := ⟨w.heap.size, 0, none⟩) hwx2 hne2).trans hHeld.1, (k3.cell (p := ⟨w.heap.size, 1, none⟩) hwx2 hne2).trans hHeld.2.1, (k3.cell (p := ⟨w.heap.size, 2, none⟩) hwx2 hne2).trans hHeld.2.2⟩) (fun hHeld => ?_)
              clear hK K
              (try simp only [Act.put]); (try simp only [List.getElem_toArray]); (try simp only [List.getElem_cons_succ]); (try simp only [List.getElem_cons_zero]); (try simp only [List.setIfInBounds_toArray]); (try simp only [List.set_cons_succ]); (try simp only [List.set_cons_zero])
              have hwx3 : w.heap.size < w3.heap.size := by have := k3.size; omega
              have LR3 := (LR.keep kW (fun _ _ h => h)).keep k3 (fun b hb h => by have := hge2 b h; have hb' : b < w.heap.size := hb; omega)
              obtain ⟨a4, c4, w4, hr4, own4, k4⟩ := appN_run T_lPair 22 (w.heap.size + 1) own3 (css.drop (k + 1)).flatten (m := (l.length - k - 1)) (c := (c - k - 1)) (by rw [← flat_drop3 H3.out, List.length_drop, HFL.out]; omega) LR3 (fun u hu => HON.out u (by rw [← flat_drop3 H3.out] at hu; exact List.mem_of_mem_drop hu)) (by unfold maxLen; omega) (by omega) (by omega)
              refine wpAnyH_ready (rs := [8]) (by kernel_rfl) (by simp) ?_
              refine AllReadyH.cons rfl (fun K hK => ?_) AllReadyH.nil
              refine step_app (by kernel_rfl) _ _ rfl rfl rfl hr4 ?_
              have hge3 : ∀ b, OwnB (.slice a3 (k + 1) c3) b → w.heap.size + 1 ≤ b := fun b hb => (own3.lt b hb).1
              have hne3 : ¬ OwnB (.slice a3 (k + 1) c3) w.heap.size := fun h => by have := hge3 _ h; omega
              refine hK.out _ _ (⟨(k4.cell (p := ⟨w.heap.size, 0, none⟩) hwx3 hne3).trans hHeld.1, (k4.cell (p := ⟨w.heap.size, 1, none⟩) hwx3 hne3).trans hHeld.2.1, (k4.cell (p := ⟨w.heap.size, 2, none⟩) hwx3 hne3).trans hHeld.2.2⟩) (fun hHeld => ?_)
              clear hK K
              (try simp only [Act.put]); (try simp only [List.getElem_toArray]); (try simp only [List.getElem_cons_succ]); (try simp only [List.getElem_cons_zero]); (try simp only [List.setIfInBounds_toArray]); (try simp only [List.set_cons_succ]); (try simp only [List.set_cons_zero])
              refine wpAnyH_take (i := 9) (v := ?_) rfl (by kernel_rfl) (by kernel_rfl) (by kernel_rfl) (fun _ _ _ h => h) (Or.inl ⟨by kernel_rfl, ?_⟩) hHeld ?_
              rotate_left
              · intro w' hSw
                (try dsimp only at hSw)
                (try simp only [List.getElem_toArray]); (try simp only [List.getElem_cons_succ]); (try simp only [List.getElem_cons_zero])
                go_simp
                try with_reducible rfl
              (try simp only [Act.put]); (try simp only [List.getElem_toArray]); (try simp only [List.getElem_cons_succ]); (try simp only [List.getElem_cons_zero]); (try simp only [List.setIfInBounds_toArray]); (try simp only [List.set_cons_succ]); (try simp only [List.set_cons_zero])
              refine wpAnyH_done (by kernel_rfl) ?_ _
              clear hHeld
              have kAll := (kE.trans kW).then ((k3.mono (T := fun b => w.heap.size + 1 ≤ b) (fun b hb => hge2 b hb)).trans (k4.mono (T := fun b => w.heap.size + 1 ≤ b) (fun b hb => hge3 b hb))) (fun i hi h => by omega)
              have els4 : Els rGPair w4 (fun b => (p b ∨ q b) ∧ b < w.heap.size) (css.take k ++ [.slice aK x.fKey.length cK, .slice aV x.fValue.length cV, .int .i64 x.fVersion] :: css.drop (k + 1)) (l.take k ++ x :: l.drop (k + 1)) := by
                have k24 : Keep (fun b => w.heap.size ≤ b) w w4 := kAll.nixS
                have e1 := ((HEL.out.takeN k).keep rGPair_lawful k24 (fun b hb h => by have := hb.2; omega)).mono (q := fun b => (p b ∨ q b) ∧ b < w.heap.size) rGPair_lawful (fun b hb => ⟨.inl hb.1, hb.2⟩)
                have e2 := ((HEL.out.dropN (k + 1)).keep rGPair_lawful k24 (fun b hb h => by have := hb.2; omega)).mono (q := fun b => (p b ∨ q b) ∧ b < w.heap.size) rGPair_lawful (fun b hb => ⟨.inl hb.1, hb.2⟩)
                have e3 := rGPair_lawful.mono (q := fun b => (p b ∨ q b) ∧ b < w.heap.size) (rGPair_lawful.keep HXX.out k24 (fun b hb h => by have := hb.2; omega)) (fun b hb => ⟨.inr hb.1, hb.2⟩)
                exact e1.app (Els.cons e3 e2)
              have HOWN := Lib.hid own4
              have HE4 := Lib.hid els4
              have HKA := Lib.hid kAll
              clear own1 own3 own4 els4 kAll k3 k4 kE kW hge2 hge3 hne2 hne3 hwx2 hwx3 LR LR3 LA rowX hE
              go_wp2_with fail
              go_ret
              rw [HT.out]
              have hlen : (l.take k ++ x :: l.drop (k + 1)).length = k + 1 + ((l.length - k - 1)) := by rw [List.length_append, List.length_cons, List.length_take, List.length_drop]; omega
              refine ⟨a4, c4, _, by rw [hlen]; rfl, ?_, HE4.out, HKA.out⟩
              rw [hlen, List.flatten_append, List.flatten_cons, ← List.append_assoc]
              exact own_from HOWN.out (by omega)
        | false =>
          have HT : Hid (putS l x = l.take k ++ x :: l.drop k) := by
            show _ = _
            rw [HPS.out, HD.out]
            rfl
          have HLR : Hid (Lies w (fun b => b < w.heap.size) (some ⟨b, o + k * 3, none⟩) (css.drop k).flatten) := lies_drop3 HLI.out H3.out k
          clear HD HPS
          go_upto_region 7 with fail
          have kz : Keep Nix we (we).drew := (Keep.refl Nix _).drew
          have kE := kk.trans kz
          have p0 := (rowX0.keep kz id).cell 0
          (try simp only [List.getElem?_cons_zero] at p0)
          have p1 := (rowX0.keep kz id).cell 1
          (try simp only [List.getElem?_cons_succ] at p1); (try simp only [List.getElem?_cons_zero] at p1)
          have p2 := (rowX0.keep kz id).cell 2
          (try simp only [List.getElem?_cons_succ] at p2); (try simp only [List.getElem?_cons_zero] at p2)
          refine wp_region_held_drew (S := (fun w' => w'.cell? ⟨w.heap.size, 0, none⟩ = some (.slice aK x.fKey.length cK) ∧ w'.cell? ⟨w.heap.size, 1, none⟩ = some (.slice aV x.fValue.length cV) ∧ w'.cell? ⟨w.heap.size, 2, none⟩ = some (.int .i64 x.fVersion))) (by kernel_rfl) (⟨p0, p1, p2⟩) (fun hHeld => ?_)
          have LA := (lies_take3 HLI.out H3.out k).keep kE (fun _ _ h => h)
          have LR := (HLR.out).keep kE (fun _ _ h => h)
          have hE : Hid (w.heap.size + 1 ≤ (we).drew.heap.size) := by show _ ≤ _; have := rowX0.lt; have := kz.size; omega
          have hwE := rowX0.keep kz id
          clear p0 p1 p2 kz rowX0
          generalize (we).drew = wE at *
          refine wpAnyH_take (i := 0) (v := ?_) rfl (by kernel_rfl) (by kernel_rfl) (by kernel_rfl) (fun _ _ _ h => h) (Or.inl ⟨by kernel_rfl, ?_⟩) hHeld ?_
          rotate_left
          · intro w' hSw
            (try dsimp only at hSw)
            (try simp only [List.getElem_toArray]); (try simp only [List.getElem_cons_succ]); (try simp only [List.getElem_cons_zero])
            go_simp
            try with_reducible rfl
          (try simp only [Act.put]); (try simp only [List.getElem_toArray]); (try simp only [List.getElem_cons_succ]); (try simp only [List.getElem_cons_zero]); (try simp only [List.setIfInBounds_toArray]); (try simp only [List.set_cons_succ]); (try simp only [List.set_cons_zero])
          refine wpAnyH_take (i := 1) (v := ?_) rfl (by kernel_rfl) (by kernel_rfl) (by kernel_rfl) (fun _ _ _ h => h) (Or.inl ⟨by kernel_rfl, ?_⟩) hHeld ?_
          rotate_left
          · intro w' hSw
            (try dsimp only at hSw)
            (try simp only [List.getElem_toArray]); (try simp only [List.getElem_cons_succ]); (try simp only [List.getElem_cons_zero])
            go_simp
            try with_reducible rfl
          (try simp only [Act.put]); (try simp only [List.getElem_toArray]); (try simp only [List.getElem_cons_succ]); (try simp only [List.getElem_cons_zero]); (try simp only [List.setIfInBounds_toArray]); (try simp only [List.set_cons_succ]); (try simp only [List.set_cons_zero])
          refine wpAnyH_take (i := 2) (v := ?_) rfl (by kernel_rfl) (by kernel_rfl) (by kernel_rfl) (fun _ _ _ h => h) (Or.inl ⟨by kernel_rfl, ?_⟩) hHeld ?_
          rotate_left
          · intro w' hSw
            (try dsimp only at hSw)
            (try simp only [List.getElem_toArray]); (try simp only [List.getElem_cons_succ]); (try simp only [List.getElem_cons_zero])
            go_simp
            try with_reducible rfl
          (try simp only [Act.put]); (try simp only [List.getElem_toArray]); (try simp only [List.getElem_cons_succ]); (try simp only [List.getElem_cons_zero]); (try simp only [List.setIfInBounds_toArray]); (try simp only [List.set_cons_succ]); (try simp only [List.set_cons_zero])
          refine wpAnyH_take (i := 4) (v := ?_) rfl (by kernel_rfl) (by kernel_rfl) (by kernel_rfl) (fun _ _ _ h => h) (Or.inl ⟨by kernel_rfl, ?_⟩) hHeld ?_
          rotate_left
          · intro w' hSw
            (try dsimp only at hSw)
            (try simp only [List.getElem_toArray]); (try simp only [List.getElem_cons_succ]); (try simp only [List.getElem_cons_zero])
            go_simp
            try with_reducible rfl
          (try simp only [Act.put]); (try simp only [List.getElem_toArray]); (try simp only [List.getElem_cons_succ]); (try simp only [List.getElem_cons_zero]); (try simp only [List.setIfInBounds_toArray]); (try simp only [List.set_cons_succ]); (try simp only [List.set_cons_zero])
          refine wpAnyH_take (i := 7) (v := ?_) rfl (by kernel_rfl) (by kernel_rfl) (by kernel_rfl) (fun _ _ _ h => h) (Or.inl ⟨by kernel_rfl, ?_⟩) hHeld ?_
          rotate_left
          · intro w' hSw
            (try dsimp only at hSw)
            (try simp only [List.getElem_toArray]); (try simp only [List.getElem_cons_succ]); (try simp only [List.getElem_cons_zero])
            go_simp
            try with_reducible rfl
          (try simp only [Act.put]); (try simp only [List.getElem_toArray]); (try simp only [List.getElem_cons_succ]); (try simp only [List.getElem_cons_zero]); (try simp only [List.setIfInBounds_toArray]); (try simp only [List.set_cons_succ]); (try simp only [List.set_cons_zero])
          refine wpAnyH_ready (rs := [3, 5]) (by kernel_rfl) (by simp) ?_
          refine AllReadyH.cons rfl (fun K hK => ?_) (AllReadyH.cons rfl (fun K hK => ?_) AllReadyH.nil)
          · obtain ⟨a1, c1, W2, hr1, own1, k1⟩ := appN_run T_lPair 22 (w.heap.size + 1) (World.ownsRow_nil wE (w.heap.size + 1) 29 3) (css.take k).flatten (m := k) (c := c) (by rw [← flat_take3 H3.out, List.length_take, HFL.out]; omega) LA (fun u hu => HON.out u (by rw [← flat_take3 H3.out] at hu; exact List.mem_of_mem_take hu)) (by unfold maxLen; omega) (by omega) hE.out
            rw [Nat.zero_add] at hr1 own1
            rw [List.nil_append] at own1
            refine step_app (by kernel_rfl) _ _ rfl rfl rfl hr1 ?_
            replace k1 : Keep Nix wE W2 := k1.mono (fun b h => by cases h)
            have hx1 := hwE.lt
            refine hK.out _ _ (⟨(k1.cell (p := ⟨w.heap.size, 0, none⟩) hx1 id).trans hHeld.1, (k1.cell (p := ⟨w.heap.size, 1, none⟩) hx1 id).trans hHeld.2.1, (k1.cell (p := ⟨w.heap.size, 2, none⟩) hx1 id).trans hHeld.2.2⟩) (fun hHeld => ?_)
            clear hK K
            (try simp only [Act.put]); (try simp only [List.getElem_toArray]); (try simp only [List.getElem_cons_succ]); (try simp only [List.getElem_cons_zero]); (try simp only [List.setIfInBounds_toArray]); (try simp only [List.set_cons_succ]); (try simp only [List.set_cons_zero])
            refine wpAnyH_ready (rs := [5]) (by kernel_rfl) (by simp) ?_
            refine AllReadyH.cons rfl (fun K hK => ?_) AllReadyH.nil
            go_simp
            have kx : Keep Nix W2 (W2.alloc (.cells #[.slice aK x.fKey.length cK, .slice aV x.fValue.length cV, .int .i64 x.fVersion] 29)) := (Keep.refl Nix W2).alloc _
            have hx2 := Nat.lt_of_lt_of_le hx1 k1.size
            refine hK.out _ _ (⟨(kx.cell (p := ⟨w.heap.size, 0, none⟩) hx2 id).trans hHeld.1, (kx.cell (p := ⟨w.heap.size, 1, none⟩) hx2 id).trans hHeld.2.1, (kx.cell (p := ⟨w.heap.size, 2, none⟩) hx2 id).trans hHeld.2.2⟩) (fun hHeld => ?_)
            clear hK K
            (try simp only [Act.put]); (try simp only [List.getElem_toArray]); (try simp only [List.getElem_cons_succ]); (try simp only [List.getElem_cons_zero]); (try simp only [List.setIfInBounds_toArray]); (try simp only [List.set_cons_succ]); (try simp only [List.set_cons_zero])
            have rowX := RowIs.alloc W2 #[.slice aK x.fKey.length cK, .slice aV x.fValue.length cV, .int .i64 x.fVersion] 29
            replace own1 := owned_keep own1 kx (fun _ _ h => h)
            have kW := k1.trans kx
            clear kx k1 hr1
            generalize W2.heap.size = gX at *
            generalize W2.alloc (.cells #[.slice aK x.fKey.length cK, .slice aV x.fValue.length cV, .int .i64 x.fVersion] 29) = W2 at *
            obtain ⟨a3, c3, w3, hr3, own3, k3⟩ := appN_run T_lPair 22 (w.heap.size + 1) own1 [.slice aK x.fKey.length cK, .slice aV x.fValue.length cV, .int .i64 x.fVersion] rfl (rowX.lies (fun _ => True) trivial (off := 0) (fun j u hu => by rw [Nat.zero_add]; exact hu)) (fun u hu => List.all_eq_true.1 (show ([.slice aK x.fKey.length cK, .slice aV x.fValue.length cV, .int .i64 x.fVersion] : List Value).all Value.oneCell' = true from rfl) u hu) (c := 1) (m := 1) (by unfold maxLen; omega) (by omega) (by have := hE.out; have := kW.size; omega)
            refine wpAnyH_ready (rs := [6]) (by kernel_rfl) (by simp) ?_
            refine AllReadyH.cons rfl (fun K hK => ?_) AllReadyH.nil
            refine step_app (by kernel_rfl) _ _ rfl rfl rfl hr3 ?_
            have hge2 : ∀ b, OwnB (.slice a1 k c1) b → w.heap.size + 1 ≤ b := fun b hb => (own1.lt b hb).1
            have hne2 : ¬ OwnB (.slice a1 k c1) w.heap.size := fun h => by have := hge2 _ h; omega
            have hwx2 : w.heap.size < W2.heap.size := by have := hE.out; have := kW.size; omega
            refine hK.out _ _ (⟨(k3.cell (p := ⟨w.heap.size, 0, none⟩) hwx2 hne2).trans hHeld.1, (k3.cell (p := ⟨w.heap.size, 1, none⟩) hwx2 hne2).trans hHeld.2.1, (k3.cell (p := ⟨w.heap.size, 2, none⟩) hwx2 hne2).trans hHeld.2.2⟩) (fun hHeld => ?_)
            clear hK K
            (try simp only [Act.put]); (try simp only [List.getElem_toArray]); (try simp only [List.getElem_cons_succ]); (try simp only [List.getElem_cons_zero]); (try simp only [List.setIfInBounds_toArray]); (try simp only [List.set_cons_succ]); (try simp only [List.set_cons_zero])
            have hwx3 : w.heap.size < w3.heap.size := by have := k3.size; omega
            have LR3 := (LR.keep kW (fun _ _ h => h)).keep k3 (fun b hb h => by have := hge2 b h; have hb' : b < w.heap.size := hb; omega)
            obtain ⟨a4, c4, w4, hr4, own4, k4⟩ := appN_run T_lPair 22 (w.heap.size + 1) own3 (css.drop (k)).flatten (m := (l.length - k)) (c := (c - k)) (by rw [← flat_drop3 H3.out, List.length_drop, HFL.out]; omega) LR3 (fun u hu => HON.out u (by rw [← flat_drop3 H3.out] at hu; exact List.mem_of_mem_drop hu)) (by unfold maxLen; omega) (by omega) (by omega)
            refine wpAnyH_ready (rs := [8]) (by kernel_rfl) (by simp) ?_
            refine AllReadyH.cons rfl (fun K hK => ?_) AllReadyH.nil
            refine step_app (by kernel_rfl) _ _ rfl rfl rfl hr4 ?_
            have hge3 : ∀ b, OwnB (.slice a3 (k + 1) c3) b → w.heap.size + 1 ≤ b := fun b hb => (own3.lt b hb).1
            have hne3 : ¬ OwnB (.slice a3 (k + 1) c3) w.heap.size := fun h => by have := hge3 _ h; omega
            refine hK.out _ _ (⟨(k4.cell (p := ⟨w.heap.size, 0, none⟩) hwx3 hne3).trans hHeld.1, (k4.cell (p := ⟨w.heap.size, 1, none⟩) hwx3 hne3).trans hHeld.2.1, (k4.cell (p := ⟨w.heap.size, 2, none⟩) hwx3 hne3).trans hHeld.2.2⟩) (fun hHeld => ?_)
            clear hK K
            (try simp only [Act.put]); (try simp only [List.getElem_toArray]); (try simp only [List.getElem_cons_succ]); (try simp only [List.getElem_cons_zero]); (try simp only [List.setIfInBounds_toArray]); (try simp only [List.set_cons_succ]); (try simp only [List.set_cons_zero])
            refine wpAnyH_take (i := 9) (v := ?_) rfl (by kernel_rfl) (by kernel_rfl) (by kernel_rfl) (fun _ _ _ h => h) (Or.inl ⟨by kernel_rfl, ?_⟩) hHeld ?_
            rotate_left
            · intro w' hSw
              (try dsimp only at hSw)
              (try simp only [List.getElem_toArray]); (try simp only [List.getElem_cons_succ]); (try simp only [List.getElem_cons_zero])
              go_simp
              try with_reducible rfl
            (try simp only [Act.put]); (try simp only [List.getElem_toArray]); (try simp only [List.getElem_cons_succ]); (try simp only [List.getElem_cons_zero]); (try simp only [List.setIfInBounds_toArray]); (try simp only [List.set_cons_succ]); (try simp only [List.set_cons_zero])
            refine wpAnyH_done (by kernel_rfl) ?_ _
            clear hHeld
            have kAll := (kE.trans kW).then ((k3.mono (T := fun b => w.heap.size + 1 ≤ b) (fun b hb => hge2 b hb)).trans (k4.mono (T := fun b => w.heap.size + 1 ≤ b) (fun b hb => hge3 b hb))) (fun i hi h => by omega)
            have els4 : Els rGPair w4 (fun b => (p b ∨ q b) ∧ b < w.heap.size) (css.take k ++ [.slice aK x.fKey.length cK, .slice aV x.fValue.length cV, .int .i64 x.fVersion] :: css.drop (k)) (l.take k ++ x :: l.drop (k)) := by
              have k24 : Keep (fun b => w.heap.size ≤ b) w w4 := kAll.nixS
              have e1 := ((HEL.out.takeN k).keep rGPair_lawful k24 (fun b hb h => by have := hb.2; omega)).mono (q := fun b => (p b ∨ q b) ∧ b < w.heap.size) rGPair_lawful (fun b hb => ⟨.inl hb.1, hb.2⟩)
              have e2 := ((HEL.out.dropN (k)).keep rGPair_lawful k24 (fun b hb h => by have := hb.2; omega)).mono (q := fun b => (p b ∨ q b) ∧ b < w.heap.size) rGPair_lawful (fun b hb => ⟨.inl hb.1, hb.2⟩)
              have e3 := rGPair_lawful.mono (q := fun b => (p b ∨ q b) ∧ b < w.heap.size) (rGPair_lawful.keep HXX.out k24 (fun b hb h => by have := hb.2; omega)) (fun b hb => ⟨.inr hb.1, hb.2⟩)
              exact e1.app (Els.cons e3 e2)
            have HOWN := Lib.hid own4
            have HE4 := Lib.hid els4
            have HKA := Lib.hid kAll
            clear own1 own3 own4 els4 kAll k3 k4 kE kW hge2 hge3 hne2 hne3 hwx2 hwx3 LR LR3 LA rowX hE
            go_wp2_with fail
            go_ret
            rw [HT.out]
            have hlen : (l.take k ++ x :: l.drop (k)).length = k + 1 + ((l.length - k)) := by rw [List.length_append, List.length_cons, List.length_take, List.length_drop]; omega
            refine ⟨a4, c4, _, by rw [hlen]; rfl, ?_, HE4.out, HKA.out⟩
            rw [hlen, List.flatten_append, List.flatten_cons, ← List.append_assoc]
            exact own_from HOWN.out (by omega)
          · go_simp
            have kx : Keep Nix wE (wE.alloc (.cells #[.slice aK x.fKey.length cK, .slice aV x.fValue.length cV, .int .i64 x.fVersion] 29)) := (Keep.refl Nix wE).alloc _
            have hx1 := hwE.lt
            refine hK.out _ _ (⟨(kx.cell (p := ⟨w.heap.size, 0, none⟩) hx1 id).trans hHeld.1, (kx.cell (p := ⟨w.heap.size, 1, none⟩) hx1 id).trans hHeld.2.1, (kx.cell (p := ⟨w.heap.size, 2, none⟩) hx1 id).trans hHeld.2.2⟩) (fun hHeld => ?_)
            clear hK K
            (try simp only [Act.put]); (try simp only [List.getElem_toArray]); (try simp only [List.getElem_cons_succ]); (try simp only [List.getElem_cons_zero]); (try simp only [List.setIfInBounds_toArray]); (try simp only [List.set_cons_succ]); (try simp only [List.set_cons_zero])
            have rowX := RowIs.alloc wE #[.slice aK x.fKey.length cK, .slice aV x.fValue.length cV, .int .i64 x.fVersion] 29
            have hx2 := Nat.lt_of_lt_of_le hx1 kx.size
            generalize wE.heap.size = gX at rowX ⊢
            generalize wE.alloc (.cells #[.slice aK x.fKey.length cK, .slice aV x.fValue.length cV, .int .i64 x.fVersion] 29) = wY at *
            obtain ⟨a1, c1, W2, hr1, own1, k1⟩ := appN_run T_lPair 22 (w.heap.size + 1) (World.ownsRow_nil wY (w.heap.size + 1) 29 3) (css.take k).flatten (m := k) (c := c) (by rw [← flat_take3 H3.out, List.length_take, HFL.out]; omega) (LA.keep kx (fun _ _ h => h)) (fun u hu => HON.out u (by rw [← flat_take3 H3.out] at hu; exact List.mem_of_mem_take hu)) (by unfold maxLen; omega) (by omega) (by have := hE.out; have := kx.size; omega)
            rw [Nat.zero_add] at hr1 own1
            rw [List.nil_append] at own1
            refine wpAnyH_ready (rs := [3]) (by kernel_rfl) (by simp) ?_
            refine AllReadyH.cons rfl (fun K hK => ?_) AllReadyH.nil
            refine step_app (by kernel_rfl) _ _ rfl rfl rfl hr1 ?_
            replace k1 : Keep Nix wY W2 := k1.mono (fun b h => by cases h)
            refine hK.out _ _ (⟨(k1.cell (p := ⟨w.heap.size, 0, none⟩) hx2 id).trans hHeld.1, (k1.cell (p := ⟨w.heap.size, 1, none⟩) hx2 id).trans hHeld.2.1, (k1.cell (p := ⟨w.heap.size, 2, none⟩) hx2 id).trans hHeld.2.2⟩) (fun hHeld => ?_)
            clear hK K
            (try simp only [Act.put]); (try simp only [List.getElem_toArray]); (try simp only [List.getElem_cons_succ]); (try simp only [List.getElem_cons_zero]); (try simp only [List.setIfInBounds_toArray]); (try simp only [List.set_cons_succ]); (try simp only [List.set_cons_zero])
            replace rowX := rowX.keep k1 id
            have kW := kx.trans k1
            clear kx k1 hr1
            obtain ⟨a3, c3, w3, hr3, own3, k3⟩ := appN_run T_lPair 22 (w.heap.size + 1) own1 [.slice aK x.fKey.length cK, .slice aV x.fValue.length cV, .int .i64 x.fVersion] rfl (rowX.lies (fun _ => True) trivial (off := 0) (fun j u hu => by rw [Nat.zero_add]; exact hu)) (fun u hu => List.all_eq_true.1 (show ([.slice aK x.fKey.length cK, .slice aV x.fValue.length cV, .int .i64 x.fVersion] : List Value).all Value.oneCell' = true from rfl) u hu) (c := 1) (m := 1) (by unfold maxLen; omega) (by omega) (by have := hE.out; have := kW.size; omega)
            refine wpAnyH_ready (rs := [6]) (by kernel_rfl) (by simp) ?_
            refine AllReadyH.cons rfl (fun K hK => ?_) AllReadyH.nil
            refine step_app (by kernel_rfl) _ _ rfl rfl rfl hr3 ?_
            have hge2 : ∀ b, OwnB (.slice a1 k c1) b → w.heap.size + 1 ≤ b := fun b hb => (own1.lt b hb).1
            have hne2 : ¬ OwnB (.slice a1 k c1) w.heap.size := fun h => by have := hge2 _ h; omega
            have hwx2 : w.heap.size < W2.heap.size := by have := hE.out; have := kW.size; omega
            refine hK.out _ _ (⟨(k3.cell (p := ⟨w.heap.size, 0, none⟩) hwx2 hne2).trans hHeld.1, (k3.cell (p := ⟨w.heap.size, 1, none⟩) hwx2 hne2).trans hHeld.2.1, (k3.cell (p := ⟨w.heap.size, 2, none⟩) hwx2 hne2).trans hHeld.2.2⟩) (fun hHeld => ?_)
            clear hK K
            (try simp only [Act.put]); (try simp only [List.getElem_toArray]); (try simp only [List.getElem_cons_succ]); (try simp only [List.getElem_cons_zero]); (try simp only [List.setIfInBounds_toArray]); (try simp only [List.set_cons_succ]); (try simp only [List.set_cons_zero])
            have hwx3 : w.heap.size < w3.heap.size := by have := k3.size; omega
            have LR3 := (LR.keep kW (fun _ _ h => h)).keep k3 (fun b hb h => by have := hge2 b h; have hb' : b < w.heap.size := hb; omega)
            obtain ⟨a4, c4, w4, hr4, own4, k4⟩ := appN_run T_lPair 22 (w.heap.size + 1) own3 (css.drop (k)).flatten (m := (l.length - k)) (c := (c - k)) (by rw [← flat_drop3 H3.out, List.length_drop, HFL.out]; omega) LR3 (fun u hu => HON.out u (by rw [← flat_drop3 H3.out] at hu; exact List.mem_of_mem_drop hu)) (by unfold maxLen; omega) (by omega) (by omega)
            refine wpAnyH_ready (rs := [8]) (by kernel_rfl) (by simp) ?_
            refine AllReadyH.cons rfl (fun K hK => ?_) AllReadyH.nil
            refine step_app (by kernel_rfl) _ _ rfl rfl rfl hr4 ?_
            have hge3 : ∀ b, OwnB (.slice a3 (k + 1) c3) b → w.heap.size + 1 ≤ b := fun b hb => (own3.lt b hb).1
            have hne3 : ¬ OwnB (.slice a3 (k + 1) c3) w.heap.size := fun h => by have := hge3 _ h; omega
            refine hK.out _ _ (⟨(k4.cell (p := ⟨w.heap.size, 0, none⟩) hwx3 hne3).trans hHeld.1, (k4.cell (p := ⟨w.heap.size, 1, none⟩) hwx3 hne3).trans hHeld.2.1, (k4.cell (p := ⟨w.heap.size, 2, none⟩) hwx3 hne3).trans hHeld.2.2⟩) (fun hHeld => ?_)
            clear hK K
            (try simp only [Act.put]); (try simp only [List.getElem_toArray]); (try simp only [List.getElem_cons_succ]); (try simp only [List.getElem_cons_zero]); (try simp only [List.setIfInBounds_toArray]); (try simp only [List.set_cons_succ]); (try simp only [List.set_cons_zero])
            refine wpAnyH_take (i := 9) (v := ?_) rfl (by kernel_rfl) (by kernel_rfl) (by kernel_rfl) (fun _ _ _ h => h) (Or.inl ⟨by kernel_rfl, ?_⟩) hHeld ?_
            rotate_left
            · intro w' hSw
              (try dsimp only at hSw)
              (try simp only [List.getElem_toArray]); (try simp only [List.getElem_cons_succ]); (try simp only [List.getElem_cons_zero])
              go_simp
              try with_reducible rfl
            (try simp only [Act.put]); (try simp only [List.getElem_toArray]); (try simp only [List.getElem_cons_succ]); (try simp only [List.getElem_cons_zero]); (try simp only [List.setIfInBounds_toArray]); (try simp only [List.set_cons_succ]); (try simp only [List.set_cons_zero])
            refine wpAnyH_done (by kernel_rfl) ?_ _
            clear hHeld
            have kAll := (kE.trans kW).then ((k3.mono (T := fun b => w.heap.size + 1 ≤ b) (fun b hb => hge2 b hb)).trans (k4.mono (T := fun b => w.heap.size + 1 ≤ b) (fun b hb => hge3 b hb))) (fun i hi h => by omega)
            have els4 : Els rGPair w4 (fun b => (p b ∨ q b) ∧ b < w.heap.size) (css.take k ++ [.slice aK x.fKey.length cK, .slice aV x.fValue.length cV, .int .i64 x.fVersion] :: css.drop (k)) (l.take k ++ x :: l.drop (k)) := by
              have k24 : Keep (fun b => w.heap.size ≤ b) w w4 := kAll.nixS
              have e1 := ((HEL.out.takeN k).keep rGPair_lawful k24 (fun b hb h => by have := hb.2; omega)).mono (q := fun b => (p b ∨ q b) ∧ b < w.heap.size) rGPair_lawful (fun b hb => ⟨.inl hb.1, hb.2⟩)
              have e2 := ((HEL.out.dropN (k)).keep rGPair_lawful k24 (fun b hb h => by have := hb.2; omega)).mono (q := fun b => (p b ∨ q b) ∧ b < w.heap.size) rGPair_lawful (fun b hb => ⟨.inl hb.1, hb.2⟩)
              have e3 := rGPair_lawful.mono (q := fun b => (p b ∨ q b) ∧ b < w.heap.size) (rGPair_lawful.keep HXX.out k24 (fun b hb h => by have := hb.2; omega)) (fun b hb => ⟨.inr hb.1, hb.2⟩)
              exact e1.app (Els.cons e3 e2)
            have HOWN := Lib.hid own4
            have HE4 := Lib.hid els4
            have HKA := Lib.hid kAll
            clear own1 own3 own4 els4 kAll k3 k4 kE kW hge2 hge3 hne2 hne3 hwx2 hwx3 LR LR3 LA rowX hE
            go_wp2_with fail
            go_ret
            rw [HT.out]
            have hlen : (l.take k ++ x :: l.drop (k)).length = k + 1 + ((l.length - k)) := by rw [List.length_append, List.length_cons, List.length_take, List.length_drop]; omega
            refine ⟨a4, c4, _, by rw [hlen]; rfl, ?_, HE4.out, HKA.out⟩
            rw [hlen, List.flatten_append, List.flatten_cons, ← List.append_assoc]
            exact own_from HOWN.out (by omega)
    · have hkn : k = l.length := by omega
      have hPS := putS_at (x := x) HR.out (k := k) HLO.out (fun h => absurd h (by omega))
      rw [dif_neg (by omega)] at hPS
      have HT : Hid (putS l x = l.take k ++ x :: l.drop k) := by show _ = _; rw [hPS, List.drop_eq_nil_of_le (by omega)]
      have hz : (css.drop k).flatten = [] := by
        rw [← flat_drop3 H3.out]
        exact List.drop_eq_nil_of_le (by rw [HFL.out]; omega)
      have HZ : Hid (∀ w a, Lies w (fun b => b < w.heap.size) a (css.drop k).flatten) := fun w a => by rw [hz]; exact Lies.nil _ _ _
      have HKN := Lib.hid hkn
      have hge : (l.length : Int) ≤ (k : Int) := by omega
      have hdl : decide (k < l.length) = false := decide_eq_false (by omega)
      have hdz2 : decide (0 < l.length - k) = false := decide_eq_false (by omega)
      have hki2 : (k : Int) ≤ (l.length : Int) := by omega
      have hkc : k ≤ c := by omega
      clear hPS hz hlt hkn
      go_upto_region 2 with fail
      have kd : Keep Nix wr wr.drew := (Keep.refl Nix wr).drew
      refine wp_region_held_drew (S := (fun _ => True)) (by kernel_rfl) (trivial) (fun hHeld => ?_)
      replace kk := kk.trans kd
      replace rowX0 := rowX0.keep kd id
      generalize wr.drew = wd at *
      refine wpAnyH_take (i := 0) (v := ?_) rfl (by kernel_rfl) (by kernel_rfl) (by kernel_rfl) (fun _ _ _ h => h) (Or.inl ⟨by kernel_rfl, ?_⟩) hHeld ?_
      rotate_left
      · intro w' hSw
        (try dsimp only at hSw)
        (try simp only [List.getElem_toArray]); (try simp only [List.getElem_cons_succ]); (try simp only [List.getElem_cons_zero])
        go_simp
        try with_reducible rfl
      (try simp only [Act.put]); (try simp only [List.getElem_toArray]); (try simp only [List.getElem_cons_succ]); (try simp only [List.getElem_cons_zero]); (try simp only [List.setIfInBounds_toArray]); (try simp only [List.set_cons_succ]); (try simp only [List.set_cons_zero])
      refine wpAnyH_take (i := 1) (v := ?_) rfl (by kernel_rfl) (by kernel_rfl) (by kernel_rfl) (fun _ _ _ h => h) (Or.inl ⟨by kernel_rfl, ?_⟩) hHeld ?_
      rotate_left
      · intro w' hSw
        (try dsimp only at hSw)
        (try simp only [List.getElem_toArray]); (try simp only [List.getElem_cons_succ]); (try simp only [List.getElem_cons_zero])
        go_simp
        try with_reducible rfl
      (try simp only [Act.put]); (try simp only [List.getElem_toArray]); (try simp only [List.getElem_cons_succ]); (try simp only [List.getElem_cons_zero]); (try simp only [List.setIfInBounds_toArray]); (try simp only [List.set_cons_succ]); (try simp only [List.set_cons_zero])
      refine wpAnyH_take (i := 2) (v := ?_) rfl (by kernel_rfl) (by kernel_rfl) (by kernel_rfl) (fun _ _ _ h => h) (Or.inl ⟨by kernel_rfl, ?_⟩) hHeld ?_
      rotate_left
      · intro w' hSw
        (try dsimp only at hSw)
        (try simp only [List.getElem_toArray]); (try simp only [List.getElem_cons_succ]); (try simp only [List.getElem_cons_zero])
        go_simp
        try with_reducible rfl
      (try simp only [Act.put]); (try simp only [List.getElem_toArray]); (try simp only [List.getElem_cons_succ]); (try simp only [List.getElem_cons_zero]); (try simp only [List.setIfInBounds_toArray]); (try simp only [List.set_cons_succ]); (try simp only [List.set_cons_zero])
      refine wpAnyH_take (i := 3) (v := ?_) rfl (by kernel_rfl) (by kernel_rfl) (by kernel_rfl) (fun _ _ _ h => h) (Or.inl ⟨by kernel_rfl, ?_⟩) hHeld ?_
      rotate_left
      · intro w' hSw
        (try dsimp only at hSw)
        (try simp only [List.getElem_toArray]); (try simp only [List.getElem_cons_succ]); (try simp only [List.getElem_cons_zero])
        go_simp
        try with_reducible rfl
      (try simp only [Act.put]); (try simp only [List.getElem_toArray]); (try simp only [List.getElem_cons_succ]); (try simp only [List.getElem_cons_zero]); (try simp only [List.setIfInBounds_toArray]); (try simp only [List.set_cons_succ]); (try simp only [List.set_cons_zero])
      try rw [hdl]
      refine wpAnyH_take (i := 4) (v := ?_) rfl (by kernel_rfl) (by kernel_rfl) (by kernel_rfl) (fun _ _ _ h => h) (Or.inl ⟨by kernel_rfl, ?_⟩) hHeld ?_
      rotate_left
      · intro w' hSw
        (try dsimp only at hSw)
        (try simp only [List.getElem_toArray]); (try simp only [List.getElem_cons_succ]); (try simp only [List.getElem_cons_zero])
        go_simp
        try with_reducible rfl
      (try simp only [Act.put]); (try simp only [List.getElem_toArray]); (try simp only [List.getElem_cons_succ]); (try simp only [List.getElem_cons_zero]); (try simp only [List.setIfInBounds_toArray]); (try simp only [List.set_cons_succ]); (try simp only [List.set_cons_zero])
      refine wpAnyH_take (i := 5) (v := undef) rfl (by kernel_rfl) (by kernel_rfl) (by kernel_rfl) (fun _ _ _ h => h) (Or.inr ⟨by kernel_rfl, rfl⟩) hHeld ?_
      (try simp only [Act.put]); (try simp only [List.getElem_toArray]); (try simp only [List.getElem_cons_succ]); (try simp only [List.getElem_cons_zero]); (try simp only [List.setIfInBounds_toArray]); (try simp only [List.set_cons_succ]); (try simp only [List.set_cons_zero])
      refine wpAnyH_take (i := 6) (v := undef) rfl (by kernel_rfl) (by kernel_rfl) (by kernel_rfl) (fun _ _ _ h => h) (Or.inr ⟨by kernel_rfl, rfl⟩) hHeld ?_
      (try simp only [Act.put]); (try simp only [List.getElem_toArray]); (try simp only [List.getElem_cons_succ]); (try simp only [List.getElem_cons_zero]); (try simp only [List.setIfInBounds_toArray]); (try simp only [List.set_cons_succ]); (try simp only [List.set_cons_zero])
      refine wpAnyH_take (i := 7) (v := undef) rfl (by kernel_rfl) (by kernel_rfl) (by kernel_rfl) (fun _ _ _ h => h) (Or.inr ⟨by kernel_rfl, rfl⟩) hHeld ?_
      (try simp only [Act.put]); (try simp only [List.getElem_toArray]); (try simp only [List.getElem_cons_succ]); (try simp only [List.getElem_cons_zero]); (try simp only [List.setIfInBounds_toArray]); (try simp only [List.set_cons_succ]); (try simp only [List.set_cons_zero])
      refine wpAnyH_take (i := 8) (v := undef) rfl (by kernel_rfl) (by kernel_rfl) (by kernel_rfl) (fun _ _ _ h => h) (Or.inr ⟨by kernel_rfl, rfl⟩) hHeld ?_
      (try simp only [Act.put]); (try simp only [List.getElem_toArray]); (try simp only [List.getElem_cons_succ]); (try simp only [List.getElem_cons_zero]); (try simp only [List.setIfInBounds_toArray]); (try simp only [List.set_cons_succ]); (try simp only [List.set_cons_zero])
      refine wpAnyH_take (i := 9) (v := undef) rfl (by kernel_rfl) (by kernel_rfl) (by kernel_rfl) (fun _ _ _ h => h) (Or.inr ⟨by kernel_rfl, rfl⟩) hHeld ?_
      (try simp only [Act.put]); (try simp only [List.getElem_toArray]); (try simp only [List.getElem_cons_succ]); (try simp only [List.getElem_cons_zero]); (try simp only [List.setIfInBounds_toArray]); (try simp only [List.set_cons_succ]); (try simp only [List.set_cons_zero])
      refine wpAnyH_take (i := 10) (v := undef) rfl (by kernel_rfl) (by kernel_rfl) (by kernel_rfl) (fun _ _ _ h => h) (Or.inr ⟨by kernel_rfl, rfl⟩) hHeld ?_
      (try simp only [Act.put]); (try simp only [List.getElem_toArray]); (try simp only [List.getElem_cons_succ]); (try simp only [List.getElem_cons_zero]); (try simp only [List.setIfInBounds_toArray]); (try simp only [List.set_cons_succ]); (try simp only [List.set_cons_zero])
      refine wpAnyH_take (i := 11) (v := undef) rfl (by kernel_rfl) (by kernel_rfl) (by kernel_rfl) (fun _ _ _ h => h) (Or.inr ⟨by kernel_rfl, rfl⟩) hHeld ?_
      (try simp only [Act.put]); (try simp only [List.getElem_toArray]); (try simp only [List.getElem_cons_succ]); (try simp only [List.getElem_cons_zero]); (try simp only [List.setIfInBounds_toArray]); (try simp only [List.set_cons_succ]); (try simp only [List.set_cons_zero])
      refine wpAnyH_take (i := 12) (v := undef) rfl (by kernel_rfl) (by kernel_rfl) (by kernel_rfl) (fun _ _ _ h => h) (Or.inr ⟨by kernel_rfl, rfl⟩) hHeld ?_
      (try simp only [Act.put]); (try simp only [List.getElem_toArray]); (try simp only [List.getElem_cons_succ]); (try simp only [List.getElem_cons_zero]); (try simp only [List.setIfInBounds_toArray]); (try simp only [List.set_cons_succ]); (try simp only [List.set_cons_zero])
      refine wpAnyH_take (i := 13) (v := undef) rfl (by kernel_rfl) (by kernel_rfl) (by kernel_rfl) (fun _ _ _ h => h) (Or.inr ⟨by kernel_rfl, rfl⟩) hHeld ?_
      (try simp only [Act.put]); (try simp only [List.getElem_toArray]); (try simp only [List.getElem_cons_succ]); (try simp only [List.getElem_cons_zero]); (try simp only [List.setIfInBounds_toArray]); (try simp only [List.set_cons_succ]); (try simp only [List.set_cons_zero])
      refine wpAnyH_take (i := 14) (v := undef) rfl (by kernel_rfl) (by kernel_rfl) (by kernel_rfl) (fun _ _ _ h => h) (Or.inr ⟨by kernel_rfl, rfl⟩) hHeld ?_
      (try simp only [Act.put]); (try simp only [List.getElem_toArray]); (try simp only [List.getElem_cons_succ]); (try simp only [List.getElem_cons_zero]); (try simp only [List.setIfInBounds_toArray]); (try simp only [List.set_cons_succ]); (try simp only [List.set_cons_zero])
      refine wpAnyH_take (i := 15) (v := ?_) rfl (by kernel_rfl) (by kernel_rfl) (by kernel_rfl) (fun _ _ _ h => h) (Or.inl ⟨by kernel_rfl, ?_⟩) hHeld ?_
      rotate_left
      · intro w' hSw
        (try dsimp only at hSw)
        (try simp only [List.getElem_toArray]); (try simp only [List.getElem_cons_succ]); (try simp only [List.getElem_cons_zero])
        go_simp
        try with_reducible rfl
      (try simp only [Act.put]); (try simp only [List.getElem_toArray]); (try simp only [List.getElem_cons_succ]); (try simp only [List.getElem_cons_zero]); (try simp only [List.setIfInBounds_toArray]); (try simp only [List.set_cons_succ]); (try simp only [List.set_cons_zero])
      refine wpAnyH_done (by kernel_rfl) ?_ _
      clear hHeld
      cases a with
      | none =>
        have HLR : Hid (Lies w (fun b => b < w.heap.size) none (css.drop k).flatten) := HZ.out w none
        go_upto_region 5 with fail
        refine wp_region_held_drew (S := (fun _ => True)) (by kernel_rfl) (trivial) (fun hHeld => ?_)
        have kd5 : Keep Nix wd wd.drew := (Keep.refl Nix wd).drew
        replace kk := kk.trans kd5
        replace rowX0 := rowX0.keep kd5 id
        generalize wd.drew = we at *
        refine wpAnyH_take (i := 0) (v := ?_) rfl (by kernel_rfl) (by kernel_rfl) (by kernel_rfl) (fun _ _ _ h => h) (Or.inl ⟨by kernel_rfl, ?_⟩) hHeld ?_
        rotate_left
        · intro w' hSw
          (try dsimp only at hSw)
          (try simp only [List.getElem_toArray]); (try simp only [List.getElem_cons_succ]); (try simp only [List.getElem_cons_zero])
          go_simp
          try with_reducible rfl
        (try simp only [Act.put]); (try simp only [List.getElem_toArray]); (try simp only [List.getElem_cons_succ]); (try simp only [List.getElem_cons_zero]); (try simp only [List.setIfInBounds_toArray]); (try simp only [List.set_cons_succ]); (try simp only [List.set_cons_zero])
        refine wpAnyH_take (i := 1) (v := ?_) rfl (by kernel_rfl) (by kernel_rfl) (by kernel_rfl) (fun _ _ _ h => h) (Or.inl ⟨by kernel_rfl, ?_⟩) hHeld ?_
        rotate_left
        · intro w' hSw
          (try dsimp only at hSw)
          (try simp only [List.getElem_toArray]); (try simp only [List.getElem_cons_succ]); (try simp only [List.getElem_cons_zero])
          go_simp
          try with_reducible rfl
        (try simp only [Act.put]); (try simp only [List.getElem_toArray]); (try simp only [List.getElem_cons_succ]); (try simp only [List.getElem_cons_zero]); (try simp only [List.setIfInBounds_toArray]); (try simp only [List.set_cons_succ]); (try simp only [List.set_cons_zero])
        refine wpAnyH_take (i := 2) (v := ?_) rfl (by kernel_rfl) (by kernel_rfl) (by kernel_rfl) (fun _ _ _ h => h) (Or.inl ⟨by kernel_rfl, ?_⟩) hHeld ?_
        rotate_left
        · intro w' hSw
          (try dsimp only at hSw)
          (try simp only [List.getElem_toArray]); (try simp only [List.getElem_cons_succ]); (try simp only [List.getElem_cons_zero])
          go_simp
          try with_reducible rfl
        (try simp only [Act.put]); (try simp only [List.getElem_toArray]); (try simp only [List.getElem_cons_succ]); (try simp only [List.getElem_cons_zero]); (try simp only [List.setIfInBounds_toArray]); (try simp only [List.set_cons_succ]); (try simp only [List.set_cons_zero])
        try rw [hdz2]
        refine wpAnyH_take (i := 3) (v := ?_) rfl (by kernel_rfl) (by kernel_rfl) (by kernel_rfl) (fun _ _ _ h => h) (Or.inl ⟨by kernel_rfl, ?_⟩) hHeld ?_
        rotate_left
        · intro w' hSw
          (try dsimp only at hSw)
          (try simp only [List.getElem_toArray]); (try simp only [List.getElem_cons_succ]); (try simp only [List.getElem_cons_zero])
          go_simp
          try with_reducible rfl
        (try simp only [Act.put]); (try simp only [List.getElem_toArray]); (try simp only [List.getElem_cons_succ]); (try simp only [List.getElem_cons_zero]); (try simp only [List.setIfInBounds_toArray]); (try simp only [List.set_cons_succ]); (try simp only [List.set_cons_zero])
        refine wpAnyH_take (i := 4) (v := undef) rfl (by kernel_rfl) (by kernel_rfl) (by kernel_rfl) (fun _ _ _ h => h) (Or.inr ⟨by kernel_rfl, rfl⟩) hHeld ?_
        (try simp only [Act.put]); (try simp only [List.getElem_toArray]); (try simp only [List.getElem_cons_succ]); (try simp only [List.getElem_cons_zero]); (try simp only [List.setIfInBounds_toArray]); (try simp only [List.set_cons_succ]); (try simp only [List.set_cons_zero])
        refine wpAnyH_take (i := 5) (v := undef) rfl (by kernel_rfl) (by kernel_rfl) (by kernel_rfl) (fun _ _ _ h => h) (Or.inr ⟨by kernel_rfl, rfl⟩) hHeld ?_
        (try simp only [Act.put]); (try simp only [List.getElem_toArray]); (try simp only [List.getElem_cons_succ]); (try simp only [List.getElem_cons_zero]); (try simp only [List.setIfInBounds_toArray]); (try simp only [List.set_cons_succ]); (try simp only [List.set_cons_zero])
        refine wpAnyH_take (i := 6) (v := undef) rfl (by kernel_rfl) (by kernel_rfl) (by kernel_rfl) (fun _ _ _ h => h) (Or.inr ⟨by kernel_rfl, rfl⟩) hHeld ?_
        (try simp only [Act.put]); (try simp only [List.getElem_toArray]); (try simp only [List.getElem_cons_succ]); (try simp only [List.getElem_cons_zero]); (try simp only [List.setIfInBounds_toArray]); (try simp only [List.set_cons_succ]); (try simp only [List.set_cons_zero])
        refine wpAnyH_take (i := 7) (v := undef) rfl (by kernel_rfl) (by kernel_rfl) (by kernel_rfl) (fun _ _ _ h => h) (Or.inr ⟨by kernel_rfl, rfl⟩) hHeld ?_
        (try simp only [Act.put]); (try simp only [List.getElem_toArray]); (try simp only [List.getElem_cons_succ]); (try simp only [List.getElem_cons_zero]); (try simp only [List.setIfInBounds_toArray]); (try simp only [List.set_cons_succ]); (try simp only [List.set_cons_zero])
        refine wpAnyH_take (i := 8) (v := undef) rfl (by kernel_rfl) (by kernel_rfl) (by kernel_rfl) (fun _ _ _ h => h) (Or.inr ⟨by kernel_rfl, rfl⟩) hHeld ?_
        (try simp only [Act.put]); (try simp only [List.getElem_toArray]); (try simp only [List.getElem_cons_succ]); (try simp only [List.getElem_cons_zero]); (try simp only [List.setIfInBounds_toArray]); (try simp only [List.set_cons_succ]); (try simp only [List.set_cons_zero])
        refine wpAnyH_take (i := 9) (v := undef) rfl (by kernel_rfl) (by kernel_rfl) (by kernel_rfl) (fun _ _ _ h => h) (Or.inr ⟨by kernel_rfl, rfl⟩) hHeld ?_
        (try simp only [Act.put]); (try simp only [List.getElem_toArray]); (try simp only [List.getElem_cons_succ]); (try simp only [List.getElem_cons_zero]); (try simp only [List.setIfInBounds_toArray]); (try simp only [List.set_cons_succ]); (try simp only [List.set_cons_zero])
        refine wpAnyH_take (i := 10) (v := undef) rfl (by kernel_rfl) (by kernel_rfl) (by kernel_rfl) (fun _ _ _ h => h) (Or.inr ⟨by kernel_rfl, rfl⟩) hHeld ?_
        (try simp only [Act.put]); (try simp only [List.getElem_toArray]); (try simp only [List.getElem_cons_succ]); (try simp only [List.getElem_cons_zero]); (try simp only [List.setIfInBounds_toArray]); (try simp only [List.set_cons_succ]); (try simp only [List.set_cons_zero])
        refine wpAnyH_take (i := 11) (v := ?_) rfl (by kernel_rfl) (by kernel_rfl) (by kernel_rfl) (fun _ _ _ h => h) (Or.inl ⟨by kernel_rfl, ?_⟩) hHeld ?_
        rotate_left
        · intro w' hSw
          (try dsimp only at hSw)
          (try simp only [List.getElem_toArray]); (try simp only [List.getElem_cons_succ]); (try simp only [List.getElem_cons_zero])
          go_simp
          try with_reducible rfl
        (try simp only [Act.put]); (try simp only [List.getElem_toArray]); (try simp only [List.getElem_cons_succ]); (try simp only [List.getElem_cons_zero]); (try simp only [List.setIfInBounds_toArray]); (try simp only [List.set_cons_succ]); (try simp only [List.set_cons_zero])
        refine wpAnyH_done (by kernel_rfl) ?_ _
        clear hHeld
        go_upto_region 7 with fail
        have kz : Keep Nix we (we).drew := (Keep.refl Nix _).drew
        have kE := kk.trans kz
        have p0 := (rowX0.keep kz id).cell 0
        (try simp only [List.getElem?_cons_zero] at p0)
        have p1 := (rowX0.keep kz id).cell 1
        (try simp only [List.getElem?_cons_succ] at p1); (try simp only [List.getElem?_cons_zero] at p1)
        have p2 := (rowX0.keep kz id).cell 2
        (try simp only [List.getElem?_cons_succ] at p2); (try simp only [List.getElem?_cons_zero] at p2)
        refine wp_region_held_drew (S := (fun w' => w'.cell? ⟨w.heap.size, 0, none⟩ = some (.slice aK x.fKey.length cK) ∧ w'.cell? ⟨w.heap.size, 1, none⟩ = some (.slice aV x.fValue.length cV) ∧ w'.cell? ⟨w.heap.size, 2, none⟩ = some (.int .i64 x.fVersion))) (by kernel_rfl) (⟨p0, p1, p2⟩) (fun hHeld => ?_)
        have LA := (lies_take3 HLI.out H3.out k).keep kE (fun _ _ h => h)
        have LR := (HLR.out).keep kE (fun _ _ h => h)
        have hE : Hid (w.heap.size + 1 ≤ (we).drew.heap.size) := by show _ ≤ _; have := rowX0.lt; have := kz.size; omega
        have hwE := rowX0.keep kz id
        clear p0 p1 p2 kz rowX0
        generalize (we).drew = wE at *
        refine wpAnyH_take (i := 0) (v := ?_) rfl (by kernel_rfl) (by kernel_rfl) (by kernel_rfl) (fun _ _ _ h => h) (Or.inl ⟨by kernel_rfl, ?_⟩) hHeld ?_
        rotate_left
        · intro w' hSw
          (try dsimp only at hSw)
          (try simp only [List.getElem_toArray]); (try simp only [List.getElem_cons_succ]); (try simp only [List.getElem_cons_zero])
          go_simp
          try with_reducible rfl
        (try simp only [Act.put]); (try simp only [List.getElem_toArray]); (try simp only [List.getElem_cons_succ]); (try simp only [List.getElem_cons_zero]); (try simp only [List.setIfInBounds_toArray]); (try simp only [List.set_cons_succ]); (try simp only [List.set_cons_zero])
        refine wpAnyH_take (i := 1) (v := ?_) rfl (by kernel_rfl) (by kernel_rfl) (by kernel_rfl) (fun _ _ _ h => h) (Or.inl ⟨by kernel_rfl, ?_⟩) hHeld ?_
        rotate_left
        · intro w' hSw
          (try dsimp only at hSw)
          (try simp only [List.getElem_toArray]); (try simp only [List.getElem_cons_succ]); (try simp only [List.getElem_cons_zero])
          go_simp
          try with_reducible rfl
        (try simp only [Act.put]); (try simp only [List.getElem_toArray]); (try simp only [List.getElem_cons_succ]); (try simp only [List.getElem_cons_zero]); (try simp only [List.setIfInBounds_toArray]); (try simp only [List.set_cons_succ]); (try simp only [List.set_cons_zero])
        refine wpAnyH_take (i := 2) (v := ?_) rfl (by kernel_rfl) (by kernel_rfl) (by kernel_rfl) (fun _ _ _ h => h) (Or.inl ⟨by kernel_rfl, ?_⟩) hHeld ?_
        rotate_left
        · intro w' hSw
          (try dsimp only at hSw)
          (try simp only [List.getElem_toArray]); (try simp only [List.getElem_cons_succ]); (try simp only [List.getElem_cons_zero])
          go_simp
          try with_reducible rfl
        (try simp only [Act.put]); (try simp only [List.getElem_toArray]); (try simp only [List.getElem_cons_succ]); (try simp only [List.getElem_cons_zero]); (try simp only [List.setIfInBounds_toArray]); (try simp only [List.set_cons_succ]); (try simp only [List.set_cons_zero])
        refine wpAnyH_take (i := 4) (v := ?_) rfl (by kernel_rfl) (by kernel_rfl) (by kernel_rfl) (fun _ _ _ h => h) (Or.inl ⟨by kernel_rfl, ?_⟩) hHeld ?_
        rotate_left
        · intro w' hSw
          (try dsimp only at hSw)
          (try simp only [List.getElem_toArray]); (try simp only [List.getElem_cons_succ]); (try simp only [List.getElem_cons_zero])
          go_simp
          try with_reducible rfl
        (try simp only [Act.put]); (try simp only [List.getElem_toArray]); (try simp only [List.getElem_cons_succ]); (try simp only [List.getElem_cons_zero]); (try simp only [List.setIfInBounds_toArray]); (try simp only [List.set_cons_succ]); (try simp only [List.set_cons_zero])
        refine wpAnyH_take (i := 7) (v := ?_) rfl (by kernel_rfl) (by kernel_rfl) (by kernel_rfl) (fun _ _ _ h => h) (Or.inl ⟨by kernel_rfl, ?_⟩) hHeld ?_
        rotate_left
        · intro w' hSw
          (try dsimp only at hSw)
          (try simp only [List.getElem_toArray]); (try simp only [List.getElem_cons_succ]); (try simp only [List.getElem_cons_zero])
          go_simp
          try with_reducible rfl
        (try simp only [Act.put]); (try simp only [List.getElem_toArray]); (try simp only [List.getElem_cons_succ]); (try simp only [List.getElem_cons_zero]); (try simp only [List.setIfInBounds_toArray]); (try simp only [List.set_cons_succ]); (try simp only [List.set_cons_zero])
        refine wpAnyH_ready (rs := [3, 5]) (by kernel_rfl) (by simp) ?_
        refine AllReadyH.cons rfl (fun K hK => ?_) (AllReadyH.cons rfl (fun K hK => ?_) AllReadyH.nil)
        · obtain ⟨a1, c1, W2, hr1, own1, k1⟩ := appN_run T_lPair 22 (w.heap.size + 1) (World.ownsRow_nil wE (w.heap.size + 1) 29 3) (css.take k).flatten (m := k) (c := c) (by rw [← flat_take3 H3.out, List.length_take, HFL.out]; omega) LA (fun u hu => HON.out u (by rw [← flat_take3 H3.out] at hu; exact List.mem_of_mem_take hu)) (by unfold maxLen; omega) (by omega) hE.out
          rw [Nat.zero_add] at hr1 own1
          rw [List.nil_append] at own1
          refine step_app (by kernel_rfl) _ _ rfl rfl rfl hr1 ?_
          replace k1 : Keep Nix wE W2 := k1.mono (fun b h => by cases h)
          have hx1 := hwE.lt
          refine hK.out _ _ (⟨(k1.cell (p := ⟨w.heap.size, 0, none⟩) hx1 id).trans hHeld.1, (k1.cell (p := ⟨w.heap.size, 1, none⟩) hx1 id).trans hHeld.2.1, (k1.cell (p := ⟨w.heap.size, 2, none⟩) hx1 id).trans hHeld.2.2⟩) (fun hHeld => ?_)
          clear hK K
          (try simp only [Act.put]); (try simp only [List.getElem_toArray]); (try simp only [List.getElem_cons_succ]); (try simp only [List.getElem_cons_zero]); (try simp only [List.setIfInBounds_toArray]); (try simp only [List.set_cons_succ]); (try simp only [List.set_cons_zero])
          refine wpAnyH_ready (rs := [5]) (by kernel_rfl) (by simp) ?_
          refine AllReadyH.cons rfl (fun K hK => ?_) AllReadyH.nil
          go_simp
          have kx : Keep Nix W2 (W2.alloc (.cells #[.slice aK x.fKey.length cK, .slice aV x.fValue.length cV, .int .i64 x.fVersion] 29)) := (Keep.refl Nix W2).alloc _
          have hx2 := Nat.lt_of_lt_of_le hx1 k1.size
          refine hK.out _ _ (⟨(kx.cell (p := ⟨w.heap.size, 0, none⟩) hx2 id).trans hHeld.1, (kx.cell (p := ⟨w.heap.size, 1, none⟩) hx2 id).trans hHeld.2.1, (kx.cell (p := ⟨w.heap.size, 2, none⟩) hx2 id).trans hHeld.2.2⟩) (fun hHeld => ?_)
          clear hK K
          (try simp only [Act.put]); (try simp only [List.getElem_toArray]); (try simp only [List.getElem_cons_succ]); (try simp only [List.getElem_cons_zero]); (try simp only [List.setIfInBounds_toArray]); (try simp only [List.set_cons_succ]); (try simp only [List.set_cons_zero])
          have rowX := RowIs.alloc W2 #[.slice aK x.fKey.length cK, .slice aV x.fValue.length cV, .int .i64 x.fVersion] 29
          replace own1 := owned_keep own1 kx (fun _ _ h => h)
          have kW := k1.trans kx
          clear kx k1 hr1
          generalize W2.heap.size = gX at *
          generalize W2.alloc (.cells #[.slice aK x.fKey.length cK, .slice aV x.fValue.length cV, .int .i64 x.fVersion] 29) = W2 at *
          obtain ⟨a3, c3, w3, hr3, own3, k3⟩ := appN_run T_lPair 22 (w.heap.size + 1) own1 [.slice aK x.fKey.length cK, .slice aV x.fValue.length cV, .int .i64 x.fVersion] rfl (rowX.lies (fun _ => True) trivial (off := 0) (fun j u hu => by rw [Nat.zero_add]; exact hu)) (fun u hu => List.all_eq_true.1 (show ([.slice aK x.fKey.length cK, .slice aV x.fValue.length cV, .int .i64 x.fVersion] : List Value).all Value.oneCell' = true from rfl) u hu) (c := 1) (m := 1) (by unfold maxLen; omega) (by omega) (by have := hE.out; have := kW.size; omega)
          refine wpAnyH_ready (rs := [6]) (by kernel_rfl) (by simp) ?_
          refine AllReadyH.cons rfl (fun K hK => ?_) AllReadyH.nil
          refine step_app (by kernel_rfl) _ _ rfl rfl rfl hr3 ?_
          have hge2 : ∀ b, OwnB (.slice a1 k c1) b → w.heap.size + 1 ≤ b := fun b hb => (own1.lt b hb).1
          have hne2 : ¬ OwnB (.slice a1 k c1) w.heap.size := fun h => by have := hge2 _ h; omega
          have hwx2 : w.heap.size < W2.heap.size := by have := hE.out; have := kW.size; omega
          refine hK.out _ _ (⟨(k3.cell (p := ⟨w.heap.size, 0, none⟩) hwx2 hne2).trans hHeld.1, (k3.cell (p := ⟨w.heap.size, 1, none⟩) hwx2 hne2).trans hHeld.2.1, (k3.cell (p := ⟨w.heap.size, 2, none⟩) hwx2 hne2).trans hHeld.2.2⟩) (fun hHeld => ?_)
          clear hK K
          (try simp only [Act.put]); (try simp only [List.getElem_toArray]); (try simp only [List.getElem_cons_succ]); (try simp only [List.getElem_cons_zero]); (try simp only [List.setIfInBounds_toArray]); (try simp only [List.set_cons_succ]); (try simp only [List.set_cons_zero])
          have hwx3 : w.heap.size < w3.heap.size := by have := k3.size; omega
          have LR3 := (LR.keep kW (fun _ _ h => h)).keep k3 (fun b hb h => by have := hge2 b h; have hb' : b < w.heap.size := hb; omega)
          obtain ⟨a4, c4, w4, hr4, own4, k4⟩ := appN_run T_lPair 22 (w.heap.size + 1) own3 (css.drop (k)).flatten (m := (l.length - k)) (c := (c - k)) (by rw [← flat_drop3 H3.out, List.length_drop, HFL.out]; omega) LR3 (fun u hu => HON.out u (by rw [← flat_drop3 H3.out] at hu; exact List.mem_of_mem_drop hu)) (by unfold maxLen; omega) (by omega) (by omega)
          refine wpAnyH_ready (rs := [8]) (by kernel_rfl) (by simp) ?_
          refine AllReadyH.cons rfl (fun K hK => ?_) AllReadyH.nil
          refine step_app (by kernel_rfl) _ _ rfl rfl rfl hr4 ?_
          have hge3 : ∀ b, OwnB (.slice a3 (k + 1) c3) b → w.heap.size + 1 ≤ b := fun b hb => (own3.lt b hb).1
          have hne3 : ¬ OwnB (.slice a3 (k + 1) c3) w.heap.size := fun h => by have := hge3 _ h; omega
          refine hK.out _ _ (⟨(k4.cell (p := ⟨w.heap.size, 0, none⟩) hwx3 hne3).trans hHeld.1, (k4.cell (p := ⟨w.heap.size, 1, none⟩) hwx3 hne3).trans hHeld.2.1, (k4.cell (p := ⟨w.heap.size, 2, none⟩) hwx3 hne3).trans hHeld.2.2⟩) (fun hHeld => ?_)
          clear hK K
          (try simp only [Act.put]); (try simp only [List.getElem_toArray]); (try simp only [List.getElem_cons_succ]); (try simp only [List.getElem_cons_zero]); (try simp only [List.setIfInBounds_toArray]); (try simp only [List.set_cons_succ]); (try simp only [List.set_cons_zero])
          refine wpAnyH_take (i := 9) (v := ?_) rfl (by kernel_rfl) (by kernel_rfl) (by kernel_rfl) (fun _ _ _ h => h) (Or.inl ⟨by kernel_rfl, ?_⟩) hHeld ?_
          rotate_left
          · intro w' hSw
            (try dsimp only at hSw)
            (try simp only [List.getElem_toArray]); (try simp only [List.getElem_cons_succ]); (try simp only [List.getElem_cons_zero])
            go_simp
            try with_reducible rfl
          (try simp only [Act.put]); (try simp only [List.getElem_toArray]); (try simp only [List.getElem_cons_succ]); (try simp only [List.getElem_cons_zero]); (try simp only [List.setIfInBounds_toArray]); (try simp only [List.set_cons_succ]); (try simp only [List.set_cons_zero])
          refine wpAnyH_done (by kernel_rfl) ?_ _
          clear hHeld
          have kAll := (kE.trans kW).then ((k3.mono (T := fun b => w.heap.size + 1 ≤ b) (fun b hb => hge2 b hb)).trans (k4.mono (T := fun b => w.heap.size + 1 ≤ b) (fun b hb => hge3 b hb))) (fun i hi h => by omega)
          have els4 : Els rGPair w4 (fun b => (p b ∨ q b) ∧ b < w.heap.size) (css.take k ++ [.slice aK x.fKey.length cK, .slice aV x.fValue.length cV, .int .i64 x.fVersion] :: css.drop (k)) (l.take k ++ x :: l.drop (k)) := by
            have k24 : Keep (fun b => w.heap.size ≤ b) w w4 := kAll.nixS
            have e1 := ((HEL.out.takeN k).keep rGPair_lawful k24 (fun b hb h => by have := hb.2; omega)).mono (q := fun b => (p b ∨ q b) ∧ b < w.heap.size) rGPair_lawful (fun b hb => ⟨.inl hb.1, hb.2⟩)
            have e2 := ((HEL.out.dropN (k)).keep rGPair_lawful k24 (fun b hb h => by have := hb.2; omega)).mono (q := fun b => (p b ∨ q b) ∧ b < w.heap.size) rGPair_lawful (fun b hb => ⟨.inl hb.1, hb.2⟩)
            have e3 := rGPair_lawful.mono (q := fun b => (p b ∨ q b) ∧ b < w.heap.size) (rGPair_lawful.keep HXX.out k24 (fun b hb h => by have := hb.2; omega)) (fun b hb => ⟨.inr hb.1, hb.2⟩)
            exact e1.app (Els.cons e3 e2)
          have HOWN := Lib.hid own4
          have HE4 := Lib.hid els4
          have HKA := Lib.hid kAll
          clear own1 own3 own4 els4 kAll k3 k4 kE kW hge2 hge3 hne2 hne3 hwx2 hwx3 LR LR3 LA rowX hE
          go_wp2_with fail
          go_ret
          rw [HT.out]
          have hlen : (l.take k ++ x :: l.drop (k)).length = k + 1 + ((l.length - k)) := by rw [List.length_append, List.length_cons, List.length_take, List.length_drop]; omega
          refine ⟨a4, c4, _, by rw [hlen]; rfl, ?_, HE4.out, HKA.out⟩
          rw [hlen, List.flatten_append, List.flatten_cons, ← List.append_assoc]
          exact own_from HOWN.out (by omega)
        · go_simp
          have kx : Keep Nix wE (wE.alloc (.cells #[.slice aK x.fKey.length cK, .slice aV x.fValue.length cV, .int .i64 x.fVersion] 29)) := (Keep.refl Nix wE).alloc _
          have hx1 := hwE.lt
          refine hK.out _ _ (⟨(kx.cell (p := ⟨w.heap.size, 0, none⟩) hx1 id).trans hHeld.1, (kx.cell (p := ⟨w.heap.size, 1, none⟩) hx1 id).trans hHeld.2.1, (kx.cell (p := ⟨w.heap.size, 2, none⟩) hx1 id).trans hHeld.2.2⟩) (fun hHeld => ?_)
          clear hK K
          (try simp only [Act.put]); (try simp only [List.getElem_toArray]); (try simp only [List.getElem_cons_succ]); (try simp only [List.getElem_cons_zero]); (try simp only [List.setIfInBounds_toArray]); (try simp only [List.set_cons_succ]); (try simp only [List.set_cons_zero])
          have rowX := RowIs.alloc wE #[.slice aK x.fKey.length cK, .slice aV x.fValue.length cV, .int .i64 x.fVersion] 29
          have hx2 := Nat.lt_of_lt_of_le hx1 kx.size
          generalize wE.heap.size = gX at rowX ⊢
          generalize wE.alloc (.cells #[.slice aK x.fKey.length cK, .slice aV x.fValue.length cV, .int .i64 x.fVersion] 29) = wY at *
          obtain ⟨a1, c1, W2, hr1, own1, k1⟩ := appN_run T_lPair 22 (w.heap.size + 1) (World.ownsRow_nil wY (w.heap.size + 1) 29 3) (css.take k).flatten (m := k) (c := c) (by rw [← flat_take3 H3.out, List.length_take, HFL.out]; omega) (LA.keep kx (fun _ _ h => h)) (fun u hu => HON.out u (by rw [← flat_take3 H3.out] at hu; exact List.mem_of_mem_take hu)) (by unfold maxLen; omega) (by omega) (by have := hE.out; have := kx.size; omega)
          rw [Nat.zero_add] at hr1 own1
          rw [List.nil_append] at own1
          refine wpAnyH_ready (rs := [3]) (by kernel_rfl) (by simp) ?_
          refine AllReadyH.cons rfl (fun K hK => ?_) AllReadyH.nil
          refine step_app (by kernel_rfl) _ _ rfl rfl rfl hr1 ?_
          replace k1 : Keep Nix wY W2 := k1.mono (fun b h => by cases h)
          refine hK.out _ _ (⟨(k1.cell (p := ⟨w.heap.size, 0, none⟩) hx2 id).trans hHeld.1, (k1.cell (p := ⟨w.heap.size, 1, none⟩) hx2 id).trans hHeld.2.1, (k1.cell (p := ⟨w.heap.size, 2, none⟩) hx2 id).trans hHeld.2.2⟩) (fun hHeld => ?_)
          clear hK K
          (try simp only [Act.put]); (try simp only [List.getElem_toArray]); (try simp only [List.getElem_cons_succ]); (try simp only [List.getElem_cons_zero]); (try simp only [List.setIfInBounds_toArray]); (try simp only [List.set_cons_succ]); (try simp only [List.set_cons_zero])
          replace rowX := rowX.keep k1 id
          have kW := kx.trans k1
          clear kx k1 hr1
          obtain ⟨a3, c3, w3, hr3, own3, k3⟩ := appN_run T_lPair 22 (w.heap.size + 1) own1 [.slice aK x.fKey.length cK, .slice aV x.fValue.length cV, .int .i64 x.fVersion] rfl (rowX.lies (fun _ => True) trivial (off := 0) (fun j u hu => by rw [Nat.zero_add]; exact hu)) (fun u hu => List.all_eq_true.1 (show ([.slice aK x.fKey.length cK, .slice aV x.fValue.length cV, .int .i64 x.fVersion] : List Value).all Value.oneCell' = true from rfl) u hu) (c := 1) (m := 1) (by unfold maxLen; omega) (by omega) (by have := hE.out; have := kW.size; omega)
          refine wpAnyH_ready (rs := [6]) (by kernel_rfl) (by simp) ?_
          refine AllReadyH.cons rfl (fun K hK => ?_) AllReadyH.nil
          refine step_app (by kernel_rfl) _ _ rfl rfl rfl hr3 ?_
          have hge2 : ∀ b, OwnB (.slice a1 k c1) b → w.heap.size + 1 ≤ b := fun b hb => (own1.lt b hb).1
          have hne2 : ¬ OwnB (.slice a1 k c1) w.heap.size := fun h => by have := hge2 _ h; omega
          have hwx2 : w.heap.size < W2.heap.size := by have := hE.out; have := kW.size; omega
          refine hK.out _ _ (⟨(k3.cell (p := ⟨w.heap.size, 0, none⟩) hwx2 hne2).trans hHeld.1, (k3.cell (p := ⟨w.heap.size, 1, none⟩) hwx2 hne2).trans hHeld.2.1, (k3.cell (p := ⟨w.heap.size, 2, none⟩) hwx2 hne2).trans hHeld.2.2⟩) (fun hHeld => ?_)
          clear hK K
          (try simp only [Act.put]); (try simp only [List.getElem_toArray]); (try simp only [List.getElem_cons_succ]); (try simp only [List.getElem_cons_zero]); (try simp only [List.setIfInBounds_toArray]); (try simp only [List.set_cons_succ]); (try simp only [List.set_cons_zero])
          have hwx3 : w.heap.size < w3.heap.size := by have := k3.size; omega
          have LR3 := (LR.keep kW (fun _ _ h => h)).keep k3 (fun b hb h => by have := hge2 b h; have hb' : b < w.heap.size := hb; omega)
          obtain ⟨a4, c4, w4, hr4, own4, k4⟩ := appN_run T_lPair 22 (w.heap.size + 1) own3 (css.drop (k)).flatten (m := (l.length - k)) (c := (c - k)) (by rw [← flat_drop3 H3.out, List.length_drop, HFL.out]; omega) LR3 (fun u hu => HON.out u (by rw [← flat_drop3 H3.out] at hu; exact List.mem_of_mem_drop hu)) (by unfold maxLen; omega) (by omega) (by omega)
          refine wpAnyH_ready (rs := [8]) (by kernel_rfl) (by simp) ?_
          refine AllReadyH.cons rfl (fun K hK => ?_) AllReadyH.nil
          refine step_app (by kernel_rfl) _ _ rfl rfl rfl hr4 ?_
          have hge3 : ∀ b, OwnB (.slice a3 (k + 1) c3) b → w.heap.size + 1 ≤ b := fun b hb => (own3.lt b hb).1
          have hne3 : ¬ OwnB (.slice a3 (k + 1) c3) w.heap.size := fun h => by have := hge3 _ h; omega
          refine hK.out _ _ (⟨(k4.cell (p := ⟨w.heap.size, 0, none⟩) hwx3 hne3).trans hHeld.1, (k4.cell (p := ⟨w.heap.size, 1, none⟩) hwx3 hne3).trans hHeld.2.1, (k4.cell (p := ⟨w.heap.size, 2, none⟩) hwx3 hne3).trans hHeld.2.2⟩) (fun hHeld => ?_)
          clear hK K
          (try simp only [Act.put]); (try simp only [List.getElem_toArray]); (try simp only [List.getElem_cons_succ]); (try simp only [List.getElem_cons_zero]); (try simp only [List.setIfInBounds_toArray]); (try simp only [List.set_cons_succ]); (try simp only [List.set_cons_zero])
          refine wpAnyH_take (i := 9) (v := ?_) rfl (by kernel_rfl) (by kernel_rfl) (by kernel_rfl) (fun _ _ _ h => h) (Or.inl ⟨by kernel_rfl, ?_⟩) hHeld ?_
          rotate_left
          · intro w' hSw
            (try dsimp only at hSw)
            (try simp only [List.getElem_toArray]); (try simp only [List.getElem_cons_succ]); (try simp only [List.getElem_cons_zero])
            go_simp
            try with_reducible rfl
          (try simp only [Act.put]); (try simp only [List.getElem_toArray]); (try simp only [List.getElem_cons_succ]); (try simp only [List.getElem_cons_zero]); (try simp only [List.setIfInBounds_toArray]); (try simp only [List.set_cons_succ]); (try simp only [List.set_cons_zero])
          refine wpAnyH_done (by kernel_rfl) ?_ _
          clear hHeld
          have kAll := (kE.trans kW).then ((k3.mono (T := fun b => w.heap.size + 1 ≤ b) (fun b hb => hge2 b hb)).trans (k4.mono (T := fun b => w.heap.size + 1 ≤ b) (fun b hb => hge3 b hb))) (fun i hi h => by omega)
          have els4 : Els rGPair w4 (fun b => (p b ∨ q b) ∧ b < w.heap.size) (css.take k ++ [.slice aK x.fKey.length cK, .slice aV x.fValue.length cV, .int .i64 x.fVersion] :: css.drop (k)) (l.take k ++ x :: l.drop (k)) := by
            have k24 : Keep (fun b => w.heap.size ≤ b) w w4 := kAll.nixS
            have e1 := ((HEL.out.takeN k).keep rGPair_lawful k24 (fun b hb h => by have := hb.2; omega)).mono (q := fun b => (p b ∨ q b) ∧ b < w.heap.size) rGPair_lawful (fun b hb => ⟨.inl hb.1, hb.2⟩)
            have e2 := ((HEL.out.dropN (k)).keep rGPair_lawful k24 (fun b hb h => by have := hb.2; omega)).mono (q := fun b => (p b ∨ q b) ∧ b < w.heap.size) rGPair_lawful (fun b hb => ⟨.inl hb.1, hb.2⟩)
            have e3 := rGPair_lawful.mono (q := fun b => (p b ∨ q b) ∧ b < w.heap.size) (rGPair_lawful.keep HXX.out k24 (fun b hb h => by have := hb.2; omega)) (fun b hb => ⟨.inr hb.1, hb.2⟩)
            exact e1.app (Els.cons e3 e2)
          have HOWN := Lib.hid own4
          have HE4 := Lib.hid els4
          have HKA := Lib.hid kAll
          clear own1 own3 own4 els4 kAll k3 k4 kE kW hge2 hge3 hne2 hne3 hwx2 hwx3 LR LR3 LA rowX hE
          go_wp2_with fail
          go_ret
          rw [HT.out]
          have hlen : (l.take k ++ x :: l.drop (k)).length = k + 1 + ((l.length - k)) := by rw [List.length_append, List.length_cons, List.length_take, List.length_drop]; omega
          refine ⟨a4, c4, _, by rw [hlen]; rfl, ?_, HE4.out, HKA.out⟩
          rw [hlen, List.flatten_append, List.flatten_cons, ← List.append_assoc]
          exact own_from HOWN.out (by omega)
      | some ad =>
        obtain ⟨b0, o0, m0⟩ := ad
        by_cases hck : c = k
        · obtain rfl : k = c := hck.symm
          have HLR : Hid (Lies w (fun b => b < w.heap.size) (some ⟨b0, o0, m0⟩) (css.drop k).flatten) := HZ.out w _
          clear hck
          go_upto_region 5 with fail
          refine wp_region_held_drew (S := (fun _ => True)) (by kernel_rfl) (trivial) (fun hHeld => ?_)
          have kd5 : Keep Nix wd wd.drew := (Keep.refl Nix wd).drew
          replace kk := kk.trans kd5
          replace rowX0 := rowX0.keep kd5 id
          generalize wd.drew = we at *
          refine wpAnyH_take (i := 0) (v := ?_) rfl (by kernel_rfl) (by kernel_rfl) (by kernel_rfl) (fun _ _ _ h => h) (Or.inl ⟨by kernel_rfl, ?_⟩) hHeld ?_
          rotate_left
          · intro w' hSw
            (try dsimp only at hSw)
            (try simp only [List.getElem_toArray]); (try simp only [List.getElem_cons_succ]); (try simp only [List.getElem_cons_zero])
            go_simp
            try with_reducible rfl
          (try simp only [Act.put]); (try simp only [List.getElem_toArray]); (try simp only [List.getElem_cons_succ]); (try simp only [List.getElem_cons_zero]); (try simp only [List.setIfInBounds_toArray]); (try simp only [List.set_cons_succ]); (try simp only [List.set_cons_zero])
          refine wpAnyH_take (i := 1) (v := ?_) rfl (by kernel_rfl) (by kernel_rfl) (by kernel_rfl) (fun _ _ _ h => h) (Or.inl ⟨by kernel_rfl, ?_⟩) hHeld ?_
          rotate_left
          · intro w' hSw
            (try dsimp only at hSw)
            (try simp only [List.getElem_toArray]); (try simp only [List.getElem_cons_succ]); (try simp only [List.getElem_cons_zero])
            go_simp
            try with_reducible rfl
          (try simp only [Act.put]); (try simp only [List.getElem_toArray]); (try simp only [List.getElem_cons_succ]); (try simp only [List.getElem_cons_zero]); (try simp only [List.setIfInBounds_toArray]); (try simp only [List.set_cons_succ]); (try simp only [List.set_cons_zero])
          refine wpAnyH_take (i := 2) (v := ?_) rfl (by kernel_rfl) (by kernel_rfl) (by kernel_rfl) (fun _ _ _ h => h) (Or.inl ⟨by kernel_rfl, ?_⟩) hHeld ?_
          rotate_left
          · intro w' hSw
            (try dsimp only at hSw)
            (try simp only [List.getElem_toArray]); (try simp only [List.getElem_cons_succ]); (try simp only [List.getElem_cons_zero])
            go_simp
            try with_reducible rfl
          (try simp only [Act.put]); (try simp only [List.getElem_toArray]); (try simp only [List.getElem_cons_succ]); (try simp only [List.getElem_cons_zero]); (try simp only [List.setIfInBounds_toArray]); (try simp only [List.set_cons_succ]); (try simp only [List.set_cons_zero])
          try rw [hdz2]
          refine wpAnyH_take (i := 3) (v := ?_) rfl (by kernel_rfl) (by kernel_rfl) (by kernel_rfl) (fun _ _ _ h => h) (Or.inl ⟨by kernel_rfl, ?_⟩) hHeld ?_
          rotate_left
          · intro w' hSw
            (try dsimp only at hSw)
            (try simp only [List.getElem_toArray]); (try simp only [List.getElem_cons_succ]); (try simp only [List.getElem_cons_zero])
            go_simp
            try with_reducible rfl
          (try simp only [Act.put]); (try simp only [List.getElem_toArray]); (try simp only [List.getElem_cons_succ]); (try simp only [List.getElem_cons_zero]); (try simp only [List.setIfInBounds_toArray]); (try simp only [List.set_cons_succ]); (try simp only [List.set_cons_zero])
          refine wpAnyH_take (i := 4) (v := undef) rfl (by kernel_rfl) (by kernel_rfl) (by kernel_rfl) (fun _ _ _ h => h) (Or.inr ⟨by kernel_rfl, rfl⟩) hHeld ?_
          (try simp only [Act.put]); (try simp only [List.getElem_toArray]); (try simp only [List.getElem_cons_succ]); (try simp only [List.getElem_cons_zero]); (try simp only [List.setIfInBounds_toArray]); (try simp only [List.set_cons_succ]); (try simp only [List.set_cons_zero])
          refine wpAnyH_take (i := 5) (v := undef) rfl (by kernel_rfl) (by kernel_rfl) (by kernel_rfl) (fun _ _ _ h => h) (Or.inr ⟨by kernel_rfl, rfl⟩) hHeld ?_
          (try simp only [Act.put]); (try simp only [List.getElem_toArray]); (try simp only [List.getElem_cons_succ]); (try simp only [List.getElem_cons_zero]); (try simp only [List.setIfInBounds_toArray]); (try simp only [List.set_cons_succ]); (try simp only [List.set_cons_zero])
          refine wpAnyH_take (i := 6) (v := undef) rfl (by kernel_rfl) (by kernel_rfl) (by kernel_rfl) (fun _ _ _ h => h) (Or.inr ⟨by kernel_rfl, rfl⟩) hHeld ?_
          (try simp only [Act.put]); (try simp only [List.getElem_toArray]); (try simp only [List.getElem_cons_succ]); (try simp only [List.getElem_cons_zero]); (try simp only [List.setIfInBounds_toArray]); (try simp only [List.set_cons_succ]); (try simp only [List.set_cons_zero])
          refine wpAnyH_take (i := 7) (v := undef) rfl (by kernel_rfl) (by kernel_rfl) (by kernel_rfl) (fun _ _ _ h => h) (Or.inr ⟨by kernel_rfl, rfl⟩) hHeld ?_
          (try simp only [Act.put]); (try simp only [List.getElem_toArray]); (try simp only [List.getElem_cons_succ]); (try simp only [List.getElem_cons_zero]); (try simp only [List.setIfInBounds_toArray]); (try simp only [List.set_cons_succ]); (try simp only [List.set_cons_zero])
          refine wpAnyH_take (i := 8) (v := undef) rfl (by kernel_rfl) (by kernel_rfl) (by kernel_rfl) (fun _ _ _ h => h) (Or.inr ⟨by kernel_rfl, rfl⟩) hHeld ?_
          (try simp only [Act.put]); (try simp only [List.getElem_toArray]); (try simp only [List.getElem_cons_succ]); (try simp only [List.getElem_cons_zero]); (try simp only [List.setIfInBounds_toArray]); (try simp only [List.set_cons_succ]); (try simp only [List.set_cons_zero])
          refine wpAnyH_take (i := 9) (v := undef) rfl (by kernel_rfl) (by kernel_rfl) (by kernel_rfl) (fun _ _ _ h => h) (Or.inr ⟨by kernel_rfl, rfl⟩) hHeld ?_
          (try simp only [Act.put]); (try simp only [List.getElem_toArray]); (try simp only [List.getElem_cons_succ]); (try simp only [List.getElem_cons_zero]); (try simp only [List.setIfInBounds_toArray]); (try simp only [List.set_cons_succ]); (try simp only [List.set_cons_zero])
          refine wpAnyH_take (i := 10) (v := undef) rfl (by kernel_rfl) (by kernel_rfl) (by kernel_rfl) (fun _ _ _ h => h) (Or.inr ⟨by kernel_rfl, rfl⟩) hHeld ?_
          (try simp only [Act.put]); (try simp only [List.getElem_toArray]); (try simp only [List.getElem_cons_succ]); (try simp only [List.getElem_cons_zero]); (try simp only [List.setIfInBounds_toArray]); (try simp only [List.set_cons_succ]); (try simp only [List.set_cons_zero])
          refine wpAnyH_take (i := 11) (v := ?_) rfl (by kernel_rfl) (by kernel_rfl) (by kernel_rfl) (fun _ _ _ h => h) (Or.inl ⟨by kernel_rfl, ?_⟩) hHeld ?_
          rotate_left
          · intro w' hSw
            (try dsimp only at hSw)
            (try simp only [List.getElem_toArray]); (try simp only [List.getElem_cons_succ]); (try simp only [List.getElem_cons_zero])
            go_simp
            try with_reducible rfl
          (try simp only [Act.put]); (try simp only [List.getElem_toArray]); (try simp only [List.getElem_cons_succ]); (try simp only [List.getElem_cons_zero]); (try simp only [List.setIfInBounds_toArray]); (try simp only [List.set_cons_succ]); (try simp only [List.set_cons_zero])
          refine wpAnyH_done (by kernel_rfl) ?_ _
          clear hHeld
          go_upto_region 7 with fail
          have kz : Keep Nix we (we).drew := (Keep.refl Nix _).drew
          have kE := kk.trans kz
          have p0 := (rowX0.keep kz id).cell 0
          (try simp only [List.getElem?_cons_zero] at p0)
          have p1 := (rowX0.keep kz id).cell 1
          (try simp only [List.getElem?_cons_succ] at p1); (try simp only [List.getElem?_cons_zero] at p1)
          have p2 := (rowX0.keep kz id).cell 2
          (try simp only [List.getElem?_cons_succ] at p2); (try simp only [List.getElem?_cons_zero] at p2)
          refine wp_region_held_drew (S := (fun w' => w'.cell? ⟨w.heap.size, 0, none⟩ = some (.slice aK x.fKey.length cK) ∧ w'.cell? ⟨w.heap.size, 1, none⟩ = some (.slice aV x.fValue.length cV) ∧ w'.cell? ⟨w.heap.size, 2, none⟩ = some (.int .i64 x.fVersion))) (by kernel_rfl) (⟨p0, p1, p2⟩) (fun hHeld => ?_)
          have LA := (lies_take3 HLI.out H3.out k).keep kE (fun _ _ h => h)
          have LR := (HLR.out).keep kE (fun _ _ h => h)
          have hE : Hid (w.heap.size + 1 ≤ (we).drew.heap.size) := by show _ ≤ _; have := rowX0.lt; have := kz.size; omega
          have hwE := rowX0.keep kz id
          clear p0 p1 p2 kz rowX0
          generalize (we).drew = wE at *
          refine wpAnyH_take (i := 0) (v := ?_) rfl (by kernel_rfl) (by kernel_rfl) (by kernel_rfl) (fun _ _ _ h => h) (Or.inl ⟨by kernel_rfl, ?_⟩) hHeld ?_
          rotate_left
          · intro w' hSw
            (try dsimp only at hSw)
            (try simp only [List.getElem_toArray]); (try simp only [List.getElem_cons_succ]); (try simp only [List.getElem_cons_zero])
            go_simp
            try with_reducible rfl
          (try simp only [Act.put]); (try simp only [List.getElem_toArray]); (try simp only [List.getElem_cons_succ]); (try simp only [List.getElem_cons_zero]); (try simp only [List.setIfInBounds_toArray]); (try simp only [List.set_cons_succ]); (try simp only [List.set_cons_zero])
          refine wpAnyH_take (i := 1) (v := ?_) rfl (by kernel_rfl) (by kernel_rfl) (by kernel_rfl) (fun _ _ _ h => h) (Or.inl ⟨by kernel_rfl, ?_⟩) hHeld ?_
          rotate_left
          · intro w' hSw
            (try dsimp only at hSw)
            (try simp only [List.getElem_toArray]); (try simp only [List.getElem_cons_succ]); (try simp only [List.getElem_cons_zero])
            go_simp
            try with_reducible rfl
          (try simp only [Act.put]); (try simp only [List.getElem_toArray]); (try simp only [List.getElem_cons_succ]); (try simp only [List.getElem_cons_zero]); (try simp only [List.setIfInBounds_toArray]); (try simp only [List.set_cons_succ]); (try simp only [List.set_cons_zero])
          refine wpAnyH_take (i := 2) (v := ?_) rfl (by kernel_rfl) (by kernel_rfl) (by kernel_rfl) (fun _ _ _ h => h) (Or.inl ⟨by kernel_rfl, ?_⟩) hHeld ?_
          rotate_left
          · intro w' hSw
            (try dsimp only at hSw)
            (try simp only [List.getElem_toArray]); (try simp only [List.getElem_cons_succ]); (try simp only [List.getElem_cons_zero])
            go_simp
            try with_reducible rfl
          (try simp only [Act.put]); (try simp only [List.getElem_toArray]); (try simp only [List.getElem_cons_succ]); (try simp only [List.getElem_cons_zero]); (try simp only [List.setIfInBounds_toArray]); (try simp only [List.set_cons_succ]); (try simp only [List.set_cons_zero])
          refine wpAnyH_take (i := 4) (v := ?_) rfl (by kernel_rfl) (by kernel_rfl) (by kernel_rfl) (fun _ _ _ h => h) (Or.inl ⟨by kernel_rfl, ?_⟩) hHeld ?_
          rotate_left
          · intro w' hSw
            (try dsimp only at hSw)
            (try simp only [List.getElem_toArray]); (try simp only [List.getElem_cons_succ]); (try simp only [List.getElem_cons_zero])
            go_simp
            try with_reducible rfl
          (try simp only [Act.put]); (try simp only [List.getElem_toArray]); (try simp only [List.getElem_cons_succ]); (try simp only [List.getElem_cons_zero]); (try simp only [List.setIfInBounds_toArray]); (try simp only [List.set_cons_succ]); (try simp only [List.set_cons_zero])
          refine wpAnyH_take (i := 7) (v := ?_) rfl (by kernel_rfl) (by kernel_rfl) (by kernel_rfl) (fun _ _ _ h => h) (Or.inl ⟨by kernel_rfl, ?_⟩) hHeld ?_
          rotate_left
          · intro w' hSw
            (try dsimp only at hSw)
            (try simp only [List.getElem_toArray]); (try simp only [List.getElem_cons_succ]); (try simp only [List.getElem_cons_zero])
            go_simp
            try with_reducible rfl
          (try simp only [Act.put]); (try simp only [List.getElem_toArray]); (try simp only [List.getElem_cons_succ]); (try simp only [List.getElem_cons_zero]); (try simp only [List.setIfInBounds_toArray]); (try simp only [List.set_cons_succ]); (try simp only [List.set_cons_zero])
          refine wpAnyH_ready (rs := [3, 5]) (by kernel_rfl) (by simp) ?_
          refine AllReadyH.cons rfl (fun K hK => ?_) (AllReadyH.cons rfl (fun K hK => ?_) AllReadyH.nil)
          · obtain ⟨a1, c1, W2, hr1, own1, k1⟩ := appN_run T_lPair 22 (w.heap.size + 1) (World.ownsRow_nil wE (w.heap.size + 1) 29 3) (css.take k).flatten (m := k) (c := k) (by rw [← flat_take3 H3.out, List.length_take, HFL.out]; omega) LA (fun u hu => HON.out u (by rw [← flat_take3 H3.out] at hu; exact List.mem_of_mem_take hu)) (by unfold maxLen; omega) (by omega) hE.out
            rw [Nat.zero_add] at hr1 own1
            rw [List.nil_append] at own1
            refine step_app (by kernel_rfl) _ _ rfl rfl rfl hr1 ?_
            replace k1 : Keep Nix wE W2 := k1.mono (fun b h => by cases h)
            have hx1 := hwE.lt
            refine hK.out _ _ (⟨(k1.cell (p := ⟨w.heap.size, 0, none⟩) hx1 id).trans hHeld.1, (k1.cell (p := ⟨w.heap.size, 1, none⟩) hx1 id).trans hHeld.2.1, (k1.cell (p := ⟨w.heap.size, 2, none⟩) hx1 id).trans hHeld.2.2⟩) (fun hHeld => ?_)
            clear hK K
            (try simp only [Act.put]); (try simp only [List.getElem_toArray]); (try simp only [List.getElem_cons_succ]); (try simp only [List.getElem_cons_zero]); (try simp only [List.setIfInBounds_toArray]); (try simp only [List.set_cons_succ]); (try simp only [List.set_cons_zero])
            refine wpAnyH_ready (rs := [5]) (by kernel_rfl) (by simp) ?_
            refine AllReadyH.cons rfl (fun K hK => ?_) AllReadyH.nil
            go_simp
            have kx : Keep Nix W2 (W2.alloc (.cells #[.slice aK x.fKey.length cK, .slice aV x.fValue.length cV, .int .i64 x.fVersion] 29)) := (Keep.refl Nix W2).alloc _
            have hx2 := Nat.lt_of_lt_of_le hx1 k1.size
            refine hK.out _ _ (⟨(kx.cell (p := ⟨w.heap.size, 0, none⟩) hx2 id).trans hHeld.1, (kx.cell (p := ⟨w.heap.size, 1, none⟩) hx2 id).trans hHeld.2.1, (kx.cell (p := ⟨w.heap.size, 2, none⟩) hx2 id).trans hHeld.2.2⟩) (fun hHeld => ?_)
            clear hK K
            (try simp only [Act.put]); (try simp only [List.getElem_toArray]); (try simp only [List.getElem_cons_succ]); (try simp only [List.getElem_cons_zero]); (try simp only [List.setIfInBounds_toArray]); (try simp only [List.set_cons_succ]); (try simp only [List.set_cons_zero])
            have rowX := RowIs.alloc W2 #[.slice aK x.fKey.length cK, .slice aV x.fValue.length cV, .int .i64 x.fVersion] 29
            replace own1 := owned_keep own1 kx (fun _ _ h => h)
            have kW := k1.trans kx
            clear kx k1 hr1
            generalize W2.heap.size = gX at *
            generalize W2.alloc (.cells #[.slice aK x.fKey.length cK, .slice aV x.fValue.length cV, .int .i64 x.fVersion] 29) = W2 at *
            obtain ⟨a3, c3, w3, hr3, own3, k3⟩ := appN_run T_lPair 22 (w.heap.size + 1) own1 [.slice aK x.fKey.length cK, .slice aV x.fValue.length cV, .int .i64 x.fVersion] rfl (rowX.lies (fun _ => True) trivial (off := 0) (fun j u hu => by rw [Nat.zero_add]; exact hu)) (fun u hu => List.all_eq_true.1 (show ([.slice aK x.fKey.length cK, .slice aV x.fValue.length cV, .int .i64 x.fVersion] : List Value).all Value.oneCell' = true from rfl) u hu) (c := 1) (m := 1) (by unfold maxLen; omega) (by omega) (by have := hE.out; have := kW.size; omega)
            refine wpAnyH_ready (rs := [6]) (by kernel_rfl) (by simp) ?_
            refine AllReadyH.cons rfl (fun K hK => ?_) AllReadyH.nil
            refine step_app (by kernel_rfl) _ _ rfl rfl rfl hr3 ?_
            have hge2 : ∀ b, OwnB (.slice a1 k c1) b → w.heap.size + 1 ≤ b := fun b hb => (own1.lt b hb).1
            have hne2 : ¬ OwnB (.slice a1 k c1) w.heap.size := fun h => by have := hge2 _ h; omega
            have hwx2 : w.heap.size < W2.heap.size := by have := hE.out; have := kW.size; omega
            refine hK.out _ _ (⟨(k3.cell (p := ⟨w.heap.size, 0, none⟩) hwx2 hne2).trans hHeld.1, (k3.cell (p := ⟨w.heap.size, 1, none⟩) hwx2 hne2).trans hHeld.2.1, (k3.cell (p := ⟨w.heap.size, 2, none⟩) hwx2 hne2).trans hHeld.2.2⟩) (fun hHeld => ?_)
            clear hK K
            (try simp only [Act.put]); (try simp only [List.getElem_toArray]); (try simp only [List.getElem_cons_succ]); (try simp only [List.getElem_cons_zero]); (try simp only [List.setIfInBounds_toArray]); (try simp only [List.set_cons_succ]); (try simp only [List.set_cons_zero])
            have hwx3 : w.heap.size < w3.heap.size := by have := k3.size; omega
            have LR3 := (LR.keep kW (fun _ _ h => h)).keep k3 (fun b hb h => by have := hge2 b h; have hb' : b < w.heap.size := hb; omega)
            obtain ⟨a4, c4, w4, hr4, own4, k4⟩ := appN_run T_lPair 22 (w.heap.size + 1) own3 (css.drop (k)).flatten (m := 0) (c := 0) (by rw [← flat_drop3 H3.out, List.length_drop, HFL.out]; omega) LR3 (fun u hu => HON.out u (by rw [← flat_drop3 H3.out] at hu; exact List.mem_of_mem_drop hu)) (by unfold maxLen; omega) (by omega) (by omega)
            refine wpAnyH_ready (rs := [8]) (by kernel_rfl) (by simp) ?_
            refine AllReadyH.cons rfl (fun K hK => ?_) AllReadyH.nil
            refine step_app (by kernel_rfl) _ _ rfl rfl rfl hr4 ?_
            have hge3 : ∀ b, OwnB (.slice a3 (k + 1) c3) b → w.heap.size + 1 ≤ b := fun b hb => (own3.lt b hb).1
            have hne3 : ¬ OwnB (.slice a3 (k + 1) c3) w.heap.size := fun h => by have := hge3 _ h; omega
            refine hK.out _ _ (⟨(k4.cell (p := ⟨w.heap.size, 0, none⟩) hwx3 hne3).trans hHeld.1, (k4.cell (p := ⟨w.heap.size, 1, none⟩) hwx3 hne3).trans hHeld.2.1, (k4.cell (p := ⟨w.heap.size, 2, none⟩) hwx3 hne3).trans hHeld.2.2⟩) (fun hHeld => ?_)
            clear hK K
            (try simp only [Act.put]); (try simp only [List.getElem_toArray]); (try simp only [List.getElem_cons_succ]); (try simp only [List.getElem_cons_zero]); (try simp only [List.setIfInBounds_toArray]); (try simp only [List.set_cons_succ]); (try simp only [List.set_cons_zero])
            refine wpAnyH_take (i := 9) (v := ?_) rfl (by kernel_rfl) (by kernel_rfl) (by kernel_rfl) (fun _ _ _ h => h) (Or.inl ⟨by kernel_rfl, ?_⟩) hHeld ?_
            rotate_left
            · intro w' hSw
              (try dsimp only at hSw)
              (try simp only [List.getElem_toArray]); (try simp only [List.getElem_cons_succ]); (try simp only [List.getElem_cons_zero])
              go_simp
              try with_reducible rfl
            (try simp only [Act.put]); (try simp only [List.getElem_toArray]); (try simp only [List.getElem_cons_succ]); (try simp only [List.getElem_cons_zero]); (try simp only [List.setIfInBounds_toArray]); (try simp only [List.set_cons_succ]); (try simp only [List.set_cons_zero])
            refine wpAnyH_done (by kernel_rfl) ?_ _
            clear hHeld
            have kAll := (kE.trans kW).then ((k3.mono (T := fun b => w.heap.size + 1 ≤ b) (fun b hb => hge2 b hb)).trans (k4.mono (T := fun b => w.heap.size + 1 ≤ b) (fun b hb => hge3 b hb))) (fun i hi h => by omega)
            have els4 : Els rGPair w4 (fun b => (p b ∨ q b) ∧ b < w.heap.size) (css.take k ++ [.slice aK x.fKey.length cK, .slice aV x.fValue.length cV, .int .i64 x.fVersion] :: css.drop (k)) (l.take k ++ x :: l.drop (k)) := by
              have k24 : Keep (fun b => w.heap.size ≤ b) w w4 := kAll.nixS
              have e1 := ((HEL.out.takeN k).keep rGPair_lawful k24 (fun b hb h => by have := hb.2; omega)).mono (q := fun b => (p b ∨ q b) ∧ b < w.heap.size) rGPair_lawful (fun b hb => ⟨.inl hb.1, hb.2⟩)
              have e2 := ((HEL.out.dropN (k)).keep rGPair_lawful k24 (fun b hb h => by have := hb.2; omega)).mono (q := fun b => (p b ∨ q b) ∧ b < w.heap.size) rGPair_lawful (fun b hb => ⟨.inl hb.1, hb.2⟩)
              have e3 := rGPair_lawful.mono (q := fun b => (p b ∨ q b) ∧ b < w.heap.size) (rGPair_lawful.keep HXX.out k24 (fun b hb h => by have := hb.2; omega)) (fun b hb => ⟨.inr hb.1, hb.2⟩)
              exact e1.app (Els.cons e3 e2)
            have HOWN := Lib.hid own4
            have HE4 := Lib.hid els4
            have HKA := Lib.hid kAll
            clear own1 own3 own4 els4 kAll k3 k4 kE kW hge2 hge3 hne2 hne3 hwx2 hwx3 LR LR3 LA rowX hE
            go_wp2_with fail
            go_ret
            rw [HT.out]
            have hlen : (l.take k ++ x :: l.drop (k)).length = k + 1 + (0) := by rw [List.length_append, List.length_cons, List.length_take, List.length_drop]; omega
            refine ⟨a4, c4, _, by rw [hlen]; rfl, ?_, HE4.out, HKA.out⟩
            rw [hlen, List.flatten_append, List.flatten_cons, ← List.append_assoc]
            exact own_from HOWN.out (by omega)
          · go_simp
            have kx : Keep Nix wE (wE.alloc (.cells #[.slice aK x.fKey.length cK, .slice aV x.fValue.length cV, .int .i64 x.fVersion] 29)) := (Keep.refl Nix wE).alloc _
            have hx1 := hwE.lt
            refine hK.out _ _ (⟨(kx.cell (p := ⟨w.heap.size, 0, none⟩) hx1 id).trans hHeld.1, (kx.cell (p := ⟨w.heap.size, 1, none⟩) hx1 id).trans hHeld.2.1, (kx.cell (p := ⟨w.heap.size, 2, none⟩) hx1 id).trans hHeld.2.2⟩) (fun hHeld => ?_)
            clear hK K
            (try simp only [Act.put]); (try simp only [List.getElem_toArray]); (try simp only [List.getElem_cons_succ]); (try simp only [List.getElem_cons_zero]); (try simp only [List.setIfInBounds_toArray]); (try simp only [List.set_cons_succ]); (try simp only [List.set_cons_zero])
            have rowX := RowIs.alloc wE #[.slice aK x.fKey.length cK, .slice aV x.fValue.length cV, .int .i64 x.fVersion] 29
            have hx2 := Nat.lt_of_lt_of_le hx1 kx.size
            generalize wE.heap.size = gX at rowX ⊢
            generalize wE.alloc (.cells #[.slice aK x.fKey.length cK, .slice aV x.fValue.length cV, .int .i64 x.fVersion] 29) = wY at *
            obtain ⟨a1, c1, W2, hr1, own1, k1⟩ := appN_run T_lPair 22 (w.heap.size + 1) (World.ownsRow_nil wY (w.heap.size + 1) 29 3) (css.take k).flatten (m := k) (c := k) (by rw [← flat_take3 H3.out, List.length_take, HFL.out]; omega) (LA.keep kx (fun _ _ h => h)) (fun u hu => HON.out u (by rw [← flat_take3 H3.out] at hu; exact List.mem_of_mem_take hu)) (by unfold maxLen; omega) (by omega) (by have := hE.out; have := kx.size; omega)
            rw [Nat.zero_add] at hr1 own1
            rw [List.nil_append] at own1
            refine wpAnyH_ready (rs := [3]) (by kernel_rfl) (by simp) ?_
            refine AllReadyH.cons rfl (fun K hK => ?_) AllReadyH.nil
            refine step_app (by kernel_rfl) _ _ rfl rfl rfl hr1 ?_
            replace k1 : Keep Nix wY W2 := k1.mono (fun b h => by cases h)
            refine hK.out _ _ (⟨(k1.cell (p := ⟨w.heap.size, 0, none⟩) hx2 id).trans hHeld.1, (k1.cell (p := ⟨w.heap.size, 1, none⟩) hx2 id).trans hHeld.2.1, (k1.cell (p := ⟨w.heap.size, 2, none⟩) hx2 id).trans hHeld.2.2⟩) (fun hHeld => ?_)
            clear hK K
            (try simp only [Act.put]); (try simp only [List.getElem_toArray]); (try simp only [List.getElem_cons_succ]); (try simp only [List.getElem_cons_zero]); (try simp only [List.setIfInBounds_toArray]); (try simp only [List.set_cons_succ]); (try simp only [List.set_cons_zero])
            replace rowX := rowX.keep k1 id
            have kW := kx.trans k1
            clear kx k1 hr1
            obtain ⟨a3, c3, w3, hr3, own3, k3⟩ := appN_run T_lPair 22 (w.heap.size + 1) own1 [.slice aK x.fKey.length cK, .slice aV x.fValue.length cV, .int .i64 x.fVersion] rfl (rowX.lies (fun _ => True) trivial (off := 0) (fun j u hu => by rw [Nat.zero_add]; exact hu)) (fun u hu => List.all_eq_true.1 (show ([.slice aK x.fKey.length cK, .slice aV x.fValue.length cV, .int .i64 x.fVersion] : List Value).all Value.oneCell' = true from rfl) u hu) (c := 1) (m := 1) (by unfold maxLen; omega) (by omega) (by have := hE.out; have := kW.size; omega)
            refine wpAnyH_ready (rs := [6]) (by kernel_rfl) (by simp) ?_
            refine AllReadyH.cons rfl (fun K hK => ?_) AllReadyH.nil
            refine step_app (by kernel_rfl) _ _ rfl rfl rfl hr3 ?_
            have hge2 : ∀ b, OwnB (.slice a1 k c1) b → w.heap.size + 1 ≤ b := fun b hb => (own1.lt b hb).1
            have hne2 : ¬ OwnB (.slice a1 k c1) w.heap.size := fun h => by have := hge2 _ h; omega
            have hwx2 : w.heap.size < W2.heap.size := by have := hE.out; have := kW.size; omega
            refine hK.out _ _ (⟨(k3.cell (p := ⟨w.heap.size, 0, none⟩) hwx2 hne2).trans hHeld.1, (k3.cell (p := ⟨w.heap.size, 1, none⟩) hwx2 hne2).trans hHeld.2.1, (k3.cell (p := ⟨w.heap.size, 2, none⟩) hwx2 hne2).trans hHeld.2.2⟩) (fun hHeld => ?_)
            clear hK K
            (try simp only [Act.put]); (try simp only [List.getElem_toArray]); (try simp only [List.getElem_cons_succ]); (try simp only [List.getElem_cons_zero]); (try simp only [List.setIfInBounds_toArray]); (try simp only [List.set_cons_succ]); (try simp only [List.set_cons_zero])
            have hwx3 : w.heap.size < w3.heap.size := by have := k3.size; omega
            have LR3 := (LR.keep kW (fun _ _ h => h)).keep k3 (fun b hb h => by have := hge2 b h; have hb' : b < w.heap.size := hb; omega)
            obtain ⟨a4, c4, w4, hr4, own4, k4⟩ := appN_run T_lPair 22 (w.heap.size + 1) own3 (css.drop (k)).flatten (m := 0) (c := 0) (by rw [← flat_drop3 H3.out, List.length_drop, HFL.out]; omega) LR3 (fun u hu => HON.out u (by rw [← flat_drop3 H3.out] at hu; exact List.mem_of_mem_drop hu)) (by unfold maxLen; omega) (by omega) (by omega)
            refine wpAnyH_ready (rs := [8]) (by kernel_rfl) (by simp) ?_
            refine AllReadyH.cons rfl (fun K hK => ?_) AllReadyH.nil
            refine step_app (by kernel_rfl) _ _ rfl rfl rfl hr4 ?_
            have hge3 : ∀ b, OwnB (.slice a3 (k + 1) c3) b → w.heap.size + 1 ≤ b := fun b hb => (own3.lt b hb).1
            have hne3 : ¬ OwnB (.slice a3 (k + 1) c3) w.heap.size := fun h => by have := hge3 _ h; omega
            refine hK.out _ _ (⟨(k4.cell (p := ⟨w.heap.size, 0, none⟩) hwx3 hne3).trans hHeld.1, (k4.cell (p := ⟨w.heap.size, 1, none⟩) hwx3 hne3).trans hHeld.2.1, (k4.cell (p := ⟨w.heap.size, 2, none⟩) hwx3 hne3).trans hHeld.2.2⟩) (fun hHeld => ?_)
            clear hK K
            (try simp only [Act.put]); (try simp only [List.getElem_toArray]); (try simp only [List.getElem_cons_succ]); (try simp only [List.getElem_cons_zero]); (try simp only [List.setIfInBounds_toArray]); (try simp only [List.set_cons_succ]); (try simp only [List.set_cons_zero])
            refine wpAnyH_take (i := 9) (v := ?_) rfl (by kernel_rfl) (by kernel_rfl) (by kernel_rfl) (fun _ _ _ h => h) (Or.inl ⟨by kernel_rfl, ?_⟩) hHeld ?_
            rotate_left
            · intro w' hSw
              (try dsimp only at hSw)
              (try simp only [List.getElem_toArray]); (try simp only [List.getElem_cons_succ]); (try simp only [List.getElem_cons_zero])
              go_simp
              try with_reducible rfl
            (try simp only [Act.put]); (try simp only [List.getElem_toArray]); (try simp only [List.getElem_cons_succ]); (try simp only [List.getElem_cons_zero]); (try simp only [List.setIfInBounds_toArray]); (try simp only [List.set_cons_succ]); (try simp only [List.set_cons_zero])
            refine wpAnyH_done (by kernel_rfl) ?_ _
            clear hHeld
            have kAll := (kE.trans kW).then ((k3.mono (T := fun b => w.heap.size + 1 ≤ b) (fun b hb => hge2 b hb)).trans (k4.mono (T := fun b => w.heap.size + 1 ≤ b) (fun b hb => hge3 b hb))) (fun i hi h => by omega)
            have els4 : Els rGPair w4 (fun b => (p b ∨ q b) ∧ b < w.heap.size) (css.take k ++ [.slice aK x.fKey.length cK, .slice aV x.fValue.length cV, .int .i64 x.fVersion] :: css.drop (k)) (l.take k ++ x :: l.drop (k)) := by
              have k24 : Keep (fun b => w.heap.size ≤ b) w w4 := kAll.nixS
              have e1 := ((HEL.out.takeN k).keep rGPair_lawful k24 (fun b hb h => by have := hb.2; omega)).mono (q := fun b => (p b ∨ q b) ∧ b < w.heap.size) rGPair_lawful (fun b hb => ⟨.inl hb.1, hb.2⟩)
              have e2 := ((HEL.out.dropN (k)).keep rGPair_lawful k24 (fun b hb h => by have := hb.2; omega)).mono (q := fun b => (p b ∨ q b) ∧ b < w.heap.size) rGPair_lawful (fun b hb => ⟨.inl hb.1, hb.2⟩)
              have e3 := rGPair_lawful.mono (q := fun b => (p b ∨ q b) ∧ b < w.heap.size) (rGPair_lawful.keep HXX.out k24 (fun b hb h => by have := hb.2; omega)) (fun b hb => ⟨.inr hb.1, hb.2⟩)
              exact e1.app (Els.cons e3 e2)
            have HOWN := Lib.hid own4
            have HE4 := Lib.hid els4
            have HKA := Lib.hid kAll
            clear own1 own3 own4 els4 kAll k3 k4 kE kW hge2 hge3 hne2 hne3 hwx2 hwx3 LR LR3 LA rowX hE
            go_wp2_with fail
            go_ret
            rw [HT.out]
            have hlen : (l.take k ++ x :: l.drop (k)).length = k + 1 + (0) := by rw [List.length_append, List.length_cons, List.length_take, List.length_drop]; omega
            refine ⟨a4, c4, _, by rw [hlen]; rfl, ?_, HE4.out, HKA.out⟩
            rw [hlen, List.flatten_append, List.flatten_cons, ← List.append_assoc]
            exact own_from HOWN.out (by omega)
        · have HLR : Hid (Lies w (fun b => b < w.heap.size) (some (Addr.add ⟨b0, o0, m0⟩ (k * 3))) (css.drop k).flatten) := HZ.out w _
          go_upto_region 5 with fail
          refine wp_region_held_drew (S := (fun _ => True)) (by kernel_rfl) (trivial) (fun hHeld => ?_)
          have kd5 : Keep Nix wd wd.drew := (Keep.refl Nix wd).drew
          replace kk := kk.trans kd5
          replace rowX0 := rowX0.keep kd5 id
          generalize wd.drew = we at *
          refine wpAnyH_take (i := 0) (v := ?_) rfl (by kernel_rfl) (by kernel_rfl) (by kernel_rfl) (fun _ _ _ h => h) (Or.inl ⟨by kernel_rfl, ?_⟩) hHeld ?_
          rotate_left
          · intro w' hSw
            (try dsimp only at hSw)
            (try simp only [List.getElem_toArray]); (try simp only [List.getElem_cons_succ]); (try simp only [List.getElem_cons_zero])
            go_simp
            try with_reducible rfl
          (try simp only [Act.put]); (try simp only [List.getElem_toArray]); (try simp only [List.getElem_cons_succ]); (try simp only [List.getElem_cons_zero]); (try simp only [List.setIfInBounds_toArray]); (try simp only [List.set_cons_succ]); (try simp only [List.set_cons_zero])
          refine wpAnyH_take (i := 1) (v := ?_) rfl (by kernel_rfl) (by kernel_rfl) (by kernel_rfl) (fun _ _ _ h => h) (Or.inl ⟨by kernel_rfl, ?_⟩) hHeld ?_
          rotate_left
          · intro w' hSw
            (try dsimp only at hSw)
            (try simp only [List.getElem_toArray]); (try simp only [List.getElem_cons_succ]); (try simp only [List.getElem_cons_zero])
            go_simp
            try with_reducible rfl
          (try simp only [Act.put]); (try simp only [List.getElem_toArray]); (try simp only [List.getElem_cons_succ]); (try simp only [List.getElem_cons_zero]); (try simp only [List.setIfInBounds_toArray]); (try simp only [List.set_cons_succ]); (try simp only [List.set_cons_zero])
          refine wpAnyH_take (i := 2) (v := ?_) rfl (by kernel_rfl) (by kernel_rfl) (by kernel_rfl) (fun _ _ _ h => h) (Or.inl ⟨by kernel_rfl, ?_⟩) hHeld ?_
          rotate_left
          · intro w' hSw
            (try dsimp only at hSw)
            (try simp only [List.getElem_toArray]); (try simp only [List.getElem_cons_succ]); (try simp only [List.getElem_cons_zero])
            go_simp
            try with_reducible rfl
          (try simp only [Act.put]); (try simp only [List.getElem_toArray]); (try simp only [List.getElem_cons_succ]); (try simp only [List.getElem_cons_zero]); (try simp only [List.setIfInBounds_toArray]); (try simp only [List.set_cons_succ]); (try simp only [List.set_cons_zero])
          try rw [hdz2]
          refine wpAnyH_take (i := 3) (v := ?_) rfl (by kernel_rfl) (by kernel_rfl) (by kernel_rfl) (fun _ _ _ h => h) (Or.inl ⟨by kernel_rfl, ?_⟩) hHeld ?_
          rotate_left
          · intro w' hSw
            (try dsimp only at hSw)
            (try simp only [List.getElem_toArray]); (try simp only [List.getElem_cons_succ]); (try simp only [List.getElem_cons_zero])
            go_simp
            try with_reducible rfl
          (try simp only [Act.put]); (try simp only [List.getElem_toArray]); (try simp only [List.getElem_cons_succ]); (try simp only [List.getElem_cons_zero]); (try simp only [List.setIfInBounds_toArray]); (try simp only [List.set_cons_succ]); (try simp only [List.set_cons_zero])
          refine wpAnyH_take (i := 4) (v := undef) rfl (by kernel_rfl) (by kernel_rfl) (by kernel_rfl) (fun _ _ _ h => h) (Or.inr ⟨by kernel_rfl, rfl⟩) hHeld ?_
          (try simp only [Act.put]); (try simp only [List.getElem_toArray]); (try simp only [List.getElem_cons_succ]); (try simp only [List.getElem_cons_zero]); (try simp only [List.setIfInBounds_toArray]); (try simp only [List.set_cons_succ]); (try simp only [List.set_cons_zero])
          refine wpAnyH_take (i := 5) (v := undef) rfl (by kernel_rfl) (by kernel_rfl) (by kernel_rfl) (fun _ _ _ h => h) (Or.inr ⟨by kernel_rfl, rfl⟩) hHeld ?_
          (try simp only [Act.put]); (try simp only [List.getElem_toArray]); (try simp only [List.getElem_cons_succ]); (try simp only [List.getElem_cons_zero]); (try simp only [List.setIfInBounds_toArray]); (try simp only [List.set_cons_succ]); (try simp only [List.set_cons_zero])
          refine wpAnyH_take (i := 6) (v := undef) rfl (by kernel_rfl) (by kernel_rfl) (by kernel_rfl) (fun _ _ _ h => h) (Or.inr ⟨by kernel_rfl, rfl⟩) hHeld ?_
          (try simp only [Act.put]); (try simp only [List.getElem_toArray]); (try simp only [List.getElem_cons_succ]); (try simp only [List.getElem_cons_zero]); (try simp only [List.setIfInBounds_toArray]); (try simp only [List.set_cons_succ]); (try simp only [List.set_cons_zero])
          refine wpAnyH_take (i := 7) (v := undef) rfl (by kernel_rfl) (by kernel_rfl) (by kernel_rfl) (fun _ _ _ h => h) (Or.inr ⟨by kernel_rfl, rfl⟩) hHeld ?_
          (try simp only [Act.put]); (try simp only [List.getElem_toArray]); (try simp only [List.getElem_cons_succ]); (try simp only [List.getElem_cons_zero]); (try simp only [List.setIfInBounds_toArray]); (try simp only [List.set_cons_succ]); (try simp only [List.set_cons_zero])
          refine wpAnyH_take (i := 8) (v := undef) rfl (by kernel_rfl) (by kernel_rfl) (by kernel_rfl) (fun _ _ _ h => h) (Or.inr ⟨by kernel_rfl, rfl⟩) hHeld ?_
          (try simp only [Act.put]); (try simp only [List.getElem_toArray]); (try simp only [List.getElem_cons_succ]); (try simp only [List.getElem_cons_zero]); (try simp only [List.setIfInBounds_toArray]); (try simp only [List.set_cons_succ]); (try simp only [List.set_cons_zero])
          refine wpAnyH_take (i := 9) (v := undef) rfl (by kernel_rfl) (by kernel_rfl) (by kernel_rfl) (fun _ _ _ h => h) (Or.inr ⟨by kernel_rfl, rfl⟩) hHeld ?_
          (try simp only [Act.put]); (try simp only [List.getElem_toArray]); (try simp only [List.getElem_cons_succ]); (try simp only [List.getElem_cons_zero]); (try simp only [List.setIfInBounds_toArray]); (try simp only [List.set_cons_succ]); (try simp only [List.set_cons_zero])
          refine wpAnyH_take (i := 10) (v := undef) rfl (by kernel_rfl) (by kernel_rfl) (by kernel_rfl) (fun _ _ _ h => h) (Or.inr ⟨by kernel_rfl, rfl⟩) hHeld ?_
          (try simp only [Act.put]); (try simp only [List.getElem_toArray]); (try simp only [List.getElem_cons_succ]); (try simp only [List.getElem_cons_zero]); (try simp only [List.setIfInBounds_toArray]); (try simp only [List.set_cons_succ]); (try simp only [List.set_cons_zero])
          refine wpAnyH_take (i := 11) (v := ?_) rfl (by kernel_rfl) (by kernel_rfl) (by kernel_rfl) (fun _ _ _ h => h) (Or.inl ⟨by kernel_rfl, ?_⟩) hHeld ?_
          rotate_left
          · intro w' hSw
            (try dsimp only at hSw)
            (try simp only [List.getElem_toArray]); (try simp only [List.getElem_cons_succ]); (try simp only [List.getElem_cons_zero])
            go_simp
            try with_reducible rfl
          (try simp only [Act.put]); (try simp only [List.getElem_toArray]); (try simp only [List.getElem_cons_succ]); (try simp only [List.getElem_cons_zero]); (try simp only [List.setIfInBounds_toArray]); (try simp only [List.set_cons_succ]); (try simp only [List.set_cons_zero])
          refine wpAnyH_done (by kernel_rfl) ?_ _
          clear hHeld
          go_upto_region 7 with fail
          have kz : Keep Nix we (we).drew := (Keep.refl Nix _).drew
          have kE := kk.trans kz
          have p0 := (rowX0.keep kz id).cell 0
          (try simp only [List.getElem?_cons_zero] at p0)
          have p1 := (rowX0.keep kz id).cell 1
          (try simp only [List.getElem?_cons_succ] at p1); (try simp only [List.getElem?_cons_zero] at p1)
          have p2 := (rowX0.keep kz id).cell 2
          (try simp only [List.getElem?_cons_succ] at p2); (try simp only [List.getElem?_cons_zero] at p2)
          refine wp_region_held_drew (S := (fun w' => w'.cell? ⟨w.heap.size, 0, none⟩ = some (.slice aK x.fKey.length cK) ∧ w'.cell? ⟨w.heap.size, 1, none⟩ = some (.slice aV x.fValue.length cV) ∧ w'.cell? ⟨w.heap.size, 2, none⟩ = some (.int .i64 x.fVersion))) (by kernel_rfl) (⟨p0, p1, p2⟩) (fun hHeld => ?_)
          have LA := (lies_take3 HLI.out H3.out k).keep kE (fun _ _ h => h)
          have LR := (HLR.out).keep kE (fun _ _ h => h)
          have hE : Hid (w.heap.size + 1 ≤ (we).drew.heap.size) := by show _ ≤ _; have := rowX0.lt; have := kz.size; omega
          have hwE := rowX0.keep kz id
          clear p0 p1 p2 kz rowX0
          generalize (we).drew = wE at *
          refine wpAnyH_take (i := 0) (v := ?_) rfl (by kernel_rfl) (by kernel_rfl) (by kernel_rfl) (fun _ _ _ h => h) (Or.inl ⟨by kernel_rfl, ?_⟩) hHeld ?_
          rotate_left
          · intro w' hSw
            (try dsimp only at hSw)
            (try simp only [List.getElem_toArray]); (try simp only [List.getElem_cons_succ]); (try simp only [List.getElem_cons_zero])
            go_simp
            try with_reducible rfl
          (try simp only [Act.put]); (try simp only [List.getElem_toArray]); (try simp only [List.getElem_cons_succ]); (try simp only [List.getElem_cons_zero]); (try simp only [List.setIfInBounds_toArray]); (try simp only [List.set_cons_succ]); (try simp only [List.set_cons_zero])
          refine wpAnyH_take (i := 1) (v := ?_) rfl (by kernel_rfl) (by kernel_rfl) (by kernel_rfl) (fun _ _ _ h => h) (Or.inl ⟨by kernel_rfl, ?_⟩) hHeld ?_
          rotate_left
          · intro w' hSw
            (try dsimp only at hSw)
            (try simp only [List.getElem_toArray]); (try simp only [List.getElem_cons_succ]); (try simp only [List.getElem_cons_zero])
            go_simp
            try with_reducible rfl
          (try simp only [Act.put]); (try simp only [List.getElem_toArray]); (try simp only [List.getElem_cons_succ]); (try simp only [List.getElem_cons_zero]); (try simp only [List.setIfInBounds_toArray]); (try simp only [List.set_cons_succ]); (try simp only [List.set_cons_zero])
          refine wpAnyH_take (i := 2) (v := ?_) rfl (by kernel_rfl) (by kernel_rfl) (by kernel_rfl) (fun _ _ _ h => h) (Or.inl ⟨by kernel_rfl, ?_⟩) hHeld ?_
          rotate_left
          · intro w' hSw
            (try dsimp only at hSw)
            (try simp only [List.getElem_toArray]); (try simp only [List.getElem_cons_succ]); (try simp only [List.getElem_cons_zero])
            go_simp
            try with_reducible rfl
          (try simp only [Act.put]); (try simp only [List.getElem_toArray]); (try simp only [List.getElem_cons_succ]); (try simp only [List.getElem_cons_zero]); (try simp only [List.setIfInBounds_toArray]); (try simp only [List.set_cons_succ]); (try simp only [List.set_cons_zero])
          refine wpAnyH_take (i := 4) (v := ?_) rfl (by kernel_rfl) (by kernel_rfl) (by kernel_rfl) (fun _ _ _ h => h) (Or.inl ⟨by kernel_rfl, ?_⟩) hHeld ?_
          rotate_left
          · intro w' hSw
            (try dsimp only at hSw)
            (try simp only [List.getElem_toArray]); (try simp only [List.getElem_cons_succ]); (try simp only [List.getElem_cons_zero])
            go_simp
            try with_reducible rfl
          (try simp only [Act.put]); (try simp only [List.getElem_toArray]); (try simp only [List.getElem_cons_succ]); (try simp only [List.getElem_cons_zero]); (try simp only [List.setIfInBounds_toArray]); (try simp only [List.set_cons_succ]); (try simp only [List.set_cons_zero])
          refine wpAnyH_take (i := 7) (v := ?_) rfl (by kernel_rfl) (by kernel_rfl) (by kernel_rfl) (fun _ _ _ h => h) (Or.inl ⟨by kernel_rfl, ?_⟩) hHeld ?_
          rotate_left
          · intro w' hSw
            (try dsimp only at hSw)
            (try simp only [List.getElem_toArray]); (try simp only [List.getElem_cons_succ]); (try simp only [List.getElem_cons_zero])
            go_simp
            try with_reducible rfl
          (try simp only [Act.put]); (try simp only [List.getElem_toArray]); (try simp only [List.getElem_cons_succ]); (try simp only [List.getElem_cons_zero]); (try simp only [List.setIfInBounds_toArray]); (try simp only [List.set_cons_succ]); (try simp only [List.set_cons_zero])
          refine wpAnyH_ready (rs := [3, 5]) (by kernel_rfl) (by simp) ?_
          refine AllReadyH.cons rfl (fun K hK => ?_) (AllReadyH.cons rfl (fun K hK => ?_) AllReadyH.nil)
          · obtain ⟨a1, c1, W2, hr1, own1, k1⟩ := appN_run T_lPair 22 (w.heap.size + 1) (World.ownsRow_nil wE (w.heap.size + 1) 29 3) (css.take k).flatten (m := k) (c := c) (by rw [← flat_take3 H3.out, List.length_take, HFL.out]; omega) LA (fun u hu => HON.out u (by rw [← flat_take3 H3.out] at hu; exact List.mem_of_mem_take hu)) (by unfold maxLen; omega) (by omega) hE.out
            rw [Nat.zero_add] at hr1 own1
            rw [List.nil_append] at own1
            refine step_app (by kernel_rfl) _ _ rfl rfl rfl hr1 ?_
            replace k1 : Keep Nix wE W2 := k1.mono (fun b h => by cases h)
            have hx1 := hwE.lt
            refine hK.out _ _ (⟨(k1.cell (p := ⟨w.heap.size, 0, none⟩) hx1 id).trans hHeld.1, (k1.cell (p := ⟨w.heap.size, 1, none⟩) hx1 id).trans hHeld.2.1, (k1.cell (p := ⟨w.heap.size, 2, none⟩) hx1 id).trans hHeld.2.2⟩) (fun hHeld => ?_)
            clear hK K
            (try simp only [Act.put]); (try simp only [List.getElem_toArray]); (try simp only [List.getElem_cons_succ]); (try simp only [List.getElem_cons_zero]); (try simp only [List.setIfInBounds_toArray]); (try simp only [List.set_cons_succ]); (try simp only [List.set_cons_zero])
            refine wpAnyH_ready (rs := [5]) (by kernel_rfl) (by simp) ?_
            refine AllReadyH.cons rfl (fun K hK => ?_) AllReadyH.nil
            go_simp
            have kx : Keep Nix W2 (W2.alloc (.cells #[.slice aK x.fKey.length cK, .slice aV x.fValue.length cV, .int .i64 x.fVersion] 29)) := (Keep.refl Nix W2).alloc _
            have hx2 := Nat.lt_of_lt_of_le hx1 k1.size
            refine hK.out _ _ (⟨(kx.cell (p := ⟨w.heap.size, 0, none⟩) hx2 id).trans hHeld.1, (kx.cell (p := ⟨w.heap.size, 1, none⟩) hx2 id).trans hHeld.2.1, (kx.cell (p := ⟨w.heap.size, 2, none⟩) hx2 id).trans hHeld.2.2⟩) (fun hHeld => ?_)
            clear hK K
            (try simp only [Act.put]); (try simp only [List.getElem_toArray]); (try simp only [List.getElem_cons_succ]); (try simp only [List.getElem_cons_zero]); (try simp only [List.setIfInBounds_toArray]); (try simp only [List.set_cons_succ]); (try simp only [List.set_cons_zero])
            have rowX := RowIs.alloc W2 #[.slice aK x.fKey.length cK, .slice aV x.fValue.length cV, .int .i64 x.fVersion] 29
            replace own1 := owned_keep own1 kx (fun _ _ h => h)
            have kW := k1.trans kx
            clear kx k1 hr1
            generalize W2.heap.size = gX at *
            generalize W2.alloc (.cells #[.slice aK x.fKey.length cK, .slice aV x.fValue.length cV, .int .i64 x.fVersion] 29) = W2 at *
            obtain ⟨a3, c3, w3, hr3, own3, k3⟩ := appN_run T_lPair 22 (w.heap.size + 1) own1 [.slice aK x.fKey.length cK, .slice aV x.fValue.length cV, .int .i64 x.fVersion] rfl (rowX.lies (fun _ => True) trivial (off := 0) (fun j u hu => by rw [Nat.zero_add]; exact hu)) (fun u hu => List.all_eq_true.1 (show ([.slice aK x.fKey.length cK, .slice aV x.fValue.length cV, .int .i64 x.fVersion] : List Value).all Value.oneCell' = true from rfl) u hu) (c := 1) (m := 1) (by unfold maxLen; omega) (by omega) (by have := hE.out; have := kW.size; omega)
            refine wpAnyH_ready (rs := [6]) (by kernel_rfl) (by simp) ?_
            refine AllReadyH.cons rfl (fun K hK => ?_) AllReadyH.nil
            refine step_app (by kernel_rfl) _ _ rfl rfl rfl hr3 ?_
            have hge2 : ∀ b, OwnB (.slice a1 k c1) b → w.heap.size + 1 ≤ b := fun b hb => (own1.lt b hb).1
            have hne2 : ¬ OwnB (.slice a1 k c1) w.heap.size := fun h => by have := hge2 _ h; omega
            have hwx2 : w.heap.size < W2.heap.size := by have := hE.out; have := kW.size; omega
            refine hK.out _ _ (⟨(k3.cell (p := ⟨w.heap.size, 0, none⟩) hwx2 hne2).trans hHeld.1, (k3.cell (p := ⟨w.heap.size, 1, none⟩) hwx2 hne2).trans hHeld.2.1, (k3.cell (p := ⟨w.heap.size, 2, none⟩) hwx2 hne2).trans hHeld.2.2⟩) (fun hHeld => ?_)
            clear hK K
            (try simp only [Act.put]); (try simp only [List.getElem_toArray]); (try simp only [List.getElem_cons_succ]); (try simp only [List.getElem_cons_zero]); (try simp only [List.setIfInBounds_toArray]); (try simp only [List.set_cons_succ]); (try simp only [List.set_cons_zero])
            have hwx3 : w.heap.size < w3.heap.size := by have := k3.size; omega
            have LR3 := (LR.keep kW (fun _ _ h => h)).keep k3 (fun b hb h => by have := hge2 b h; have hb' : b < w.heap.size := hb; omega)
            obtain ⟨a4, c4, w4, hr4, own4, k4⟩ := appN_run T_lPair 22 (w.heap.size + 1) own3 (css.drop (k)).flatten (m := (l.length - k)) (c := (c - k)) (by rw [← flat_drop3 H3.out, List.length_drop, HFL.out]; omega) LR3 (fun u hu => HON.out u (by rw [← flat_drop3 H3.out] at hu; exact List.mem_of_mem_drop hu)) (by unfold maxLen; omega) (by omega) (by omega)
            refine wpAnyH_ready (rs := [8]) (by kernel_rfl) (by simp) ?_
            refine AllReadyH.cons rfl (fun K hK => ?_) AllReadyH.nil
            refine step_app (by kernel_rfl) _ _ rfl rfl rfl hr4 ?_
            have hge3 : ∀ b, OwnB (.slice a3 (k + 1) c3) b → w.heap.size + 1 ≤ b := fun b hb => (own3.lt b hb).1
            have hne3 : ¬ OwnB (.slice a3 (k + 1) c3) w.heap.size := fun h => by have := hge3 _ h; omega
            refine hK.out _ _ (⟨(k4.cell (p := ⟨w.heap.size, 0, none⟩) hwx3 hne3).trans hHeld.1, (k4.cell (p := ⟨w.heap.size, 1, none⟩) hwx3 hne3).trans hHeld.2.1, (k4.cell (p := ⟨w.heap.size, 2, none⟩) hwx3 hne3).trans hHeld.2.2⟩) (fun hHeld => ?_)
            clear hK K
            (try simp only [Act.put]); (try simp only [List.getElem_toArray]); (try simp only [List.getElem_cons_succ]); (try simp only [List.getElem_cons_zero]); (try simp only [List.setIfInBounds_toArray]); (try simp only [List.set_cons_succ]); (try simp only [List.set_cons_zero])
            refine wpAnyH_take (i := 9) (v := ?_) rfl (by kernel_rfl) (by kernel_rfl) (by kernel_rfl) (fun _ _ _ h => h) (Or.inl ⟨by kernel_rfl, ?_⟩) hHeld ?_
            rotate_left
            · intro w' hSw
              (try dsimp only at hSw)
              (try simp only [List.getElem_toArray]); (try simp only [List.getElem_cons_succ]); (try simp only [List.getElem_cons_zero])
              go_simp
              try with_reducible rfl
            (try simp only [Act.put]); (try simp only [List.getElem_toArray]); (try simp only [List.getElem_cons_succ]); (try simp only [List.getElem_cons_zero]); (try simp only [List.setIfInBounds_toArray]); (try simp only [List.set_cons_succ]); (try simp only [List.set_cons_zero])
            refine wpAnyH_done (by kernel_rfl) ?_ _
            clear hHeld
            have kAll := (kE.trans kW).then ((k3.mono (T := fun b => w.heap.size + 1 ≤ b) (fun b hb => hge2 b hb)).trans (k4.mono (T := fun b => w.heap.size + 1 ≤ b) (fun b hb => hge3 b hb))) (fun i hi h => by omega)
            have els4 : Els rGPair w4 (fun b => (p b ∨ q b) ∧ b < w.heap.size) (css.take k ++ [.slice aK x.fKey.length cK, .slice aV x.fValue.length cV, .int .i64 x.fVersion] :: css.drop (k)) (l.take k ++ x :: l.drop (k)) := by
              have k24 : Keep (fun b => w.heap.size ≤ b) w w4 := kAll.nixS
              have e1 := ((HEL.out.takeN k).keep rGPair_lawful k24 (fun b hb h => by have := hb.2; omega)).mono (q := fun b => (p b ∨ q b) ∧ b < w.heap.size) rGPair_lawful (fun b hb => ⟨.inl hb.1, hb.2⟩)
              have e2 := ((HEL.out.dropN (k)).keep rGPair_lawful k24 (fun b hb h => by have := hb.2; omega)).mono (q := fun b => (p b ∨ q b) ∧ b < w.heap.size) rGPair_lawful (fun b hb => ⟨.inl hb.1, hb.2⟩)
              have e3 := rGPair_lawful.mono (q := fun b => (p b ∨ q b) ∧ b < w.heap.size) (rGPair_lawful.keep HXX.out k24 (fun b hb h => by have := hb.2; omega)) (fun b hb => ⟨.inr hb.1, hb.2⟩)
              exact e1.app (Els.cons e3 e2)
            have HOWN := Lib.hid own4
            have HE4 := Lib.hid els4
            have HKA := Lib.hid kAll
            clear own1 own3 own4 els4 kAll k3 k4 kE kW hge2 hge3 hne2 hne3 hwx2 hwx3 LR LR3 LA rowX hE
            go_wp2_with fail
            go_ret
            rw [HT.out]
            have hlen : (l.take k ++ x :: l.drop (k)).length = k + 1 + ((l.length - k)) := by rw [List.length_append, List.length_cons, List.length_take, List.length_drop]; omega
            refine ⟨a4, c4, _, by rw [hlen]; rfl, ?_, HE4.out, HKA.out⟩
            rw [hlen, List.flatten_append, List.flatten_cons, ← List.append_assoc]
            exact own_from HOWN.out (by omega)
          · go_simp
            have kx : Keep Nix wE (wE.alloc (.cells #[.slice aK x.fKey.length cK, .slice aV x.fValue.length cV, .int .i64 x.fVersion] 29)) := (Keep.refl Nix wE).alloc _
            have hx1 := hwE.lt
            refine hK.out _ _ (⟨(kx.cell (p := ⟨w.heap.size, 0, none⟩) hx1 id).trans hHeld.1, (kx.cell (p := ⟨w.heap.size, 1, none⟩) hx1 id).trans hHeld.2.1, (kx.cell (p := ⟨w.heap.size, 2, none⟩) hx1 id).trans hHeld.2.2⟩) (fun hHeld => ?_)
            clear hK K
            (try simp only [Act.put]); (try simp only [List.getElem_toArray]); (try simp only [List.getElem_cons_succ]); (try simp only [List.getElem_cons_zero]); (try simp only [List.setIfInBounds_toArray]); (try simp only [List.set_cons_succ]); (try simp only [List.set_cons_zero])
            have rowX := RowIs.alloc wE #[.slice aK x.fKey.length cK, .slice aV x.fValue.length cV, .int .i64 x.fVersion] 29
            have hx2 := Nat.lt_of_lt_of_le hx1 kx.size
            generalize wE.heap.size = gX at rowX ⊢
            generalize wE.alloc (.cells #[.slice aK x.fKey.length cK, .slice aV x.fValue.length cV, .int .i64 x.fVersion] 29) = wY at *
            obtain ⟨a1, c1, W2, hr1, own1, k1⟩ := appN_run T_lPair 22 (w.heap.size + 1) (World.ownsRow_nil wY (w.heap.size + 1) 29 3) (css.take k).flatten (m := k) (c := c) (by rw [← flat_take3 H3.out, List.length_take, HFL.out]; omega) (LA.keep kx (fun _ _ h => h)) (fun u hu => HON.out u (by rw [← flat_take3 H3.out] at hu; exact List.mem_of_mem_take hu)) (by unfold maxLen; omega) (by omega) (by have := hE.out; have := kx.size; omega)
            rw [Nat.zero_add] at hr1 own1
            rw [List.nil_append] at own1
            refine wpAnyH_ready (rs := [3]) (by kernel_rfl) (by simp) ?_
            refine AllReadyH.cons rfl (fun K hK => ?_) AllReadyH.nil
            refine step_app (by kernel_rfl) _ _ rfl rfl rfl hr1 ?_
            replace k1 : Keep Nix wY W2 := k1.mono (fun b h => by cases h)
            refine hK.out _ _ (⟨(k1.cell (p := ⟨w.heap.size, 0, none⟩) hx2 id).trans hHeld.1, (k1.cell (p := ⟨w.heap.size, 1, none⟩) hx2 id).trans hHeld.2.1, (k1.cell (p := ⟨w.heap.size, 2, none⟩) hx2 id).trans hHeld.2.2⟩) (fun hHeld => ?_)
            clear hK K
            (try simp only [Act.put]); (try simp only [List.getElem_toArray]); (try simp only [List.getElem_cons_succ]); (try simp only [List.getElem_cons_zero]); (try simp only [List.setIfInBounds_toArray]); (try simp only [List.set_cons_succ]); (try simp only [List.set_cons_zero])
            replace rowX := rowX.keep k1 id
            have kW := kx.trans k1
            clear kx k1 hr1
            obtain ⟨a3, c3, w3, hr3, own3, k3⟩ := appN_run T_lPair 22 (w.heap.size + 1) own1 [.slice aK x.fKey.length cK, .slice aV x.fValue.length cV, .int .i64 x.fVersion] rfl (rowX.lies (fun _ => True) trivial (off := 0) (fun j u hu => by rw [Nat.zero_add]; exact hu)) (fun u hu => List.all_eq_true.1 (show ([.slice aK x.fKey.length cK, .slice aV x.fValue.length cV, .int .i64 x.fVersion] : List Value).all Value.oneCell' = true from rfl) u hu) (c := 1) (m := 1) (by unfold maxLen; omega) (by omega) (by have := hE.out; have := kW.size; omega)
            refine wpAnyH_ready (rs := [6]) (by kernel_rfl) (by simp) ?_
            refine AllReadyH.cons rfl (fun K hK => ?_) AllReadyH.nil
            refine step_app (by kernel_rfl) _ _ rfl rfl rfl hr3 ?_
            have hge2 : ∀ b, OwnB (.slice a1 k c1) b → w.heap.size + 1 ≤ b := fun b hb => (own1.lt b hb).1
            have hne2 : ¬ OwnB (.slice a1 k c1) w.heap.size := fun h => by have := hge2 _ h; omega
            have hwx2 : w.heap.size < W2.heap.size := by have := hE.out; have := kW.size; omega
            refine hK.out _ _ (⟨(k3.cell (p := ⟨w.heap.size, 0, none⟩) hwx2 hne2).trans hHeld.1, (k3.cell (p := ⟨w.heap.size, 1, none⟩) hwx2 hne2).trans hHeld.2.1, (k3.cell (p := ⟨w.heap.size, 2, none⟩) hwx2 hne2).trans hHeld.2.2⟩) (fun hHeld => ?_)
            clear hK K
            (try simp only [Act.put]); (try simp only [List.getElem_toArray]); (try simp only [List.getElem_cons_succ]); (try simp only [List.getElem_cons_zero]); (try simp only [List.setIfInBounds_toArray]); (try simp only [List.set_cons_succ]); (try simp only [List.set_cons_zero])
            have hwx3 : w.heap.size < w3.heap.size := by have := k3.size; omega
            have LR3 := (LR.keep kW (fun _ _ h => h)).keep k3 (fun b hb h => by have := hge2 b h; have hb' : b < w.heap.size := hb; omega)
            obtain ⟨a4, c4, w4, hr4, own4, k4⟩ := appN_run T_lPair 22 (w.heap.size + 1) own3 (css.drop (k)).flatten (m := (l.length - k)) (c := (c - k)) (by rw [← flat_drop3 H3.out, List.length_drop, HFL.out]; omega) LR3 (fun u hu => HON.out u (by rw [← flat_drop3 H3.out] at hu; exact List.mem_of_mem_drop hu)) (by unfold maxLen; omega) (by omega) (by omega)
            refine wpAnyH_ready (rs := [8]) (by kernel_rfl) (by simp) ?_
            refine AllReadyH.cons rfl (fun K hK => ?_) AllReadyH.nil
            refine step_app (by kernel_rfl) _ _ rfl rfl rfl hr4 ?_
            have hge3 : ∀ b, OwnB (.slice a3 (k + 1) c3) b → w.heap.size + 1 ≤ b := fun b hb => (own3.lt b hb).1
            have hne3 : ¬ OwnB (.slice a3 (k + 1) c3) w.heap.size := fun h => by have := hge3 _ h; omega
            refine hK.out _ _ (⟨(k4.cell (p := ⟨w.heap.size, 0, none⟩) hwx3 hne3).trans hHeld.1, (k4.cell (p := ⟨w.heap.size, 1, none⟩) hwx3 hne3).trans hHeld.2.1, (k4.cell (p := ⟨w.heap.size, 2, none⟩) hwx3 hne3).trans hHeld.2.2⟩) (fun hHeld => ?_)
            clear hK K
            (try simp only [Act.put]); (try simp only [List.getElem_toArray]); (try simp only [List.getElem_cons_succ]); (try simp only [List.getElem_cons_zero]); (try simp only [List.setIfInBounds_toArray]); (try simp only [List.set_cons_succ]); (try simp only [List.set_cons_zero])
            refine wpAnyH_take (i := 9) (v := ?_) rfl (by kernel_rfl) (by kernel_rfl) (by kernel_rfl) (fun _ _ _ h => h) (Or.inl ⟨by kernel_rfl, ?_⟩) hHeld ?_
            rotate_left
            · intro w' hSw
              (try dsimp only at hSw)
              (try simp only [List.getElem_toArray]); (try simp only [List.getElem_cons_succ]); (try simp only [List.getElem_cons_zero])
              go_simp
              try with_reducible rfl
            (try simp only [Act.put]); (try simp only [List.getElem_toArray]); (try simp only [List.getElem_cons_succ]); (try simp only [List.getElem_cons_zero]); (try simp only [List.setIfInBounds_toArray]); (try simp only [List.set_cons_succ]); (try simp only [List.set_cons_zero])
            refine wpAnyH_done (by kernel_rfl) ?_ _
            clear hHeld
            have kAll := (kE.trans kW).then ((k3.mono (T := fun b => w.heap.size + 1 ≤ b) (fun b hb => hge2 b hb)).trans (k4.mono (T := fun b => w.heap.size + 1 ≤ b) (fun b hb => hge3 b hb))) (fun i hi h => by omega)
            have els4 : Els rGPair w4 (fun b => (p b ∨ q b) ∧ b < w.heap.size) (css.take k ++ [.slice aK x.fKey.length cK, .slice aV x.fValue.length cV, .int .i64 x.fVersion] :: css.drop (k)) (l.take k ++ x :: l.drop (k)) := by
              have k24 : Keep (fun b => w.heap.size ≤ b) w w4 := kAll.nixS
              have e1 := ((HEL.out.takeN k).keep rGPair_lawful k24 (fun b hb h => by have := hb.2; omega)).mono (q := fun b => (p b ∨ q b) ∧ b < w.heap.size) rGPair_lawful (fun b hb => ⟨.inl hb.1, hb.2⟩)
              have e2 := ((HEL.out.dropN (k)).keep rGPair_lawful k24 (fun b hb h => by have := hb.2; omega)).mono (q := fun b => (p b ∨ q b) ∧ b < w.heap.size) rGPair_lawful (fun b hb => ⟨.inl hb.1, hb.2⟩)
              have e3 := rGPair_lawful.mono (q := fun b => (p b ∨ q b) ∧ b < w.heap.size) (rGPair_lawful.keep HXX.out k24 (fun b hb h => by have := hb.2; omega)) (fun b hb => ⟨.inr hb.1, hb.2⟩)
              exact e1.app (Els.cons e3 e2)
            have HOWN := Lib.hid own4
            have HE4 := Lib.hid els4
            have HKA := Lib.hid kAll
            clear own1 own3 own4 els4 kAll k3 k4 kE kW hge2 hge3 hne2 hne3 hwx2 hwx3 LR LR3 LA rowX hE
            go_wp2_with fail
            go_ret
            rw [HT.out]
            have hlen : (l.take k ++ x :: l.drop (k)).length = k + 1 + ((l.length - k)) := by rw [List.length_append, List.length_cons, List.length_take, List.length_drop]; omega
            refine ⟨a4, c4, _, by rw [hlen]; rfl, ?_, HE4.out, HKA.out⟩
            rw [hlen, List.flatten_append, List.flatten_cons, ← List.append_assoc]
            exact own_from HOWN.out (by omega)
end Go.Proofs.Ythkocgpbpgfocaa
