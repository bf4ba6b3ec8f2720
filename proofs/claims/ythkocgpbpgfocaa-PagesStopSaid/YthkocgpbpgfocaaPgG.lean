/- PAGES: Drop. Printed by mac.py. -/
import Derived.Test.YthkocgpbpgfocaaPgF
import Derived.Test.YthkocgpbpgfocaaPgW
namespace Go.Proofs.Ythkocgpbpgfocaa
open Go.RowKit

def hasK (l : List GPair) (key : List UInt8) : Bool := l.any (fun y => decide (y.fKey = key))
theorem cutK_none {l : List GPair} {key : List UInt8} (h : ∀ x ∈ l, x.fKey ≠ key) : cutK l key = l := List.filter_eq_self.2 (fun y hy => by simp [h y hy])
theorem hasK_none {l : List GPair} {key : List UInt8} (h : ∀ x ∈ l, x.fKey ≠ key) : hasK l key = false := by
  unfold hasK
  rw [List.any_eq_false]
  intro x hx
  simp [h x hx]
theorem RowIs.out0 {w : World} {b : Nat} {e : TypeId} {v : Value} {cs : List Value} (h : RowIs w b e (v :: cs)) : w.cell? ⟨b, 0, none⟩ = some v := (h.cell 0).trans rfl
theorem hasK_some {l : List GPair} {x : GPair} (h : x ∈ l) : hasK l x.fKey = true := List.any_eq_true.2 ⟨x, h, by simp⟩
def DropM (w : World) (O : Nat → Prop) (g : Nat) (l : List GPair) (key : List UInt8) (e : Ending) (w' : World) : Prop :=
  e = .returned (.bool (hasK l key)) ∧ ∃ O', IsMap w' O' g (cutK l key) ∧ (∀ b, O' b → O b ∨ w.heap.size ≤ b) ∧ Keep O w w'
set_option maxRecDepth 100000 in
set_option maxHeartbeats 4000000 in
theorem drop_m {q : Nat → Prop} (O : Nat → Prop) (g : Nat) (l : List GPair) (key : List UInt8) (ak : Option Addr) (ck : Nat) (w : World) (M : IsMap w O g l) (hl : l.length ≤ 100000) (hk : Lies w q ak (key.map bv)) :
    Calls Try.prog 20 #[.pointer (some ⟨g, 0, none⟩), .slice ak key.length ck] w (DropM w O g l key) := by
  obtain ⟨L, B, aP, cP, S, MI, ok, hr, rfl⟩ := M
  have hLn := pages_len (fun l hl => (ok.one l hl).1)
  have HM := Lib.hid MI
  have HOK := Lib.hid ok
  have HR := Lib.hid hr
  rcases Nat.eq_zero_or_pos L.length with hL0 | hL0
  · have row := MI.row
    rw [hL0] at row
    have hz := find_zero g cP aP (.slice ak key.length ck) w row
    obtain rfl : L = [] := List.eq_nil_of_length_eq_zero hL0
    clear MI ok hr row hk
    go_enter Try.func20, Try.ntmps20
    go_wp2_with fail
    go_fit hz
    clear hz
    rintro e w1 ⟨rfl, rfl⟩
    go_wp2_with fail
    go_ret
    exact ⟨rfl, O, ⟨[], B, aP, cP, S, HM.out, HOK.out, HR.out, rfl⟩, fun b hb => .inl hb, Keep.refl _ _⟩
  have hfar : ∀ l ∈ L, l.length ≤ far := fun l hl => by have := (ok.one l hl).2; unfold far; omega
  have hfc := find_c g aP ak cP ck L key w MI.row (MI.pages (by unfold far; omega) hfar) (fun l hl => (ok.one l hl).1) hr hL0 hk
  clear hfar hk ok hr MI
  go_enter Try.func20, Try.ntmps20
  go_wp2_with fail
  go_fit hfc
  clear hfc
  rintro e w1 ⟨i, k, is, rfl, FP, k1⟩
  have M1 := HM.out.keep k1.nix (T := fun _ => False) (fun _ _ h => h)
  cases is with
  | false =>
    have HN := Lib.hid (FP.no rfl)
    clear FP
    go_wp2_with fail
    go_ret
    have hno : ∀ x ∈ L.flatten, x.fKey ≠ key := HN.out
    exact ⟨ret_bool (hasK_none hno).symm, O, ⟨L, B, aP, cP, S, M1, HOK.out, HR.out, (cutK_none hno).symm⟩, fun b hb => .inl hb, k1.nix⟩
  | true =>
    obtain ⟨bP, restP, rfl, -, rowPg, hPl, -, -, hcP⟩ := own_row M1.own hL0
    have hi := FP.hi
    obtain ⟨hk, hkey⟩ := FP.yes rfl
    obtain ⟨hiS, ai, ci, css, eS, ownI, elsI⟩ := M1.pg i hi
    have hli := HOK.out.one _ (List.getElem_mem hi)
    rw [eS] at ownI
    obtain ⟨bi, resti, rfl, -, rowI, hIl, hIx, hIc, hcI⟩ := own_row ownI hli.1
    have hbPi : bP ≠ bi := fun e => (M1.oS _ (List.getElem_mem hiS) bi (by rw [eS]; rfl)).2.2 (by rw [← e]; rfl)
    have hgi : g ≠ bi := fun e => (M1.oS _ (List.getElem_mem hiS) bi (by rw [eS]; rfl)).2.1 e.symm
    have hgP : g ≠ bP := fun e => (M1.oP bP rfl).2 e.symm
    have hOi : O bi := (M1.oS _ (List.getElem_mem hiS) bi (by rw [eS]; rfl)).1
    have hOP : O bP := (M1.oP bP rfl).1
    have hSl := M1.len
    have HF := Lib.hid FP
    have HKY := Lib.hid hkey
    have hii0 : (0 : Int) ≤ (i : Int) := by omega
    have hii1 : (i : Int) < (L.length : Int) := by omega
    have hcell : (S ++ restP)[i]? = some (.slice (some ⟨bi, 0, none⟩) L[i].length ci) := by rw [List.getElem?_append_left hiS, List.getElem?_eq_getElem hiS, eS]
    have hki1 : (k : Int) < (L[i].length : Int) := by omega
    have hl8 : (L[i].length : Int) ≤ 8 := by omega
    have hwk : IntKind.i64.wrap ((k : Int) + 1) = (k : Int) + 1 := by rw [IntKind.wrap_i64]; omega
    have e1 : ((k + 1 : Nat) : Int) = (k : Int) + 1 := by omega
    have HES := Lib.hid eS
    clear eS hkey
    go_upto_region 4 with fail
    have kd : Keep Nix w1 w1.drew := (Keep.refl Nix w1).drew
    have x0 := M1.row.cell 0
    (try simp only [List.getElem?_cons_zero] at x0)
    have y0 := (rowPg.cell i).trans hcell
    refine wp_region_held_drew (S := (fun w' => w'.cell? ⟨g, 0, none⟩ = some (.slice (some ⟨bP, 0, none⟩) L.length cP))) (by kernel_rfl) (x0) (fun hHeld => ?_)
    clear x0
    have rowPd := rowPg.keep kd id
    have rowGd := M1.row.keep kd id
    replace y0 := (kd.cell (p := ⟨bP, i, none⟩) rowPg.lt id).trans y0
    generalize w1.drew = wd at *
    refine wpAnyH_take (i := 0) (v := ?_) rfl (by kernel_rfl) (by kernel_rfl) (by kernel_rfl) (fun _ _ _ h => h) (Or.inl ⟨by kernel_rfl, ?_⟩) hHeld ?_
    rotate_left
    · intro w' hSw
      (try dsimp only at hSw)
      (try simp only [List.getElem_toArray]); (try simp only [List.getElem_cons_succ]); (try simp only [List.getElem_cons_zero])
      go_simp
      try with_reducible rfl
    (try simp only [Act.put]); (try simp only [List.getElem_toArray]); (try simp only [List.getElem_cons_succ]); (try simp only [List.getElem_cons_zero]); (try simp only [List.setIfInBounds_toArray]); (try simp only [List.set_cons_succ]); (try simp only [List.set_cons_zero])
    refine wpAnyH_take (i := 1) (v := ?_) rfl (by kernel_rfl) (by kernel_rfl) (by kernel_rfl) (fun _ _ _ h => h) (Or.inl ⟨by kernel_rfl, ?_⟩) hHeld ?_
    rotate_left
    · intro w' hSw
      (try dsimp only at hSw)
      (try simp only [List.getElem_toArray]); (try simp only [List.getElem_cons_succ]); (try simp only [List.getElem_cons_zero])
      go_simp
      try with_reducible rfl
    (try simp only [Act.put]); (try simp only [List.getElem_toArray]); (try simp only [List.getElem_cons_succ]); (try simp only [List.getElem_cons_zero]); (try simp only [List.setIfInBounds_toArray]); (try simp only [List.set_cons_succ]); (try simp only [List.set_cons_zero])
    refine wpAnyH_take (i := 2) (v := ?_) rfl (by kernel_rfl) (by kernel_rfl) (by kernel_rfl) (fun _ _ _ h => h) (Or.inl ⟨by kernel_rfl, ?_⟩) hHeld ?_
    rotate_left
    · intro w' hSw
      (try dsimp only at hSw)
      (try simp only [List.getElem_toArray]); (try simp only [List.getElem_cons_succ]); (try simp only [List.getElem_cons_zero])
      go_simp
      try with_reducible rfl
    (try simp only [Act.put]); (try simp only [List.getElem_toArray]); (try simp only [List.getElem_cons_succ]); (try simp only [List.getElem_cons_zero]); (try simp only [List.setIfInBounds_toArray]); (try simp only [List.set_cons_succ]); (try simp only [List.set_cons_zero])
    refine wpAnyH_take (i := 3) (v := ?_) rfl (by kernel_rfl) (by kernel_rfl) (by kernel_rfl) (fun _ _ _ h => h) (Or.inl ⟨by kernel_rfl, ?_⟩) hHeld ?_
    rotate_left
    · intro w' hSw
      (try dsimp only at hSw)
      (try simp only [List.getElem_toArray]); (try simp only [List.getElem_cons_succ]); (try simp only [List.getElem_cons_zero])
      go_simp
      try with_reducible rfl
    (try simp only [Act.put]); (try simp only [List.getElem_toArray]); (try simp only [List.getElem_cons_succ]); (try simp only [List.getElem_cons_zero]); (try simp only [List.setIfInBounds_toArray]); (try simp only [List.set_cons_succ]); (try simp only [List.set_cons_zero])
    refine wpAnyH_take (i := 4) (v := ?_) rfl (by kernel_rfl) (by kernel_rfl) (by kernel_rfl) (fun _ _ _ h => h) (Or.inl ⟨by kernel_rfl, ?_⟩) hHeld ?_
    rotate_left
    · intro w' hSw
      (try dsimp only at hSw)
      (try simp only [List.getElem_toArray]); (try simp only [List.getElem_cons_succ]); (try simp only [List.getElem_cons_zero])
      go_simp
      try with_reducible rfl
    (try simp only [Act.put]); (try simp only [List.getElem_toArray]); (try simp only [List.getElem_cons_succ]); (try simp only [List.getElem_cons_zero]); (try simp only [List.setIfInBounds_toArray]); (try simp only [List.set_cons_succ]); (try simp only [List.set_cons_zero])
    refine wpAnyH_take (i := 5) (v := ?_) rfl (by kernel_rfl) (by kernel_rfl) (by kernel_rfl) (fun _ _ _ h => h) (Or.inl ⟨by kernel_rfl, ?_⟩) hHeld ?_
    rotate_left
    · intro w' hSw
      (try dsimp only at hSw)
      (try simp only [List.getElem_toArray]); (try simp only [List.getElem_cons_succ]); (try simp only [List.getElem_cons_zero])
      go_simp
      try with_reducible rfl
    (try simp only [Act.put]); (try simp only [List.getElem_toArray]); (try simp only [List.getElem_cons_succ]); (try simp only [List.getElem_cons_zero]); (try simp only [List.setIfInBounds_toArray]); (try simp only [List.set_cons_succ]); (try simp only [List.set_cons_zero])
    refine wpAnyH_take (i := 6) (v := ?_) rfl (by kernel_rfl) (by kernel_rfl) (by kernel_rfl) (fun _ _ _ h => h) (Or.inl ⟨by kernel_rfl, ?_⟩) hHeld ?_
    rotate_left
    · intro w' hSw
      (try dsimp only at hSw)
      (try simp only [List.getElem_toArray]); (try simp only [List.getElem_cons_succ]); (try simp only [List.getElem_cons_zero])
      go_simp
      try with_reducible rfl
    (try simp only [Act.put]); (try simp only [List.getElem_toArray]); (try simp only [List.getElem_cons_succ]); (try simp only [List.getElem_cons_zero]); (try simp only [List.setIfInBounds_toArray]); (try simp only [List.set_cons_succ]); (try simp only [List.set_cons_zero])
    refine wpAnyH_take (i := 7) (v := ?_) rfl (by kernel_rfl) (by kernel_rfl) (by kernel_rfl) (fun _ _ _ h => h) (Or.inl ⟨by kernel_rfl, ?_⟩) hHeld ?_
    rotate_left
    · intro w' hSw
      (try dsimp only at hSw)
      (try simp only [List.getElem_toArray]); (try simp only [List.getElem_cons_succ]); (try simp only [List.getElem_cons_zero])
      go_simp
      try with_reducible rfl
    (try simp only [Act.put]); (try simp only [List.getElem_toArray]); (try simp only [List.getElem_cons_succ]); (try simp only [List.getElem_cons_zero]); (try simp only [List.setIfInBounds_toArray]); (try simp only [List.set_cons_succ]); (try simp only [List.set_cons_zero])
    refine wpAnyH_take (i := 8) (v := ?_) rfl (by kernel_rfl) (by kernel_rfl) (by kernel_rfl) (fun _ _ _ h => h) (Or.inl ⟨by kernel_rfl, ?_⟩) hHeld ?_
    rotate_left
    · intro w' hSw
      (try dsimp only at hSw)
      (try simp only [List.getElem_toArray]); (try simp only [List.getElem_cons_succ]); (try simp only [List.getElem_cons_zero])
      go_simp
      try with_reducible rfl
    (try simp only [Act.put]); (try simp only [List.getElem_toArray]); (try simp only [List.getElem_cons_succ]); (try simp only [List.getElem_cons_zero]); (try simp only [List.setIfInBounds_toArray]); (try simp only [List.set_cons_succ]); (try simp only [List.set_cons_zero])
    refine wpAnyH_take (i := 9) (v := ?_) rfl (by kernel_rfl) (by kernel_rfl) (by kernel_rfl) (fun _ _ _ h => h) (Or.inl ⟨by kernel_rfl, ?_⟩) hHeld ?_
    rotate_left
    · intro w' hSw
      (try dsimp only at hSw)
      (try simp only [List.getElem_toArray]); (try simp only [List.getElem_cons_succ]); (try simp only [List.getElem_cons_zero])
      go_simp
      try with_reducible rfl
    (try simp only [Act.put]); (try simp only [List.getElem_toArray]); (try simp only [List.getElem_cons_succ]); (try simp only [List.getElem_cons_zero]); (try simp only [List.setIfInBounds_toArray]); (try simp only [List.set_cons_succ]); (try simp only [List.set_cons_zero])
    refine wpAnyH_take (i := 10) (v := ?_) rfl (by kernel_rfl) (by kernel_rfl) (by kernel_rfl) (fun _ _ _ h => h) (Or.inl ⟨by kernel_rfl, ?_⟩) hHeld ?_
    rotate_left
    · intro w' hSw
      (try dsimp only at hSw)
      (try simp only [List.getElem_toArray]); (try simp only [List.getElem_cons_succ]); (try simp only [List.getElem_cons_zero])
      go_simp
      try with_reducible rfl
    (try simp only [Act.put]); (try simp only [List.getElem_toArray]); (try simp only [List.getElem_cons_succ]); (try simp only [List.getElem_cons_zero]); (try simp only [List.setIfInBounds_toArray]); (try simp only [List.set_cons_succ]); (try simp only [List.set_cons_zero])
    refine wpAnyH_take (i := 12) (v := ?_) rfl (by kernel_rfl) (by kernel_rfl) (by kernel_rfl) (fun _ _ _ h => h) (Or.inl ⟨by kernel_rfl, ?_⟩) hHeld ?_
    rotate_left
    · intro w' hSw
      (try dsimp only at hSw)
      (try simp only [List.getElem_toArray]); (try simp only [List.getElem_cons_succ]); (try simp only [List.getElem_cons_zero])
      go_simp
      try with_reducible rfl
    (try simp only [Act.put]); (try simp only [List.getElem_toArray]); (try simp only [List.getElem_cons_succ]); (try simp only [List.getElem_cons_zero]); (try simp only [List.setIfInBounds_toArray]); (try simp only [List.set_cons_succ]); (try simp only [List.set_cons_zero])
    refine wpAnyH_take (i := 13) (v := ?_) rfl (by kernel_rfl) (by kernel_rfl) (by kernel_rfl) (fun _ _ _ h => h) (Or.inl ⟨by kernel_rfl, ?_⟩) hHeld ?_
    rotate_left
    · intro w' hSw
      (try dsimp only at hSw)
      (try simp only [List.getElem_toArray]); (try simp only [List.getElem_cons_succ]); (try simp only [List.getElem_cons_zero])
      go_simp
      try with_reducible rfl
    (try simp only [Act.put]); (try simp only [List.getElem_toArray]); (try simp only [List.getElem_cons_succ]); (try simp only [List.getElem_cons_zero]); (try simp only [List.setIfInBounds_toArray]); (try simp only [List.set_cons_succ]); (try simp only [List.set_cons_zero])
    refine wpAnyH_take (i := 14) (v := ?_) rfl (by kernel_rfl) (by kernel_rfl) (by kernel_rfl) (fun _ _ _ h => h) (Or.inl ⟨by kernel_rfl, ?_⟩) hHeld ?_
    rotate_left
    · intro w' hSw
      (try dsimp only at hSw)
      (try simp only [List.getElem_toArray]); (try simp only [List.getElem_cons_succ]); (try simp only [List.getElem_cons_zero])
      go_simp
      try with_reducible rfl
    (try simp only [Act.put]); (try simp only [List.getElem_toArray]); (try simp only [List.getElem_cons_succ]); (try simp only [List.getElem_cons_zero]); (try simp only [List.setIfInBounds_toArray]); (try simp only [List.set_cons_succ]); (try simp only [List.set_cons_zero])
    refine wpAnyH_ready (rs := [11]) (by kernel_rfl) (by simp) ?_
    refine AllReadyH.cons rfl (fun K hK => ?_) AllReadyH.nil
    go_simp
    refine hK.out _ _ (hHeld) (fun hHeld => ?_)
    clear hK K
    (try simp only [Act.put]); (try simp only [List.getElem_toArray]); (try simp only [List.getElem_cons_succ]); (try simp only [List.getElem_cons_zero]); (try simp only [List.setIfInBounds_toArray]); (try simp only [List.set_cons_succ]); (try simp only [List.set_cons_zero])
    clear y0
    have hD := Delete_cA wd 0 L[i].length ci k (k + 1) rfl (some ⟨bi, 0, none⟩) css.flatten (owned_keep ownI kd (fun _ _ h => h)) (ones3 elsI) hk
    rw [e1] at hD
    refine wpAnyH_ready (rs := [15]) (by kernel_rfl) (by simp) ?_
    refine AllReadyH.cons rfl (fun K hK => ?_) AllReadyH.nil
    go_simp
    go_fit hD
    rintro e w3 ⟨rfl, own3, k3⟩
    go_wp2_with fail
    have k3' : Keep (· = bi) wd w3 := k3.mono (fun b hb => by have e : some bi = some b := hb; cases e; rfl)
    refine hK.out _ _ ((k3'.cell (p := ⟨g, 0, none⟩) rowGd.lt hgi).trans hHeld) (fun hHeld => ?_)
    clear hK K
    (try simp only [Act.put]); (try simp only [List.getElem_toArray]); (try simp only [List.getElem_cons_succ]); (try simp only [List.getElem_cons_zero]); (try simp only [List.setIfInBounds_toArray]); (try simp only [List.set_cons_succ]); (try simp only [List.set_cons_zero])
    have rowP3 := rowPd.keep k3' hbPi
    have y3 := (rowP3.cell i).trans hcell
    have f3 := rowP3.frozen i
    clear hD
    refine wpAnyH_take (i := 16) (v := ?_) rfl (by kernel_rfl) (by kernel_rfl) (by kernel_rfl) (fun _ _ _ h => h) (Or.inl ⟨by kernel_rfl, ?_⟩) hHeld ?_
    rotate_left
    · intro w' hSw
      (try dsimp only at hSw)
      (try simp only [List.getElem_toArray]); (try simp only [List.getElem_cons_succ]); (try simp only [List.getElem_cons_zero])
      go_simp
      try with_reducible rfl
    (try simp only [Act.put]); (try simp only [List.getElem_toArray]); (try simp only [List.getElem_cons_succ]); (try simp only [List.getElem_cons_zero]); (try simp only [List.setIfInBounds_toArray]); (try simp only [List.set_cons_succ]); (try simp only [List.set_cons_zero])
    refine wpAnyH_ready (rs := [17]) (by kernel_rfl) (by simp) ?_
    refine AllReadyH.cons rfl (fun K hK => ?_) AllReadyH.nil
    go_simp
    have k4 : Keep (· = bP) w3 (w3.setCell ⟨bP, i, none⟩ (.slice (some ⟨bi, 0, none⟩) (L[i].length - 1) ci)) := (Keep.refl (· = bP) w3).setCell (p := ⟨bP, i, none⟩) (fun _ => rfl) _
    have rowP4 := rowP3.set i (.slice (some ⟨bi, 0, none⟩) (L[i].length - 1) ci)
    rw [List.set_append_left _ _ hiS] at rowP4
    refine hK.out _ _ ((k4.cell (p := ⟨g, 0, none⟩) (Nat.lt_of_lt_of_le rowGd.lt k3.size) hgP).trans ((k3'.cell (p := ⟨g, 0, none⟩) rowGd.lt hgi).trans rowGd.out0)) (fun hHeld => ?_)
    clear hK K
    (try simp only [Act.put]); (try simp only [List.getElem_toArray]); (try simp only [List.getElem_cons_succ]); (try simp only [List.getElem_cons_zero]); (try simp only [List.setIfInBounds_toArray]); (try simp only [List.set_cons_succ]); (try simp only [List.set_cons_zero])
    refine wpAnyH_done (by kernel_rfl) ?_ _
    clear hHeld y3 f3
    have h3 := elsI.lens3
    have hd : (delAt L[i] k).length = L[i].length - 1 := delAt_len _ _ hk
    have k13 : Keep (· = bi) w1 w3 := kd.nix.trans k3'
    have own4 := row_own (base := 0) (sz := 1) (n := L.length) (cap := cP) rowP4 (Nat.zero_le _) (by rw [List.length_append, List.length_set, ← List.length_append]; exact hPl) (by rw [List.length_set]; omega) (owned_bounds M1.own).2.1 hcP
    have hfl : css.flatten.take (k * 3) ++ css.flatten.drop ((k + 1) * 3) = (delAt css k).flatten := by rw [flat_take3 h3, flat_drop3 h3]; unfold delAt; rw [List.flatten_append]
    rw [hfl] at own3
    have P4 : PageIs (w3.setCell ⟨bP, i, none⟩ (.slice (some ⟨bi, 0, none⟩) (L[i].length - 1) ci)) B (.slice (some ⟨bi, 0, none⟩) (L[i].length - 1) ci) (delAt L[i] k) :=
      ⟨some ⟨bi, 0, none⟩, ci, delAt css k, by rw [hd], by rw [hd]; exact owned_keep own3 k4 (fun b hb e => by have e2 : some bi = some b := hb; cases e2; exact hbPi e.symm), ((elsI.delK k).keep rGPair_lawful k13 (fun b hb e => (M1.oB b hb).2.2.2 _ (List.getElem_mem hiS) (by rw [HES.out, e]; rfl))).keep rGPair_lawful k4 (fun b hb e => (M1.oB b hb).2.2.1 (by rw [e]; rfl))⟩
    have kT : Keep (fun b => b = bi ∨ b = bP) w1 (w3.setCell ⟨bP, i, none⟩ (.slice (some ⟨bi, 0, none⟩) (L[i].length - 1) ci)) := (k13.mono (fun b hb => .inl hb)).trans (k4.mono (fun b hb => .inr hb))
    have M4 := M1.setPage hi kT (fun b hb => by
      rcases hb with rfl | rfl
      · exact .inr ⟨hiS, by rw [HES.out]; rfl⟩
      · exact .inl rfl) own4 P4 (fun b hb => .inl ⟨hiS, by rw [HES.out]; exact hb⟩) (fun _ h => h) (fun b hb => .inl hb)
    have hgD : L.getD i [] = L[i] := by rw [List.getD_eq_getElem?_getD, List.getElem?_eq_getElem hi, Option.getD_some]
    have N4 := near_of HOK.out hi hk
    have hdF : dropF L i k = mendF (L.set i (delAt L[i] k)) i := by unfold dropF; rw [hgD]
    rw [hgD] at N4
    have kAll : Keep O w1 (w3.setCell ⟨bP, i, none⟩ (.slice (some ⟨bi, 0, none⟩) (L[i].length - 1) ci)) := kT.mono (fun b hb => by
      rcases hb with rfl | rfl
      · exact hOi
      · exact hOP)
    have hmc := mend_c _ B g (some ⟨bP, 0, none⟩) cP _ _ _ M4 i N4 (by rw [List.length_set]; omega)
    have HM4 := Lib.hid M4
    have HKA := Lib.hid kAll
    clear own3 own4 P4 kT M4 N4 rowP4 k4 k13 k3' k3 rowPd rowGd rowP3 rowI ownI elsI kAll M1 hcell
    go_wp2_with fail
    go_fit hmc
    clear hmc
    rintro e w5 ⟨rfl, O', B', aP', cP', S', M5, hO5, k5⟩
    go_wp2_with fail
    go_ret
    have hmem : L[i][k] ∈ L.flatten := List.mem_flatten.2 ⟨_, List.getElem_mem hi, List.getElem_mem hk⟩
    refine ⟨ret_bool (by rw [← HKY.out]; exact (hasK_some hmem).symm), O', ⟨_, B', aP', cP', S', M5, mendF_ok (by have := near_of HOK.out hi hk; rw [hgD] at this; exact this), ?_, ?_⟩, fun b hb => ?_, ?_⟩
    · unfold RisingL
      rw [← hdF, dropF_flat HR.out HF.out]
      exact cutK_rising HR.out key
    · rw [← hdF]; exact dropF_flat HR.out HF.out
    · rcases hO5 b hb with (h | h) | h
      · exact .inl h
      · exact .inr (Nat.le_trans k1.size h.1)
      · exact .inr (Nat.le_trans (Nat.le_trans k1.size HKA.out.size) h)
    · exact k1.nix.trans (HKA.out.then k5 (fun b hb h => by
        rcases h with h | h
        · exact h
        · have := h.1; omega))
end Go.Proofs.Ythkocgpbpgfocaa
